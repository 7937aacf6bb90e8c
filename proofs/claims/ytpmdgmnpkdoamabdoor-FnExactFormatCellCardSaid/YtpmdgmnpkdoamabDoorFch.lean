/- Proved here: math.Frexp and math.Ldexp(.., 53) of a double with all its digits. Condition: the double has all its digits. -/
import Derived.Test.YtpmdgmnpkdoamabDoorFcg
namespace Go.Proofs.YtpmdgmnpkdoamabDoor.Vc
open Go.RowKit Fl Prom Go.Proofs.YtpmdgmnpkdoamabDoorW.PrintWords
open Ieee (double Format Datum)
set_option linter.unusedVariables false
set_option linter.unusedSimpArgs false
def ONE : Nat := 4607182418800017408
theorem one_read : double.read ONE = .number false (2 ^ 52) (-52) := by decide
theorem log2_52 {m : Nat} (h2 : 2 ^ 52 ≤ m) (h3 : m < 2 ^ 53) : m.log2 = 52 := (Nat.log2_eq_iff (by omega)).2 ⟨h2, h3⟩
theorem mul_one {s : Bool} {m : Nat} {e : Int} {y : Nat} (h : Nrm s m e y) : double.mul ONE y = some y := by
  have hw := nrm_word h
  obtain ⟨hx, h1, h2, h3, h4, h5⟩ := h
  unfold Format.mul
  rw [one_read, h1]
  simp only [Datum.product, Option.map_some, Format.write, Bool.false_xor]
  congr 1
  have hb := nearest_back s (e + 1074).toNat m (by omega) (.inr (log2_52 h2 h3)) (by rw [dbl_inf]; omega)
  rw [show (-52 + (-1074 + (((e + 1074).toNat : Nat) : Int))) = -52 + e by omega] at hb
  rw [hb]
  unfold Format.word
  rw [dbl_sign]
  cases s
  · simp only [Bool.false_eq_true, if_false] at hw ⊢
    omega
  · simp only [if_true] at hw ⊢
    omega
theorem i64_and_nat (a b : Nat) (ha : a < 9223372036854775808) (hb : b < 9223372036854775808) : bits .and .i64 (a : Int) (b : Int) = ((a &&& b : Nat) : Int) := by
  have hx : a &&& b < 2 ^ 63 := Nat.and_lt_two_pow _ (by omega)
  show IntKind.i64.wrap ((BitVec.ofInt 64 (a : Int) &&& BitVec.ofInt 64 (b : Int)).toNat : Int) = _
  rw [BitVec.toNat_and, ofInt_u64 a (by omega), ofInt_u64 b (by omega), wrap_i64]
  unfold wrap64
  omega
theorem exp52 {s : Bool} {m : Nat} {x : Nat} (h : Nrm s m (-53) x) : wrap64 (53 + wrap64 (bits BinOp.and IntKind.i64 (wrap64 ((x : Int) / 4503599627370496)) 2047 - 1023)) = 52 := by
  have hw := nrm_word h
  obtain ⟨hx, _, h2, h3, h4, h5⟩ := h
  have h6 := i64_and_nat (x / 4503599627370496) 2047 (by omega) (by omega)
  have h7 : x / 4503599627370496 &&& 2047 = 1022 := by
    have := field_shr (ex := 1022) (fr := m - 2 ^ 52) s (by omega) (by omega)
    rw [show ((-53 : Int) + 1075).toNat = 1022 from rfl] at hw
    rw [← hw, Nat.shiftRight_eq_div_pow] at this
    exact this
  rw [h7] at h6
  have h8 : wrap64 ((x : Int) / 4503599627370496) = ((x / 4503599627370496 : Nat) : Int) := by
    rw [Int.natCast_ediv]
    unfold wrap64
    omega
  rw [h8, show bits BinOp.and IntKind.i64 ((x / 4503599627370496 : Nat) : Int) 2047 = _ from h6]
  unfold wrap64
  omega
theorem ldexp_bits {s : Bool} {m : Nat} {x : Nat} (h : Nrm s m (-53) x) : Nrm s m 0 (bits BinOp.or IntKind.u64 (bits BinOp.andNot IntKind.u64 (x : Int) 9218868437227405312) 4841369599423283200).toNat := by
  have hw := nrm_word h
  obtain ⟨hx, _, h2, h3, h4, h5⟩ := h
  have h6 := u64_andNot_nat x 9218868437227405312 hx (by omega)
  have h7 : x &&& (18446744073709551615 - 9218868437227405312) = (if s then negZero else 0) + (m - 2 ^ 52) := by
    rw [hw]
    exact field_clear s (by omega) (by omega)
  rw [h7] at h6
  rw [show bits BinOp.andNot IntKind.u64 (x : Int) 9218868437227405312 = (((if s then negZero else 0) + (m - 2 ^ 52) : Nat) : Int) from h6]
  have h8 := u64_or_nat ((if s then negZero else 0) + (m - 2 ^ 52)) 4841369599423283200 (by unfold negZero; split <;> omega) (by omega)
  rw [show bits BinOp.or IntKind.u64 (((if s then negZero else 0) + (m - 2 ^ 52) : Nat) : Int) 4841369599423283200 = _ from h8, Int.toNat_natCast]
  have h9 := field_set (k := 1075) (fr := m - 2 ^ 52) s (by omega) (by omega)
  have h10 := word_nrm (s := s) (m := m) (e := 0) h2 h3 (by omega) (by omega)
  rw [show ((0 : Int) + 1075).toNat = 1075 from rfl, ← h9] at h10
  exact h10
theorem ldexp_nrm {s : Bool} {m : Nat} {x : Nat} (h : Nrm s m (-53) x) (w : World) : Calls Tryd.prog 196 #[.float .f64 x, .int .i64 53] w fun q w' => ∃ y, q = .returned (.float .f64 y) ∧ Nrm s m 0 y ∧ w = w' := by
  have hV := nrm_val h
  have HX := Lib.hid h
  have HV := Lib.hid hV
  have hn := val_nan hV
  have o1 := nrm_ne h
  have he := exp52 h
  have hN := ldexp_bits h
  have hm : ∀ u, (binOp .mul 23 (.float .f64 4607182418800017408) (.float .f64 (bits BinOp.or IntKind.u64 (bits BinOp.andNot IntKind.u64 (x : Int) 9218868437227405312) 4841369599423283200).toNat)).run Tryd.prog u = .ok (.float .f64 (bits BinOp.or IntKind.u64 (bits BinOp.andNot IntKind.u64 (x : Int) 9218868437227405312) 4841369599423283200).toNat) u := fun u => run_float_arith u _ _ _ _ _ _ (mul_one hN)
  have HN := Lib.hid hN
  clear hN
  have hb := bits_run x
  have hf := frombits_run
  clear h hV
  go_enter Tryd.func196, Tryd.ntmps196
  go_wp2_with (first | (go_at_call 163; refine (isinf_run HX.out.1 HV.out _ (by simp) _).mono ?_; rintro q w' ⟨rfl, rfl⟩) | (go_at_call 205; refine (isnan_run _ _).mono ?_; rintro q w' ⟨rfl, rfl⟩; rw [hn]) | (go_at_call 206; refine (normalize_nrm HX.out _).mono ?_; rintro q w' ⟨rfl, rfl⟩))
  go_ret
  exact ⟨_, rfl, HN.out, rfl⟩
theorem Frexp_nrm {s : Bool} {m : Nat} {e : Int} {x : Nat} (h : Nrm s m e x) (w : World) : Calls Tryd.prog 164 #[.float .f64 x] w fun q w' => ∃ y, q = .returned (.tuple #[.float .f64 y, .int .i64 (e + 53)]) ∧ Nrm s m (-53) y ∧ w = w' := by
  obtain ⟨y, hy⟩ : ∃ y, y = (if s then negZero else 0) + (1022 * 2 ^ 52 + (m - 2 ^ 52)) := ⟨_, rfl⟩
  have hN : Nrm s m (-53) y := by
    have := word_nrm (s := s) (m := m) (e := -53) h.2.2.1 h.2.2.2.1 (by omega) (by omega)
    rw [show ((-53 : Int) + 1075).toNat = 1022 from rfl, ← hy] at this
    exact this
  have F := fun u => frexp_nrm h u
  rw [← hy] at F
  have HN := Lib.hid hN
  clear hy hN h
  go_enter Tryd.func164, Tryd.ntmps164
  go_wp2_with (go_at_call 194; refine (F _).mono ?_; rintro q w' ⟨rfl, rfl⟩)
  exact bodyPost_ret (v := .tuple #[.float .f64 y, .int .i64 (e + 53)]) (by simp [results, go_sem]) rfl ⟨_, rfl, HN.out, rfl⟩
theorem Ldexp_nrm {s : Bool} {m : Nat} {x : Nat} (h : Nrm s m (-53) x) (w : World) : Calls Tryd.prog 165 #[.float .f64 x, .int .i64 53] w fun q w' => ∃ y, q = .returned (.float .f64 y) ∧ Nrm s m 0 y ∧ w = w' := by
  have HX := Lib.hid h
  clear h
  go_enter Tryd.func165, Tryd.ntmps165
  go_wp2_with (go_at_call 196; refine (ldexp_nrm HX.out _).mono ?_; rintro q w' ⟨y, rfl, hy, rfl⟩; have HY := Lib.hid hy; clear hy)
  go_ret
  exact ⟨_, rfl, HY.out, rfl⟩
end Go.Proofs.YtpmdgmnpkdoamabDoor.Vc
