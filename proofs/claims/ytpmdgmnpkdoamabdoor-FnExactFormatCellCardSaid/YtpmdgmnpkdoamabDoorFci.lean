/- Proved here: math.normalize and math.Frexp of every finite float but zero, math.IsInf of the infinities. Conditions: the word is a double's. -/
import Derived.Test.YtpmdgmnpkdoamabDoorFch
namespace Go.Proofs.YtpmdgmnpkdoamabDoor.Vc
open Go.RowKit Fl Prom Go.Proofs.YtpmdgmnpkdoamabDoorW.PrintWords
open Ieee (double Format Datum)
set_option linter.unusedVariables false
set_option linter.unusedSimpArgs false
def C52W : Nat := 4841369599423283200
theorem c52_read : double.read C52W = .number false (2 ^ 52) 0 := by decide
/-- A double below the normal ones. -/
def Sub (s : Bool) (n : Nat) (x : Nat) : Prop := x < 18446744073709551616 ∧ double.read x = .number s n (-1074) ∧ n ≠ 0 ∧ n < 2 ^ 52
theorem nrm_or_sub {s : Bool} {A x : Nat} (hx : x < 18446744073709551616) (h : Val s A x) (hA : A ≠ 0) : (∃ m e, Nrm s m e x ∧ A = m * 2 ^ (e + 1200).toNat) ∨ ∃ n, Sub s n x ∧ A = n * 2 ^ 126 := by
  obtain ⟨m, e, h1, h2, h3, h4, h5⟩ := h
  have h0 : m ≠ 0 := by rintro rfl; exact hA (by rw [h5, Nat.zero_mul])
  by_cases hm : 2 ^ 52 ≤ m
  · exact .inl ⟨m, e, ⟨hx, h1, hm, h4, h2, h3⟩, h5⟩
  · right
    have he : e = -1074 := by
      have h6 := h1
      unfold Format.read at h6
      simp only [dbl_binade, dbl_inf, dbl_least, dbl_sign] at h6
      split at h6
      · simp only [Datum.number.injEq] at h6; omega
      · split at h6
        · simp only [Datum.number.injEq] at h6; omega
        · split at h6 <;> cases h6
    subst he
    exact ⟨m, ⟨hx, h1, h0, by omega⟩, h5⟩
theorem sub_small {s : Bool} {n x : Nat} (h : Sub s n x) : (FloatKind.f64.format.order (x % negZero) 4503599627370496 == some Ordering.lt) = true := by
  obtain ⟨hx, h1, h0, h2⟩ := h
  obtain ⟨q, hq⟩ : ∃ q : Nat, q = 126 := ⟨_, rfl⟩
  have hV : Val s (n * 2 ^ q) x := ⟨n, -1074, h1, by omega, by omega, by omega, by rw [show ((-1074 : Int) + 1200).toNat = q by omega]⟩
  have h3 := ord_pos (val_abs hx hV) (v_small hq)
  show (double.order (x % negZero) 4503599627370496 == some Ordering.lt) = true
  rw [h3, cmpn_lt (Nat.mul_lt_mul_of_pos_right h2 (Nat.two_pow_pos q))]
  rfl
theorem sub_field {k M : Nat} (hk : k ≤ 52) (hM : 2 ^ 52 ≤ M) : (52 - k) * 2 ^ 52 + M = (53 - k) * 2 ^ 52 + (M - 2 ^ 52) := by
  have h1 : 53 - k = (52 - k) + 1 := by omega
  rw [h1, Nat.add_mul, Nat.one_mul]
  generalize (52 - k) * 2 ^ 52 = q
  omega
theorem sub_mul {s : Bool} {n x : Nat} (h : Sub s n x) : ∃ (m : Nat) (e : Int) (y : Nat), double.mul x C52W = some y ∧ Nrm s m (e + 52) y ∧ n * 2 ^ 126 = m * 2 ^ (e + 1200).toNat := by
  obtain ⟨hx, h1, h0, h2⟩ := h
  obtain ⟨lo, hi⟩ := log2_bounds h0
  have hl : n.log2 ≤ 51 := log2_le h2
  obtain ⟨k, hk⟩ : ∃ k, k + n.log2 = 52 := ⟨52 - n.log2, by omega⟩
  have m1 : 2 ^ 52 ≤ n * 2 ^ k := by rw [← hk, Nat.add_comm, Nat.pow_add]; exact Nat.mul_le_mul_right _ lo
  have m2 : n * 2 ^ k < 2 ^ 53 := by
    have : n * 2 ^ k < 2 ^ (n.log2 + 1) * 2 ^ k := Nat.mul_lt_mul_of_pos_right hi (Nat.two_pow_pos k)
    rwa [← Nat.pow_add, show n.log2 + 1 + k = 53 by omega] at this
  have hw := word_nrm (s := s) (m := n * 2 ^ k) (e := -1074 - (k : Int) + 52) m1 m2 (by omega) (by omega)
  have hl2 := log2_52 m1 m2
  have e1 : n * 2 ^ 52 = n * 2 ^ k * 2 ^ n.log2 := by rw [Nat.mul_assoc, ← Nat.pow_add, hk]
  have e3 : n * 2 ^ 126 = n * 2 ^ k * 2 ^ (126 - k) := by rw [Nat.mul_assoc, ← Nat.pow_add]; congr 2; omega
  obtain ⟨M, hM⟩ : ∃ M, M = n * 2 ^ k := ⟨_, rfl⟩
  rw [← hM] at m1 m2 hw hl2 e1 e3
  refine ⟨M, -1074 - (k : Int), _, ?_, hw, ?_⟩
  · unfold Format.mul
    rw [h1, c52_read]
    simp only [Datum.product, Option.map_some, Format.write, Bool.xor_false]
    refine congrArg some ?_
    have e2 : (-1074 : Int) + 0 = (-1074 - (k : Int) + 52) - (n.log2 : Int) := by omega
    rw [e1, e2, nearest_scale double s M _ _ (by omega) (by rw [dbl_least, show (double.fractionBits : Int) = 52 from rfl, hl2]; omega)]
    rw [← nearest_scale double s M _ 52 (by omega) (by rw [dbl_least, show (double.fractionBits : Int) = 52 from rfl, hl2]; omega)]
    have hb := nearest_back s (52 - k) M (by omega) (.inr hl2) (by rw [dbl_inf]; omega)
    rw [Nat.mul_comm (2 ^ 52)] at hb
    rw [show (-1074 - (k : Int) + 52 - ((52 : Nat) : Int)) = -52 + (-1074 + ((52 - k : Nat) : Int)) by omega, hb]
    unfold Format.word
    rw [dbl_sign, show (-1074 - (k : Int) + 52 + 1075).toNat = 53 - k by omega]
    rw [sub_field (by omega) m1]
    generalize (53 - k) * 2 ^ 52 + (M - 2 ^ 52) = G
    cases s
    · exact (Nat.zero_add G).symm
    · rfl
  · rw [e3, show (-1074 - (k : Int) + 1200).toNat = 126 - k by omega]
theorem normalize_sub {s : Bool} {n x y : Nat} (h : Sub s n x) (hy : double.mul x C52W = some y) (w : World) : Calls Tryd.prog 206 #[.float .f64 x] w fun e w' => e = .returned (.tuple #[.float .f64 y, .int .i64 (-52)]) ∧ w = w' := by
  have o1 := sub_small h
  have hm : ∀ u, (binOp .mul 23 (.float .f64 x) (.float .f64 4841369599423283200)).run Tryd.prog u = .ok (.float .f64 y) u := fun u => run_float_arith u _ _ _ _ _ _ hy
  have HX := Lib.hid h
  clear h hy
  go_enter Tryd.func206, Tryd.ntmps206
  go_wp2_with (go_at_call 152; refine (impl_abs _ HX.out.1 _).mono ?_; rintro e w' ⟨rfl, rfl⟩)
  exact bodyPost_ret (v := .tuple #[.float .f64 y, .int .i64 (-52)]) (by simp [results, go_sem]) rfl ⟨rfl, rfl⟩
/-- A finite double but zero, with its 53 digits and their place (which may lie below the least of doubles). -/
def Full (s : Bool) (m : Nat) (e : Int) (x : Nat) : Prop := x < 18446744073709551616 ∧ ((∃ A, A ≠ 0 ∧ Val s A x)) ∧ (Nrm s m e x ∨ ∃ n y, Sub s n x ∧ double.mul x C52W = some y ∧ Nrm s m (e + 52) y)
theorem full_ex {s : Bool} {A x : Nat} (hx : x < 18446744073709551616) (h : Val s A x) (hA : A ≠ 0) : ∃ m e, Full s m e x ∧ A = m * 2 ^ (e + 1200).toNat ∧ 2 ^ 52 ≤ m ∧ m < 2 ^ 53 ∧ -1126 ≤ e ∧ e ≤ 971 := by
  rcases nrm_or_sub hx h hA with ⟨m, e, hN, he⟩ | ⟨n, hS, he⟩
  · exact ⟨m, e, ⟨hx, ⟨A, hA, h⟩, .inl hN⟩, he, hN.2.2.1, hN.2.2.2.1, by have := hN.2.2.2.2; omega, by have := hN.2.2.2.2; omega⟩
  · obtain ⟨m, e, y, hy, hN, h2⟩ := sub_mul hS
    exact ⟨m, e, ⟨hx, ⟨A, hA, h⟩, .inr ⟨n, y, hS, hy, hN⟩⟩, he.trans h2, hN.2.2.1, hN.2.2.2.1, by have := hN.2.2.2.2; omega, by have := hN.2.2.2.2; omega⟩
theorem full_ne {s : Bool} {m : Nat} {e : Int} {x : Nat} (h : Full s m e x) : (FloatKind.f64.format.order x 0 == some Ordering.eq) = false := by
  obtain ⟨_, ⟨A, hA, hV⟩, _⟩ := h
  have h1 := val_order hV v_zero
  show (double.order x 0 == some Ordering.eq) = false
  rw [h1]
  cases s
  · simp only [Bool.false_eq_true, if_false]
    rw [cmp_gt (by omega)]; rfl
  · simp only [if_true, Bool.false_eq_true, if_false]
    rw [cmp_lt (by omega)]; rfl
theorem normalize_full {s : Bool} {m : Nat} {e : Int} {x : Nat} (h : Full s m e x) (w : World) : Calls Tryd.prog 206 #[.float .f64 x] w fun q w' => ∃ (y : Nat) (d : Int), q = .returned (.tuple #[.float .f64 y, .int .i64 d]) ∧ Nrm s m (e - d) y ∧ (d = 0 ∨ d = -52) ∧ w = w' := by
  rcases h.2.2 with hN | ⟨n, y, hS, hy, hN⟩
  · refine (normalize_nrm hN w).mono ?_
    rintro q w' ⟨rfl, rfl⟩
    exact ⟨x, 0, rfl, by rw [Int.sub_zero]; exact hN, .inl rfl, rfl⟩
  · refine (normalize_sub hS hy w).mono ?_
    rintro q w' ⟨rfl, rfl⟩
    exact ⟨y, -52, rfl, by rw [show e - -52 = e + 52 by omega]; exact hN, .inr rfl, rfl⟩
theorem full_exp {s : Bool} {m : Nat} {e d : Int} {y : Nat} (h : Nrm s m (e - d) y) (hd : d = 0 ∨ d = -52) : wrap64 (d + wrap64 (wrap64 (wrap64 (bits BinOp.and IntKind.u64 ((y : Int) / 4503599627370496) 2047) - 1023) + 1)) = e + 53 := by
  rw [exp_bits h]
  have := h.2.2.2.2
  unfold wrap64
  omega
theorem frexp_full {s : Bool} {m : Nat} {e : Int} {x : Nat} (h : Full s m e x) (w : World) : Calls Tryd.prog 194 #[.float .f64 x] w fun q w' => q = .returned (.tuple #[.float .f64 ((if s then negZero else 0) + (1022 * 2 ^ 52 + (m - 2 ^ 52))), .int .i64 (e + 53)]) ∧ w = w' := by
  obtain ⟨Y, hY⟩ : ∃ Y, Y = (if s then negZero else 0) + (1022 * 2 ^ 52 + (m - 2 ^ 52)) := ⟨_, rfl⟩
  rw [← hY]
  have HW := Lib.hid hY
  clear hY
  have HX := Lib.hid h
  have hn : fnan x = false := by obtain ⟨_, ⟨A, _, hV⟩, _⟩ := h; exact val_nan hV
  have o1 := full_ne h
  have hb := bits_run
  have hf := frombits_run
  clear h
  go_enter Tryd.func194, Tryd.ntmps194
  go_wp2_with (first | (go_at_call 163; obtain ⟨A, _, hV⟩ := HX.out.2.1; refine (isinf_run HX.out.1 hV _ (by simp) _).mono ?_; clear hV; rintro q w' ⟨rfl, rfl⟩) | (go_at_call 205; refine (isnan_run _ _).mono ?_; rintro q w' ⟨rfl, rfl⟩; rw [hn]) | (go_at_call 206; refine (normalize_full HX.out _).mono ?_; rintro q w' ⟨y, d, rfl, hy, hd, rfl⟩; have HY := Lib.hid (And.intro hy hd); clear hy hd))
  have h1 := full_exp HY.out.1 HY.out.2
  refine bodyPost_ret (v := .tuple #[.float .f64 (bits BinOp.or IntKind.u64 (bits BinOp.andNot IntKind.u64 (y : Int) 9218868437227405312) 4602678819172646912).toNat, .int .i64 (wrap64 (d + wrap64 (wrap64 (wrap64 (bits BinOp.and IntKind.u64 ((y : Int) / 4503599627370496) 2047) - 1023) + 1)))]) (by simp [results, go_sem]) rfl ⟨?_, rfl⟩
  rw [h1, frexp_bits HY.out.1, HW.out]
theorem Frexp_full {s : Bool} {m : Nat} {e : Int} {x : Nat} (h : Full s m e x) (h2 : 2 ^ 52 ≤ m) (h3 : m < 2 ^ 53) (w : World) : Calls Tryd.prog 164 #[.float .f64 x] w fun q w' => ∃ y, q = .returned (.tuple #[.float .f64 y, .int .i64 (e + 53)]) ∧ Nrm s m (-53) y ∧ w = w' := by
  obtain ⟨y, hy⟩ : ∃ y, y = (if s then negZero else 0) + (1022 * 2 ^ 52 + (m - 2 ^ 52)) := ⟨_, rfl⟩
  have hN : Nrm s m (-53) y := by
    have := word_nrm (s := s) (m := m) (e := -53) h2 h3 (by omega) (by omega)
    rw [show ((-53 : Int) + 1075).toNat = 1022 from rfl, ← hy] at this
    exact this
  have F := fun u => frexp_full h u
  rw [← hy] at F
  have HN := Lib.hid hN
  clear hy hN h h2 h3
  go_enter Tryd.func164, Tryd.ntmps164
  go_wp2_with (go_at_call 194; refine (F _).mono ?_; rintro q w' ⟨rfl, rfl⟩)
  exact bodyPost_ret (v := .tuple #[.float .f64 y, .int .i64 (e + 53)]) (by simp [results, go_sem]) rfl ⟨_, rfl, HN.out, rfl⟩
end Go.Proofs.YtpmdgmnpkdoamabDoor.Vc
