/- Proved here: what math.IsInf, math.normalize, math.Frexp and math.Ldexp answer of a finite float, and the fields of a double's word. Conditions: the float is finite, and no zero where a theorem says so. -/
import Derived.Test.YtpmdgmnpkdoamabGreatDoorCtFce
import Derived.Test.YtpmdgmnpkdoamabGreatDoorCtUn4
namespace Go.Proofs.YtpmdgmnpkdoamabGreatDoor.Vc
open Go.RowKit Fl Prom Go.Proofs.YtpmdgmnpkdoamabGreatDoorW.PrintWords
open Ieee (single double Format Datum)
set_option linter.unusedVariables false
set_option linter.unusedSimpArgs false
def MAXF : Nat := 9218868437227405311
theorem v_max {q : Nat} (hq : q = 2171) : Val false ((2 ^ 53 - 1) * 2 ^ q) MAXF := by
  refine ⟨2 ^ 53 - 1, 971, by decide, by omega, by omega, by decide, ?_⟩
  rw [show ((971 : Int) + 1200).toNat = q by omega]
theorem val_le {s : Bool} {A x q : Nat} (hq : q = 2171) (h : Val s A x) : A ≤ (2 ^ 53 - 1) * 2 ^ q := by
  obtain ⟨m, e, h1, h2, h3, h4, h5⟩ := h
  rw [h5]
  have h6 : (e + 1200).toNat ≤ q := by omega
  exact Nat.mul_le_mul (by omega) (Nat.pow_le_pow_right (by omega) h6)
/-- No finite float is above the greatest. -/
theorem not_above {s : Bool} {A x : Nat} (h : Val s A x) : (FloatKind.f64.format.order x 9218868437227405311 == some Ordering.gt) = false := by
  obtain ⟨q, hq⟩ : ∃ q : Nat, q = 2171 := ⟨_, rfl⟩
  have h1 := val_order h (v_max hq)
  have h2 := val_le hq h
  show (double.order x MAXF == some Ordering.gt) = false
  rw [h1]
  generalize (2 ^ 53 - 1) * 2 ^ q = B at *
  cases s
  · simp only [Bool.false_eq_true, if_false]
    rcases Nat.eq_or_lt_of_le h2 with h | h
    · rw [h, cmp_eq]; rfl
    · rw [cmp_lt (by omega)]; rfl
  · simp only [if_true, Bool.false_eq_true, if_false]
    by_cases hB : (-1 : Int) * A = 1 * B
    · rw [hB, cmp_eq]; rfl
    · rw [cmp_lt (by omega)]; rfl
theorem val_abs {s : Bool} {A x : Nat} (hx : x < 18446744073709551616) (h : Val s A x) : Val false A (x % negZero) := by
  cases s
  · have : x % negZero = x := by
      obtain ⟨m, e, h1, _⟩ := h
      unfold Format.read at h1
      simp only [dbl_binade, dbl_inf, dbl_least, dbl_sign] at h1
      have hs : (x / negZero % 2 == 1) = false := by
        split at h1
        · injection h1
        · split at h1
          · injection h1
          · split at h1 <;> cases h1
      unfold negZero at *
      have : ¬ x / 9223372036854775808 % 2 = 1 := by simpa using hs
      omega
    rw [this]; exact h
  · have h2 := val_flip hx h
    have : x % negZero = Fl.flip x := by
      obtain ⟨m, e, h1, _⟩ := h
      unfold Format.read at h1
      simp only [dbl_binade, dbl_inf, dbl_least, dbl_sign] at h1
      have hs : (x / negZero % 2 == 1) = true := by
        split at h1
        · injection h1
        · split at h1
          · injection h1
          · split at h1 <;> cases h1
      unfold Fl.flip negZero at *
      have : x / 9223372036854775808 % 2 = 1 := by simpa using hs
      rw [if_neg (by omega)]
      omega
    rw [this]; exact h2
theorem isinf_run {s : Bool} {A x : Nat} (hx : x < 18446744073709551616) (h : Val s A x) (g : Int) (hg : g = 0 ∨ g = 1 ∨ g = -1) (w : World) : Calls Tryz.prog 121 #[.float .f64 x, .int .i64 g] w fun e w' => e = .returned (.bool false) ∧ w = w' := by
  have o1 := not_above h
  have o2 := not_above (val_abs hx h)
  have o3 := not_above (val_flip hx h)
  have hn := neg_float x hx
  have HX := Lib.hid hx
  clear h hx
  rcases hg with rfl | rfl | rfl
  all_goals
    go_enter Tryz.func121, Tryz.ntmps121
    go_wp2_with (go_at_call 100; refine (impl_abs _ HX.out _).mono ?_; rintro e w' ⟨rfl, rfl⟩)
    all_goals go_ret
    all_goals exact ⟨rfl, rfl⟩
/-- A double that has all its digits: its sign, its 53 digits, its place. -/
def Nrm (s : Bool) (m : Nat) (e : Int) (x : Nat) : Prop := x < 18446744073709551616 ∧ double.read x = .number s m e ∧ 2 ^ 52 ≤ m ∧ m < 2 ^ 53 ∧ -1074 ≤ e ∧ e ≤ 971
theorem nrm_val {s : Bool} {m : Nat} {e : Int} {x : Nat} (h : Nrm s m e x) : Val s (m * 2 ^ (e + 1200).toNat) x := ⟨m, e, h.2.1, h.2.2.2.2.1, h.2.2.2.2.2, h.2.2.2.1, rfl⟩
/-- The fields of such a word. -/
theorem nrm_word {s : Bool} {m : Nat} {e : Int} {x : Nat} (h : Nrm s m e x) : x = (if s then negZero else 0) + ((e + 1075).toNat * 2 ^ 52 + (m - 2 ^ 52)) := by
  obtain ⟨hx, h1, h2, h3, h4, h5⟩ := h
  unfold Format.read at h1
  simp only [dbl_binade, dbl_inf, dbl_least, dbl_sign] at h1
  have hmod : x % negZero < negZero := Nat.mod_lt _ (by decide)
  have hdiv : x = negZero * (x / negZero) + x % negZero := (Nat.div_add_mod x negZero).symm
  have hq : x / negZero < 2 := by unfold negZero; omega
  generalize hr : x % negZero = rung at *
  by_cases c1 : rung < 2 ^ 52
  · rw [if_pos c1] at h1
    simp only [Datum.number.injEq] at h1
    obtain ⟨a1, a2, a3⟩ := h1
    omega
  · rw [if_neg c1] at h1
    by_cases c2 : rung < 2047 * 2 ^ 52
    · rw [if_pos c2] at h1
      simp only [Datum.number.injEq] at h1
      obtain ⟨a1, a2, a3⟩ := h1
      have hs : x / negZero = if s then 1 else 0 := by
        generalize x / negZero = q at a1 hq
        cases s
        · have : ¬ q % 2 = 1 := by simpa using a1
          show q = 0
          omega
        · have : q % 2 = 1 := by simpa using a1
          show q = 1
          omega
      have he : rung = (e + 1075).toNat * 2 ^ 52 + (m - 2 ^ 52) := by omega
      rw [hdiv, hs, he]
      cases s <;> simp
    · rw [if_neg c2] at h1
      split at h1 <;> cases h1
theorem word_nrm {s : Bool} {m : Nat} {e : Int} (h2 : 2 ^ 52 ≤ m) (h3 : m < 2 ^ 53) (h4 : -1074 ≤ e) (h5 : e ≤ 971) : Nrm s m e ((if s then negZero else 0) + ((e + 1075).toNat * 2 ^ 52 + (m - 2 ^ 52))) := by
  obtain ⟨r, hr⟩ : ∃ r, r = (e + 1075).toNat * 2 ^ 52 + (m - 2 ^ 52) := ⟨_, rfl⟩
  rw [← hr]
  have hrd := read_word double s r (by rw [dbl_inf]; omega)
  rw [dbl_binade, dbl_least, if_neg (show ¬ r < 2 ^ 52 by omega)] at hrd
  have hw : double.word s r = (if s = true then negZero else 0) + r := by unfold Format.word; rw [dbl_sign]; cases s <;> simp
  rw [hw] at hrd
  refine ⟨by unfold negZero; split <;> omega, hrd.trans ?_, h2, h3, h4, h5⟩
  rw [show 2 ^ 52 + r % 2 ^ 52 = m by omega, show ((-1074 : Int) + ((r / 2 ^ 52 - 1 : Nat) : Int)) = e by omega]
theorem v_small {q : Nat} (hq : q = 126) : Val false (2 ^ 52 * 2 ^ q) 4503599627370496 := by
  refine ⟨2 ^ 52, -1074, by decide, by omega, by omega, by decide, ?_⟩
  rw [show ((-1074 : Int) + 1200).toNat = q by omega]
theorem not_small {s : Bool} {m : Nat} {e : Int} {x : Nat} (h : Nrm s m e x) : (FloatKind.f64.format.order (x % negZero) 4503599627370496 == some Ordering.lt) = false := by
  obtain ⟨q, hq⟩ : ∃ q : Nat, q = 126 := ⟨_, rfl⟩
  have h1 := ord_pos (val_abs h.1 (nrm_val h)) (v_small hq)
  have hle : 2 ^ 52 * 2 ^ q ≤ m * 2 ^ (e + 1200).toNat := Nat.mul_le_mul h.2.2.1 (Nat.pow_le_pow_right (by omega) (by have := h.2.2.2.2.1; omega))
  show (double.order (x % negZero) 4503599627370496 == some Ordering.lt) = false
  rw [h1]
  generalize 2 ^ 52 * 2 ^ q = B at hle
  generalize m * 2 ^ (e + 1200).toNat = A at hle
  rcases Nat.eq_or_lt_of_le hle with h | h
  · rw [h, cmp_eq]; rfl
  · rw [cmpn_gt h]; rfl
theorem normalize_nrm {s : Bool} {m : Nat} {e : Int} {x : Nat} (h : Nrm s m e x) (w : World) : Calls Tryz.prog 189 #[.float .f64 x] w fun e w' => e = .returned (.tuple #[.float .f64 x, .int .i64 0]) ∧ w = w' := by
  have o1 := not_small h
  have HX := Lib.hid h
  clear h
  go_enter Tryz.func189, Tryz.ntmps189
  go_wp2_with (go_at_call 100; refine (impl_abs _ HX.out.1 _).mono ?_; rintro e w' ⟨rfl, rfl⟩)
  exact bodyPost_ret (v := .tuple #[.float .f64 x, .int .i64 0]) (by simp [results, go_sem]) rfl ⟨rfl, rfl⟩
/-! ### the fields, by the machine's own operations -/
theorem field_shr {ex fr : Nat} (b : Bool) (he : ex < 2048) (hf : fr < 2 ^ 52) : ((((if b then negZero else 0) + (ex * 2 ^ 52 + fr)) >>> 52) &&& 2047) = ex := by
  rw [Nat.shiftRight_eq_div_pow, show (2047 : Nat) = 2 ^ 11 - 1 from rfl, Nat.and_two_pow_sub_one_eq_mod]
  unfold negZero
  split <;> omega
end Go.Proofs.YtpmdgmnpkdoamabGreatDoor.Vc
namespace Go.Proofs.YtpmdgmnpkdoamabGreatDoor.Vc
open Go.RowKit Fl Prom Go.Proofs.YtpmdgmnpkdoamabGreatDoorW.PrintWords
open Ieee (double Format Datum)
set_option linter.unusedVariables false
set_option linter.unusedSimpArgs false
theorem low_or {q fr : Nat} (hf : fr < 2 ^ 52) : 2 ^ 52 * q + fr = 2 ^ 52 * q ||| fr := Nat.two_pow_add_eq_or_of_lt hf q
theorem high_and {q fr M : Nat} (hf : fr < 2 ^ 52) : (2 ^ 52 * q + fr) &&& (2 ^ 52 * M + (2 ^ 52 - 1)) = 2 ^ 52 * (q &&& M) + fr := by
  rw [low_or hf, low_or (show 2 ^ 52 - 1 < 2 ^ 52 by omega), low_or hf]
  apply Nat.eq_of_testBit_eq
  intro i
  simp only [Nat.testBit_and, Nat.testBit_or, Nat.testBit_two_pow_mul, Nat.testBit_two_pow_sub_one]
  by_cases h : i < 52
  · have : ¬ i ≥ 52 := by omega
    simp [h, this]
  · have h1 : fr.testBit i = false := Nat.testBit_lt_two_pow (Nat.lt_of_lt_of_le hf (Nat.pow_le_pow_right (by omega) (by omega)))
    have : i ≥ 52 := by omega
    simp [h, h1, this]
theorem high_or {q fr M : Nat} (hf : fr < 2 ^ 52) : (2 ^ 52 * q + fr) ||| (2 ^ 52 * M) = 2 ^ 52 * (q ||| M) + fr := by
  rw [low_or hf, low_or hf]
  apply Nat.eq_of_testBit_eq
  intro i
  simp only [Nat.testBit_or, Nat.testBit_two_pow_mul]
  by_cases h : i ≥ 52
  · simp [h]
    cases q.testBit (i - 52) <;> cases M.testBit (i - 52) <;> cases fr.testBit i <;> rfl
  · simp [h]
theorem and_bit (q : Nat) : q &&& 2 ^ 11 = if q / 2 ^ 11 % 2 = 1 then 2 ^ 11 else 0 := by
  apply Nat.eq_of_testBit_eq
  intro i
  rw [Nat.testBit_and, Nat.testBit_two_pow]
  by_cases h : 11 = i
  · subst h
    rw [Nat.testBit_eq_decide_div_mod_eq]
    by_cases h2 : q / 2 ^ 11 % 2 = 1
    · rw [if_pos h2]; simp [h2]; decide
    · rw [if_neg h2]; simp [h2]
  · rw [decide_eq_false h, Bool.and_false]
    split
    · rw [Nat.testBit_two_pow, decide_eq_false h]
    · simp
theorem field_clear {ex fr : Nat} (b : Bool) (he : ex < 2048) (hf : fr < 2 ^ 52) : (((if b then negZero else 0) + (ex * 2 ^ 52 + fr)) &&& (18446744073709551615 - 9218868437227405312)) = (if b then negZero else 0) + fr := by
  have h1 : (if b then negZero else 0) + (ex * 2 ^ 52 + fr) = 2 ^ 52 * ((if b then 2 ^ 11 else 0) + ex) + fr := by
    unfold negZero
    cases b <;> simp <;> omega
  rw [h1, show (18446744073709551615 - 9218868437227405312 : Nat) = 2 ^ 52 * 2 ^ 11 + (2 ^ 52 - 1) by decide, high_and hf, and_bit]
  unfold negZero
  cases b
  · have : ¬ ex / 2 ^ 11 % 2 = 1 := by omega
    simp [this]
  · have : (2 ^ 11 + ex) / 2 ^ 11 % 2 = 1 := by omega
    simp only [if_true]
    rw [if_pos this]
theorem field_set {k fr : Nat} (b : Bool) (hk : k < 2048) (hf : fr < 2 ^ 52) : (((if b then negZero else 0) + fr) ||| (2 ^ 52 * k)) = (if b then negZero else 0) + (k * 2 ^ 52 + fr) := by
  have h1 : (if b then negZero else 0) + fr = 2 ^ 52 * (if b then 2 ^ 11 else 0) + fr := by
    unfold negZero
    cases b <;> simp
  rw [h1, high_or hf]
  have h2 : ((if b then 2 ^ 11 else 0) ||| k) = (if b then 2 ^ 11 else 0) + k := by
    cases b
    · simp
    · have := Nat.two_pow_add_eq_or_of_lt (i := 11) hk 1
      simpa using this.symm
  rw [h2]
  unfold negZero
  cases b <;> simp <;> omega
theorem isnan_run (x : Nat) (w : World) : Calls Tryz.prog 188 #[.float .f64 x] w fun e w' => e = .returned (.bool (fnan x)) ∧ w = w' := by
  go_enter Tryz.func188, Tryz.ntmps188
  go_wp2
  go_ret
  exact ⟨rfl, rfl⟩
theorem frexp_bits {s : Bool} {m : Nat} {e : Int} {x : Nat} (h : Nrm s m e x) : (bits BinOp.or IntKind.u64 (bits BinOp.andNot IntKind.u64 (x : Int) 9218868437227405312) 4602678819172646912).toNat = (if s then negZero else 0) + (1022 * 2 ^ 52 + (m - 2 ^ 52)) := by
  have hw := nrm_word h
  obtain ⟨hx, _, h2, h3, h4, h5⟩ := h
  have h6 := u64_andNot_nat x 9218868437227405312 hx (by omega)
  have h7 : x &&& (18446744073709551615 - 9218868437227405312) = (if s then negZero else 0) + (m - 2 ^ 52) := by
    rw [hw]
    exact field_clear s (by omega) (by omega)
  rw [h7] at h6
  rw [show bits BinOp.andNot IntKind.u64 (x : Int) 9218868437227405312 = (((if s then negZero else 0) + (m - 2 ^ 52) : Nat) : Int) from h6]
  have h8 := u64_or_nat ((if s then negZero else 0) + (m - 2 ^ 52)) 4602678819172646912 (by unfold negZero; split <;> omega) (by omega)
  rw [show bits BinOp.or IntKind.u64 (((if s then negZero else 0) + (m - 2 ^ 52) : Nat) : Int) 4602678819172646912 = _ from h8, Int.toNat_natCast]
  have h9 := field_set (k := 1022) (fr := m - 2 ^ 52) s (by omega) (by omega)
  rw [← h9]
theorem exp_bits {s : Bool} {m : Nat} {e : Int} {x : Nat} (h : Nrm s m e x) : bits BinOp.and IntKind.u64 ((x : Int) / 4503599627370496) 2047 = e + 1075 := by
  have hw := nrm_word h
  obtain ⟨hx, _, h2, h3, h4, h5⟩ := h
  have h6 := u64_and_nat (x / 4503599627370496) 2047 (by omega) (by omega)
  have h7 : x / 4503599627370496 &&& 2047 = (e + 1075).toNat := by
    have := field_shr (ex := (e + 1075).toNat) (fr := m - 2 ^ 52) s (by omega) (by omega)
    rw [← hw, Nat.shiftRight_eq_div_pow] at this
    exact this
  rw [h7] at h6
  rw [show (x : Int) / 4503599627370496 = ((x / 4503599627370496 : Nat) : Int) from (Int.natCast_ediv x 4503599627370496).symm]
  rw [show bits BinOp.and IntKind.u64 ((x / 4503599627370496 : Nat) : Int) 2047 = _ from h6]
  omega
theorem nrm_ne {s : Bool} {m : Nat} {e : Int} {x : Nat} (h : Nrm s m e x) : (FloatKind.f64.format.order x 0 == some Ordering.eq) = false := by
  have h1 := val_order (nrm_val h) v_zero
  have hA : m * 2 ^ (e + 1200).toNat ≠ 0 := Nat.mul_ne_zero (by have := h.2.2.1; omega) (by have := Nat.two_pow_pos (e + 1200).toNat; omega)
  show (double.order x 0 == some Ordering.eq) = false
  rw [h1]
  generalize m * 2 ^ (e + 1200).toNat = A at hA
  cases s
  · simp only [Bool.false_eq_true, if_false]
    rw [cmp_gt (by omega)]; rfl
  · simp only [if_true, Bool.false_eq_true, if_false]
    rw [cmp_lt (by omega)]; rfl
theorem frexp_nrm {s : Bool} {m : Nat} {e : Int} {x : Nat} (h : Nrm s m e x) (w : World) : Calls Tryz.prog 161 #[.float .f64 x] w fun q w' => q = .returned (.tuple #[.float .f64 ((if s then negZero else 0) + (1022 * 2 ^ 52 + (m - 2 ^ 52))), .int .i64 (e + 53)]) ∧ w = w' := by
  have hV := nrm_val h
  have HX := Lib.hid h
  have HV := Lib.hid hV
  have hn := val_nan hV
  have o1 := nrm_ne h
  have hb := bits_run x
  have hf := frombits_run
  rw [← frexp_bits h]
  clear h hV
  go_enter Tryz.func161, Tryz.ntmps161
  go_wp2_with (first | (go_at_call 121; refine (isinf_run HX.out.1 HV.out _ (by simp) _).mono ?_; rintro q w' ⟨rfl, rfl⟩) | (go_at_call 188; refine (isnan_run _ _).mono ?_; rintro q w' ⟨rfl, rfl⟩; rw [hn]) | (go_at_call 189; refine (normalize_nrm HX.out _).mono ?_; rintro q w' ⟨rfl, rfl⟩))
  have h1 := exp_bits HX.out
  have h2 := HX.out.2.2.2.2
  refine bodyPost_ret (v := .tuple #[.float .f64 (bits BinOp.or IntKind.u64 (bits BinOp.andNot IntKind.u64 (x : Int) 9218868437227405312) 4602678819172646912).toNat, .int .i64 (wrap64 (wrap64 (wrap64 (wrap64 (bits BinOp.and IntKind.u64 ((x : Int) / 4503599627370496) 2047) - 1023) + 1)))]) (by simp [results, go_sem]) rfl ⟨?_, rfl⟩
  rw [h1, show wrap64 (wrap64 (wrap64 (wrap64 (e + 1075) - 1023) + 1)) = e + 53 by unfold wrap64; omega]
end Go.Proofs.YtpmdgmnpkdoamabGreatDoor.Vc
namespace Go.Proofs.YtpmdgmnpkdoamabGreatDoor.Vc
open Go.RowKit Fl Prom Go.Proofs.YtpmdgmnpkdoamabGreatDoorW.PrintWords
open Ieee (double Format Datum)
set_option linter.unusedVariables false
set_option linter.unusedSimpArgs false
def ONE : Nat := 4607182418800017408
theorem one_read : double.read ONE = .number false (2 ^ 52) (-52) := by decide
theorem log2_52 {m : Nat} (h2 : 2 ^ 52 ≤ m) (h3 : m < 2 ^ 53) : m.log2 = 52 := (Nat.log2_eq_iff (by omega)).2 ⟨h2, h3⟩
theorem mul_one {s : Bool} {m : Nat} {e : Int} {y : Nat} (h : Nrm s m e y) : double.mul ONE y = some y := by
  have hw := nrm_word h
  obtain ⟨hx, h1, h2, h3, h4, h5⟩ := h
  unfold Format.mul
  rw [one_read, h1]
  simp only [Datum.product, Option.map_some, Format.write, Bool.false_xor]
  congr 1
  have hb := nearest_back s (e + 1074).toNat m (by omega) (.inr (log2_52 h2 h3)) (by rw [dbl_inf]; omega)
  rw [show (-52 + (-1074 + (((e + 1074).toNat : Nat) : Int))) = -52 + e by omega] at hb
  rw [hb]
  unfold Format.word
  rw [dbl_sign]
  cases s
  · simp only [Bool.false_eq_true, if_false] at hw ⊢
    omega
  · simp only [if_true] at hw ⊢
    omega
theorem i64_and_nat (a b : Nat) (ha : a < 9223372036854775808) (hb : b < 9223372036854775808) : bits .and .i64 (a : Int) (b : Int) = ((a &&& b : Nat) : Int) := by
  have hx : a &&& b < 2 ^ 63 := Nat.and_lt_two_pow _ (by omega)
  show IntKind.i64.wrap ((BitVec.ofInt 64 (a : Int) &&& BitVec.ofInt 64 (b : Int)).toNat : Int) = _
  rw [BitVec.toNat_and, ofInt_u64 a (by omega), ofInt_u64 b (by omega), wrap_i64]
  unfold wrap64
  omega
theorem exp52 {s : Bool} {m : Nat} {x : Nat} (h : Nrm s m (-53) x) : wrap64 (53 + wrap64 (bits BinOp.and IntKind.i64 (wrap64 ((x : Int) / 4503599627370496)) 2047 - 1023)) = 52 := by
  have hw := nrm_word h
  obtain ⟨hx, _, h2, h3, h4, h5⟩ := h
  have h6 := i64_and_nat (x / 4503599627370496) 2047 (by omega) (by omega)
  have h7 : x / 4503599627370496 &&& 2047 = 1022 := by
    have := field_shr (ex := 1022) (fr := m - 2 ^ 52) s (by omega) (by omega)
    rw [show ((-53 : Int) + 1075).toNat = 1022 from rfl] at hw
    rw [← hw, Nat.shiftRight_eq_div_pow] at this
    exact this
  rw [h7] at h6
  have h8 : wrap64 ((x : Int) / 4503599627370496) = ((x / 4503599627370496 : Nat) : Int) := by
    rw [Int.natCast_ediv]
    unfold wrap64
    omega
  rw [h8, show bits BinOp.and IntKind.i64 ((x / 4503599627370496 : Nat) : Int) 2047 = _ from h6]
  unfold wrap64
  omega
theorem ldexp_bits {s : Bool} {m : Nat} {x : Nat} (h : Nrm s m (-53) x) : Nrm s m 0 (bits BinOp.or IntKind.u64 (bits BinOp.andNot IntKind.u64 (x : Int) 9218868437227405312) 4841369599423283200).toNat := by
  have hw := nrm_word h
  obtain ⟨hx, _, h2, h3, h4, h5⟩ := h
  have h6 := u64_andNot_nat x 9218868437227405312 hx (by omega)
  have h7 : x &&& (18446744073709551615 - 9218868437227405312) = (if s then negZero else 0) + (m - 2 ^ 52) := by
    rw [hw]
    exact field_clear s (by omega) (by omega)
  rw [h7] at h6
  rw [show bits BinOp.andNot IntKind.u64 (x : Int) 9218868437227405312 = (((if s then negZero else 0) + (m - 2 ^ 52) : Nat) : Int) from h6]
  have h8 := u64_or_nat ((if s then negZero else 0) + (m - 2 ^ 52)) 4841369599423283200 (by unfold negZero; split <;> omega) (by omega)
  rw [show bits BinOp.or IntKind.u64 (((if s then negZero else 0) + (m - 2 ^ 52) : Nat) : Int) 4841369599423283200 = _ from h8, Int.toNat_natCast]
  have h9 := field_set (k := 1075) (fr := m - 2 ^ 52) s (by omega) (by omega)
  have h10 := word_nrm (s := s) (m := m) (e := 0) h2 h3 (by omega) (by omega)
  rw [show ((0 : Int) + 1075).toNat = 1075 from rfl, ← h9] at h10
  exact h10
theorem ldexp_nrm {s : Bool} {m : Nat} {x : Nat} (h : Nrm s m (-53) x) (w : World) : Calls Tryz.prog 163 #[.float .f64 x, .int .i64 53] w fun q w' => ∃ y, q = .returned (.float .f64 y) ∧ Nrm s m 0 y ∧ w = w' := by
  have hV := nrm_val h
  have HX := Lib.hid h
  have HV := Lib.hid hV
  have hn := val_nan hV
  have o1 := nrm_ne h
  have he := exp52 h
  have hN := ldexp_bits h
  have hm : ∀ u, (binOp .mul 53 (.float .f64 4607182418800017408) (.float .f64 (bits BinOp.or IntKind.u64 (bits BinOp.andNot IntKind.u64 (x : Int) 9218868437227405312) 4841369599423283200).toNat)).run Tryz.prog u = .ok (.float .f64 (bits BinOp.or IntKind.u64 (bits BinOp.andNot IntKind.u64 (x : Int) 9218868437227405312) 4841369599423283200).toNat) u := fun u => run_float_arith u _ _ _ _ _ _ (mul_one hN)
  have HN := Lib.hid hN
  clear hN
  have hb := bits_run x
  have hf := frombits_run
  clear h hV
  go_enter Tryz.func163, Tryz.ntmps163
  go_wp2_with (first | (go_at_call 121; refine (isinf_run HX.out.1 HV.out _ (by simp) _).mono ?_; rintro q w' ⟨rfl, rfl⟩) | (go_at_call 188; refine (isnan_run _ _).mono ?_; rintro q w' ⟨rfl, rfl⟩; rw [hn]) | (go_at_call 189; refine (normalize_nrm HX.out _).mono ?_; rintro q w' ⟨rfl, rfl⟩))
  go_ret
  exact ⟨_, rfl, HN.out, rfl⟩
theorem Frexp_nrm {s : Bool} {m : Nat} {e : Int} {x : Nat} (h : Nrm s m e x) (w : World) : Calls Tryz.prog 123 #[.float .f64 x] w fun q w' => ∃ y, q = .returned (.tuple #[.float .f64 y, .int .i64 (e + 53)]) ∧ Nrm s m (-53) y ∧ w = w' := by
  obtain ⟨y, hy⟩ : ∃ y, y = (if s then negZero else 0) + (1022 * 2 ^ 52 + (m - 2 ^ 52)) := ⟨_, rfl⟩
  have hN : Nrm s m (-53) y := by
    have := word_nrm (s := s) (m := m) (e := -53) h.2.2.1 h.2.2.2.1 (by omega) (by omega)
    rw [show ((-53 : Int) + 1075).toNat = 1022 from rfl, ← hy] at this
    exact this
  have F := fun u => frexp_nrm h u
  rw [← hy] at F
  have HN := Lib.hid hN
  clear hy hN h
  go_enter Tryz.func123, Tryz.ntmps123
  go_wp2_with (go_at_call 161; refine (F _).mono ?_; rintro q w' ⟨rfl, rfl⟩)
  exact bodyPost_ret (v := .tuple #[.float .f64 y, .int .i64 (e + 53)]) (by simp [results, go_sem]) rfl ⟨_, rfl, HN.out, rfl⟩
theorem Ldexp_nrm {s : Bool} {m : Nat} {x : Nat} (h : Nrm s m (-53) x) (w : World) : Calls Tryz.prog 124 #[.float .f64 x, .int .i64 53] w fun q w' => ∃ y, q = .returned (.float .f64 y) ∧ Nrm s m 0 y ∧ w = w' := by
  have HX := Lib.hid h
  clear h
  go_enter Tryz.func124, Tryz.ntmps124
  go_wp2_with (go_at_call 163; refine (ldexp_nrm HX.out _).mono ?_; rintro q w' ⟨y, rfl, hy, rfl⟩; have HY := Lib.hid hy; clear hy)
  go_ret
  exact ⟨_, rfl, HY.out, rfl⟩
end Go.Proofs.YtpmdgmnpkdoamabGreatDoor.Vc
namespace Go.Proofs.YtpmdgmnpkdoamabGreatDoor.Vc
open Go.RowKit Fl Prom Go.Proofs.YtpmdgmnpkdoamabGreatDoorW.PrintWords
open Ieee (double Format Datum)
set_option linter.unusedVariables false
set_option linter.unusedSimpArgs false
def C52W : Nat := 4841369599423283200
theorem c52_read : double.read C52W = .number false (2 ^ 52) 0 := by decide
/-- A double below the normal ones. -/
def Sub (s : Bool) (n : Nat) (x : Nat) : Prop := x < 18446744073709551616 ∧ double.read x = .number s n (-1074) ∧ n ≠ 0 ∧ n < 2 ^ 52
theorem nrm_or_sub {s : Bool} {A x : Nat} (hx : x < 18446744073709551616) (h : Val s A x) (hA : A ≠ 0) : (∃ m e, Nrm s m e x ∧ A = m * 2 ^ (e + 1200).toNat) ∨ ∃ n, Sub s n x ∧ A = n * 2 ^ 126 := by
  obtain ⟨m, e, h1, h2, h3, h4, h5⟩ := h
  have h0 : m ≠ 0 := by rintro rfl; exact hA (by rw [h5, Nat.zero_mul])
  by_cases hm : 2 ^ 52 ≤ m
  · exact .inl ⟨m, e, ⟨hx, h1, hm, h4, h2, h3⟩, h5⟩
  · right
    have he : e = -1074 := by
      have h6 := h1
      unfold Format.read at h6
      simp only [dbl_binade, dbl_inf, dbl_least, dbl_sign] at h6
      split at h6
      · simp only [Datum.number.injEq] at h6; omega
      · split at h6
        · simp only [Datum.number.injEq] at h6; omega
        · split at h6 <;> cases h6
    subst he
    exact ⟨m, ⟨hx, h1, h0, by omega⟩, h5⟩
theorem sub_small {s : Bool} {n x : Nat} (h : Sub s n x) : (FloatKind.f64.format.order (x % negZero) 4503599627370496 == some Ordering.lt) = true := by
  obtain ⟨hx, h1, h0, h2⟩ := h
  obtain ⟨q, hq⟩ : ∃ q : Nat, q = 126 := ⟨_, rfl⟩
  have hV : Val s (n * 2 ^ q) x := ⟨n, -1074, h1, by omega, by omega, by omega, by rw [show ((-1074 : Int) + 1200).toNat = q by omega]⟩
  have h3 := ord_pos (val_abs hx hV) (v_small hq)
  show (double.order (x % negZero) 4503599627370496 == some Ordering.lt) = true
  rw [h3, cmpn_lt (Nat.mul_lt_mul_of_pos_right h2 (Nat.two_pow_pos q))]
  rfl
theorem sub_field {k M : Nat} (hk : k ≤ 52) (hM : 2 ^ 52 ≤ M) : (52 - k) * 2 ^ 52 + M = (53 - k) * 2 ^ 52 + (M - 2 ^ 52) := by
  have h1 : 53 - k = (52 - k) + 1 := by omega
  rw [h1, Nat.add_mul, Nat.one_mul]
  generalize (52 - k) * 2 ^ 52 = q
  omega
theorem sub_mul {s : Bool} {n x : Nat} (h : Sub s n x) : ∃ (m : Nat) (e : Int) (y : Nat), double.mul x C52W = some y ∧ Nrm s m (e + 52) y ∧ n * 2 ^ 126 = m * 2 ^ (e + 1200).toNat := by
  obtain ⟨hx, h1, h0, h2⟩ := h
  obtain ⟨lo, hi⟩ := log2_bounds h0
  have hl : n.log2 ≤ 51 := log2_le h2
  obtain ⟨k, hk⟩ : ∃ k, k + n.log2 = 52 := ⟨52 - n.log2, by omega⟩
  have m1 : 2 ^ 52 ≤ n * 2 ^ k := by rw [← hk, Nat.add_comm, Nat.pow_add]; exact Nat.mul_le_mul_right _ lo
  have m2 : n * 2 ^ k < 2 ^ 53 := by
    have : n * 2 ^ k < 2 ^ (n.log2 + 1) * 2 ^ k := Nat.mul_lt_mul_of_pos_right hi (Nat.two_pow_pos k)
    rwa [← Nat.pow_add, show n.log2 + 1 + k = 53 by omega] at this
  have hw := word_nrm (s := s) (m := n * 2 ^ k) (e := -1074 - (k : Int) + 52) m1 m2 (by omega) (by omega)
  have hl2 := log2_52 m1 m2
  have e1 : n * 2 ^ 52 = n * 2 ^ k * 2 ^ n.log2 := by rw [Nat.mul_assoc, ← Nat.pow_add, hk]
  have e3 : n * 2 ^ 126 = n * 2 ^ k * 2 ^ (126 - k) := by rw [Nat.mul_assoc, ← Nat.pow_add]; congr 2; omega
  obtain ⟨M, hM⟩ : ∃ M, M = n * 2 ^ k := ⟨_, rfl⟩
  rw [← hM] at m1 m2 hw hl2 e1 e3
  refine ⟨M, -1074 - (k : Int), _, ?_, hw, ?_⟩
  · unfold Format.mul
    rw [h1, c52_read]
    simp only [Datum.product, Option.map_some, Format.write, Bool.xor_false]
    refine congrArg some ?_
    have e2 : (-1074 : Int) + 0 = (-1074 - (k : Int) + 52) - (n.log2 : Int) := by omega
    rw [e1, e2, nearest_scale double s M _ _ (by omega) (by rw [dbl_least, show (double.fractionBits : Int) = 52 from rfl, hl2]; omega)]
    rw [← nearest_scale double s M _ 52 (by omega) (by rw [dbl_least, show (double.fractionBits : Int) = 52 from rfl, hl2]; omega)]
    have hb := nearest_back s (52 - k) M (by omega) (.inr hl2) (by rw [dbl_inf]; omega)
    rw [Nat.mul_comm (2 ^ 52)] at hb
    rw [show (-1074 - (k : Int) + 52 - ((52 : Nat) : Int)) = -52 + (-1074 + ((52 - k : Nat) : Int)) by omega, hb]
    unfold Format.word
    rw [dbl_sign, show (-1074 - (k : Int) + 52 + 1075).toNat = 53 - k by omega]
    rw [sub_field (by omega) m1]
    generalize (53 - k) * 2 ^ 52 + (M - 2 ^ 52) = G
    cases s
    · exact (Nat.zero_add G).symm
    · rfl
  · rw [e3, show (-1074 - (k : Int) + 1200).toNat = 126 - k by omega]
theorem normalize_sub {s : Bool} {n x y : Nat} (h : Sub s n x) (hy : double.mul x C52W = some y) (w : World) : Calls Tryz.prog 189 #[.float .f64 x] w fun e w' => e = .returned (.tuple #[.float .f64 y, .int .i64 (-52)]) ∧ w = w' := by
  have o1 := sub_small h
  have hm : ∀ u, (binOp .mul 53 (.float .f64 x) (.float .f64 4841369599423283200)).run Tryz.prog u = .ok (.float .f64 y) u := fun u => run_float_arith u _ _ _ _ _ _ hy
  have HX := Lib.hid h
  clear h hy
  go_enter Tryz.func189, Tryz.ntmps189
  go_wp2_with (go_at_call 100; refine (impl_abs _ HX.out.1 _).mono ?_; rintro e w' ⟨rfl, rfl⟩)
  exact bodyPost_ret (v := .tuple #[.float .f64 y, .int .i64 (-52)]) (by simp [results, go_sem]) rfl ⟨rfl, rfl⟩
/-- A finite double but zero, with its 53 digits and their place (which may lie below the least of doubles). -/
def Full (s : Bool) (m : Nat) (e : Int) (x : Nat) : Prop := x < 18446744073709551616 ∧ ((∃ A, A ≠ 0 ∧ Val s A x)) ∧ (Nrm s m e x ∨ ∃ n y, Sub s n x ∧ double.mul x C52W = some y ∧ Nrm s m (e + 52) y)
theorem full_ex {s : Bool} {A x : Nat} (hx : x < 18446744073709551616) (h : Val s A x) (hA : A ≠ 0) : ∃ m e, Full s m e x ∧ A = m * 2 ^ (e + 1200).toNat ∧ 2 ^ 52 ≤ m ∧ m < 2 ^ 53 ∧ -1126 ≤ e ∧ e ≤ 971 := by
  rcases nrm_or_sub hx h hA with ⟨m, e, hN, he⟩ | ⟨n, hS, he⟩
  · exact ⟨m, e, ⟨hx, ⟨A, hA, h⟩, .inl hN⟩, he, hN.2.2.1, hN.2.2.2.1, by have := hN.2.2.2.2; omega, by have := hN.2.2.2.2; omega⟩
  · obtain ⟨m, e, y, hy, hN, h2⟩ := sub_mul hS
    exact ⟨m, e, ⟨hx, ⟨A, hA, h⟩, .inr ⟨n, y, hS, hy, hN⟩⟩, he.trans h2, hN.2.2.1, hN.2.2.2.1, by have := hN.2.2.2.2; omega, by have := hN.2.2.2.2; omega⟩
theorem full_ne {s : Bool} {m : Nat} {e : Int} {x : Nat} (h : Full s m e x) : (FloatKind.f64.format.order x 0 == some Ordering.eq) = false := by
  obtain ⟨_, ⟨A, hA, hV⟩, _⟩ := h
  have h1 := val_order hV v_zero
  show (double.order x 0 == some Ordering.eq) = false
  rw [h1]
  cases s
  · simp only [Bool.false_eq_true, if_false]
    rw [cmp_gt (by omega)]; rfl
  · simp only [if_true, Bool.false_eq_true, if_false]
    rw [cmp_lt (by omega)]; rfl
theorem normalize_full {s : Bool} {m : Nat} {e : Int} {x : Nat} (h : Full s m e x) (w : World) : Calls Tryz.prog 189 #[.float .f64 x] w fun q w' => ∃ (y : Nat) (d : Int), q = .returned (.tuple #[.float .f64 y, .int .i64 d]) ∧ Nrm s m (e - d) y ∧ (d = 0 ∨ d = -52) ∧ w = w' := by
  rcases h.2.2 with hN | ⟨n, y, hS, hy, hN⟩
  · refine (normalize_nrm hN w).mono ?_
    rintro q w' ⟨rfl, rfl⟩
    exact ⟨x, 0, rfl, by rw [Int.sub_zero]; exact hN, .inl rfl, rfl⟩
  · refine (normalize_sub hS hy w).mono ?_
    rintro q w' ⟨rfl, rfl⟩
    exact ⟨y, -52, rfl, by rw [show e - -52 = e + 52 by omega]; exact hN, .inr rfl, rfl⟩
theorem full_exp {s : Bool} {m : Nat} {e d : Int} {y : Nat} (h : Nrm s m (e - d) y) (hd : d = 0 ∨ d = -52) : wrap64 (d + wrap64 (wrap64 (wrap64 (bits BinOp.and IntKind.u64 ((y : Int) / 4503599627370496) 2047) - 1023) + 1)) = e + 53 := by
  rw [exp_bits h]
  have := h.2.2.2.2
  unfold wrap64
  omega
theorem frexp_full {s : Bool} {m : Nat} {e : Int} {x : Nat} (h : Full s m e x) (w : World) : Calls Tryz.prog 161 #[.float .f64 x] w fun q w' => q = .returned (.tuple #[.float .f64 ((if s then negZero else 0) + (1022 * 2 ^ 52 + (m - 2 ^ 52))), .int .i64 (e + 53)]) ∧ w = w' := by
  obtain ⟨Y, hY⟩ : ∃ Y, Y = (if s then negZero else 0) + (1022 * 2 ^ 52 + (m - 2 ^ 52)) := ⟨_, rfl⟩
  rw [← hY]
  have HW := Lib.hid hY
  clear hY
  have HX := Lib.hid h
  have hn : fnan x = false := by obtain ⟨_, ⟨A, _, hV⟩, _⟩ := h; exact val_nan hV
  have o1 := full_ne h
  have hb := bits_run
  have hf := frombits_run
  clear h
  go_enter Tryz.func161, Tryz.ntmps161
  go_wp2_with (first | (go_at_call 121; obtain ⟨A, _, hV⟩ := HX.out.2.1; refine (isinf_run HX.out.1 hV _ (by simp) _).mono ?_; clear hV; rintro q w' ⟨rfl, rfl⟩) | (go_at_call 188; refine (isnan_run _ _).mono ?_; rintro q w' ⟨rfl, rfl⟩; rw [hn]) | (go_at_call 189; refine (normalize_full HX.out _).mono ?_; rintro q w' ⟨y, d, rfl, hy, hd, rfl⟩; have HY := Lib.hid (And.intro hy hd); clear hy hd))
  have h1 := full_exp HY.out.1 HY.out.2
  refine bodyPost_ret (v := .tuple #[.float .f64 (bits BinOp.or IntKind.u64 (bits BinOp.andNot IntKind.u64 (y : Int) 9218868437227405312) 4602678819172646912).toNat, .int .i64 (wrap64 (d + wrap64 (wrap64 (wrap64 (bits BinOp.and IntKind.u64 ((y : Int) / 4503599627370496) 2047) - 1023) + 1)))]) (by simp [results, go_sem]) rfl ⟨?_, rfl⟩
  rw [h1, frexp_bits HY.out.1, HW.out]
theorem Frexp_full {s : Bool} {m : Nat} {e : Int} {x : Nat} (h : Full s m e x) (h2 : 2 ^ 52 ≤ m) (h3 : m < 2 ^ 53) (w : World) : Calls Tryz.prog 123 #[.float .f64 x] w fun q w' => ∃ y, q = .returned (.tuple #[.float .f64 y, .int .i64 (e + 53)]) ∧ Nrm s m (-53) y ∧ w = w' := by
  obtain ⟨y, hy⟩ : ∃ y, y = (if s then negZero else 0) + (1022 * 2 ^ 52 + (m - 2 ^ 52)) := ⟨_, rfl⟩
  have hN : Nrm s m (-53) y := by
    have := word_nrm (s := s) (m := m) (e := -53) h2 h3 (by omega) (by omega)
    rw [show ((-53 : Int) + 1075).toNat = 1022 from rfl, ← hy] at this
    exact this
  have F := fun u => frexp_full h u
  rw [← hy] at F
  have HN := Lib.hid hN
  clear hy hN h h2 h3
  go_enter Tryz.func123, Tryz.ntmps123
  go_wp2_with (go_at_call 161; refine (F _).mono ?_; rintro q w' ⟨rfl, rfl⟩)
  exact bodyPost_ret (v := .tuple #[.float .f64 y, .int .i64 (e + 53)]) (by simp [results, go_sem]) rfl ⟨_, rfl, HN.out, rfl⟩
end Go.Proofs.YtpmdgmnpkdoamabGreatDoor.Vc
