/- Proved here: the fields of a double's word under the machine's and, or, and-not; math.frexp of a double with all its digits. No condition beyond the fields' widths. -/
import Derived.Test.YtpmdgmnpkdoamabDoorFcf
namespace Go.Proofs.YtpmdgmnpkdoamabDoor.Vc
open Go.RowKit Fl Prom Go.Proofs.YtpmdgmnpkdoamabDoorW.PrintWords
open Ieee (double Format Datum)
set_option linter.unusedVariables false
set_option linter.unusedSimpArgs false
theorem low_or {q fr : Nat} (hf : fr < 2 ^ 52) : 2 ^ 52 * q + fr = 2 ^ 52 * q ||| fr := Nat.two_pow_add_eq_or_of_lt hf q
theorem high_and {q fr M : Nat} (hf : fr < 2 ^ 52) : (2 ^ 52 * q + fr) &&& (2 ^ 52 * M + (2 ^ 52 - 1)) = 2 ^ 52 * (q &&& M) + fr := by
  rw [low_or hf, low_or (show 2 ^ 52 - 1 < 2 ^ 52 by omega), low_or hf]
  apply Nat.eq_of_testBit_eq
  intro i
  simp only [Nat.testBit_and, Nat.testBit_or, Nat.testBit_two_pow_mul, Nat.testBit_two_pow_sub_one]
  by_cases h : i < 52
  · have : ¬ i ≥ 52 := by omega
    simp [h, this]
  · have h1 : fr.testBit i = false := Nat.testBit_lt_two_pow (Nat.lt_of_lt_of_le hf (Nat.pow_le_pow_right (by omega) (by omega)))
    have : i ≥ 52 := by omega
    simp [h, h1, this]
theorem high_or {q fr M : Nat} (hf : fr < 2 ^ 52) : (2 ^ 52 * q + fr) ||| (2 ^ 52 * M) = 2 ^ 52 * (q ||| M) + fr := by
  rw [low_or hf, low_or hf]
  apply Nat.eq_of_testBit_eq
  intro i
  simp only [Nat.testBit_or, Nat.testBit_two_pow_mul]
  by_cases h : i ≥ 52
  · simp [h]
    cases q.testBit (i - 52) <;> cases M.testBit (i - 52) <;> cases fr.testBit i <;> rfl
  · simp [h]
theorem and_bit (q : Nat) : q &&& 2 ^ 11 = if q / 2 ^ 11 % 2 = 1 then 2 ^ 11 else 0 := by
  apply Nat.eq_of_testBit_eq
  intro i
  rw [Nat.testBit_and, Nat.testBit_two_pow]
  by_cases h : 11 = i
  · subst h
    rw [Nat.testBit_eq_decide_div_mod_eq]
    by_cases h2 : q / 2 ^ 11 % 2 = 1
    · rw [if_pos h2]; simp [h2]; decide
    · rw [if_neg h2]; simp [h2]
  · rw [decide_eq_false h, Bool.and_false]
    split
    · rw [Nat.testBit_two_pow, decide_eq_false h]
    · simp
theorem field_clear {ex fr : Nat} (b : Bool) (he : ex < 2048) (hf : fr < 2 ^ 52) : (((if b then negZero else 0) + (ex * 2 ^ 52 + fr)) &&& (18446744073709551615 - 9218868437227405312)) = (if b then negZero else 0) + fr := by
  have h1 : (if b then negZero else 0) + (ex * 2 ^ 52 + fr) = 2 ^ 52 * ((if b then 2 ^ 11 else 0) + ex) + fr := by
    unfold negZero
    cases b <;> simp <;> omega
  rw [h1, show (18446744073709551615 - 9218868437227405312 : Nat) = 2 ^ 52 * 2 ^ 11 + (2 ^ 52 - 1) by decide, high_and hf, and_bit]
  unfold negZero
  cases b
  · have : ¬ ex / 2 ^ 11 % 2 = 1 := by omega
    simp [this]
  · have : (2 ^ 11 + ex) / 2 ^ 11 % 2 = 1 := by omega
    simp only [if_true]
    rw [if_pos this]
theorem field_set {k fr : Nat} (b : Bool) (hk : k < 2048) (hf : fr < 2 ^ 52) : (((if b then negZero else 0) + fr) ||| (2 ^ 52 * k)) = (if b then negZero else 0) + (k * 2 ^ 52 + fr) := by
  have h1 : (if b then negZero else 0) + fr = 2 ^ 52 * (if b then 2 ^ 11 else 0) + fr := by
    unfold negZero
    cases b <;> simp
  rw [h1, high_or hf]
  have h2 : ((if b then 2 ^ 11 else 0) ||| k) = (if b then 2 ^ 11 else 0) + k := by
    cases b
    · simp
    · have := Nat.two_pow_add_eq_or_of_lt (i := 11) hk 1
      simpa using this.symm
  rw [h2]
  unfold negZero
  cases b <;> simp <;> omega
theorem isnan_run (x : Nat) (w : World) : Calls Tryd.prog 205 #[.float .f64 x] w fun e w' => e = .returned (.bool (fnan x)) ∧ w = w' := by
  go_enter Tryd.func205, Tryd.ntmps205
  go_wp2
  go_ret
  exact ⟨rfl, rfl⟩
theorem frexp_bits {s : Bool} {m : Nat} {e : Int} {x : Nat} (h : Nrm s m e x) : (bits BinOp.or IntKind.u64 (bits BinOp.andNot IntKind.u64 (x : Int) 9218868437227405312) 4602678819172646912).toNat = (if s then negZero else 0) + (1022 * 2 ^ 52 + (m - 2 ^ 52)) := by
  have hw := nrm_word h
  obtain ⟨hx, _, h2, h3, h4, h5⟩ := h
  have h6 := u64_andNot_nat x 9218868437227405312 hx (by omega)
  have h7 : x &&& (18446744073709551615 - 9218868437227405312) = (if s then negZero else 0) + (m - 2 ^ 52) := by
    rw [hw]
    exact field_clear s (by omega) (by omega)
  rw [h7] at h6
  rw [show bits BinOp.andNot IntKind.u64 (x : Int) 9218868437227405312 = (((if s then negZero else 0) + (m - 2 ^ 52) : Nat) : Int) from h6]
  have h8 := u64_or_nat ((if s then negZero else 0) + (m - 2 ^ 52)) 4602678819172646912 (by unfold negZero; split <;> omega) (by omega)
  rw [show bits BinOp.or IntKind.u64 (((if s then negZero else 0) + (m - 2 ^ 52) : Nat) : Int) 4602678819172646912 = _ from h8, Int.toNat_natCast]
  have h9 := field_set (k := 1022) (fr := m - 2 ^ 52) s (by omega) (by omega)
  rw [← h9]
theorem exp_bits {s : Bool} {m : Nat} {e : Int} {x : Nat} (h : Nrm s m e x) : bits BinOp.and IntKind.u64 ((x : Int) / 4503599627370496) 2047 = e + 1075 := by
  have hw := nrm_word h
  obtain ⟨hx, _, h2, h3, h4, h5⟩ := h
  have h6 := u64_and_nat (x / 4503599627370496) 2047 (by omega) (by omega)
  have h7 : x / 4503599627370496 &&& 2047 = (e + 1075).toNat := by
    have := field_shr (ex := (e + 1075).toNat) (fr := m - 2 ^ 52) s (by omega) (by omega)
    rw [← hw, Nat.shiftRight_eq_div_pow] at this
    exact this
  rw [h7] at h6
  rw [show (x : Int) / 4503599627370496 = ((x / 4503599627370496 : Nat) : Int) from (Int.natCast_ediv x 4503599627370496).symm]
  rw [show bits BinOp.and IntKind.u64 ((x / 4503599627370496 : Nat) : Int) 2047 = _ from h6]
  omega
theorem nrm_ne {s : Bool} {m : Nat} {e : Int} {x : Nat} (h : Nrm s m e x) : (FloatKind.f64.format.order x 0 == some Ordering.eq) = false := by
  have h1 := val_order (nrm_val h) v_zero
  have hA : m * 2 ^ (e + 1200).toNat ≠ 0 := Nat.mul_ne_zero (by have := h.2.2.1; omega) (by have := Nat.two_pow_pos (e + 1200).toNat; omega)
  show (double.order x 0 == some Ordering.eq) = false
  rw [h1]
  generalize m * 2 ^ (e + 1200).toNat = A at hA
  cases s
  · simp only [Bool.false_eq_true, if_false]
    rw [cmp_gt (by omega)]; rfl
  · simp only [if_true, Bool.false_eq_true, if_false]
    rw [cmp_lt (by omega)]; rfl
theorem frexp_nrm {s : Bool} {m : Nat} {e : Int} {x : Nat} (h : Nrm s m e x) (w : World) : Calls Tryd.prog 194 #[.float .f64 x] w fun q w' => q = .returned (.tuple #[.float .f64 ((if s then negZero else 0) + (1022 * 2 ^ 52 + (m - 2 ^ 52))), .int .i64 (e + 53)]) ∧ w = w' := by
  have hV := nrm_val h
  have HX := Lib.hid h
  have HV := Lib.hid hV
  have hn := val_nan hV
  have o1 := nrm_ne h
  have hb := bits_run x
  have hf := frombits_run
  rw [← frexp_bits h]
  clear h hV
  go_enter Tryd.func194, Tryd.ntmps194
  go_wp2_with (first | (go_at_call 163; refine (isinf_run HX.out.1 HV.out _ (by simp) _).mono ?_; rintro q w' ⟨rfl, rfl⟩) | (go_at_call 205; refine (isnan_run _ _).mono ?_; rintro q w' ⟨rfl, rfl⟩; rw [hn]) | (go_at_call 206; refine (normalize_nrm HX.out _).mono ?_; rintro q w' ⟨rfl, rfl⟩))
  have h1 := exp_bits HX.out
  have h2 := HX.out.2.2.2.2
  refine bodyPost_ret (v := .tuple #[.float .f64 (bits BinOp.or IntKind.u64 (bits BinOp.andNot IntKind.u64 (x : Int) 9218868437227405312) 4602678819172646912).toNat, .int .i64 (wrap64 (wrap64 (wrap64 (wrap64 (bits BinOp.and IntKind.u64 ((x : Int) / 4503599627370496) 2047) - 1023) + 1)))]) (by simp [results, go_sem]) rfl ⟨?_, rfl⟩
  rw [h1, show wrap64 (wrap64 (wrap64 (wrap64 (e + 1075) - 1023) + 1)) = e + 53 by unfold wrap64; omega]
end Go.Proofs.YtpmdgmnpkdoamabDoor.Vc
