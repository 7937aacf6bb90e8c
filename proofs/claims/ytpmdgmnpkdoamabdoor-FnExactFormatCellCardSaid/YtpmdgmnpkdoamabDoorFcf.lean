/- Proved here: what math.IsInf and math.normalize answer of a finite float. Conditions: the float is finite. -/
import Derived.Test.YtpmdgmnpkdoamabDoorFce
import Derived.Test.YtpmdgmnpkdoamabDoorUn4
namespace Go.Proofs.YtpmdgmnpkdoamabDoor.Vc
open Go.RowKit Fl Prom Go.Proofs.YtpmdgmnpkdoamabDoorW.PrintWords
open Ieee (single double Format Datum)
set_option linter.unusedVariables false
set_option linter.unusedSimpArgs false
def MAXF : Nat := 9218868437227405311
theorem v_max {q : Nat} (hq : q = 2171) : Val false ((2 ^ 53 - 1) * 2 ^ q) MAXF := by
  refine ⟨2 ^ 53 - 1, 971, by decide, by omega, by omega, by decide, ?_⟩
  rw [show ((971 : Int) + 1200).toNat = q by omega]
theorem val_le {s : Bool} {A x q : Nat} (hq : q = 2171) (h : Val s A x) : A ≤ (2 ^ 53 - 1) * 2 ^ q := by
  obtain ⟨m, e, h1, h2, h3, h4, h5⟩ := h
  rw [h5]
  have h6 : (e + 1200).toNat ≤ q := by omega
  exact Nat.mul_le_mul (by omega) (Nat.pow_le_pow_right (by omega) h6)
/-- No finite float is above the greatest. -/
theorem not_above {s : Bool} {A x : Nat} (h : Val s A x) : (FloatKind.f64.format.order x 9218868437227405311 == some Ordering.gt) = false := by
  obtain ⟨q, hq⟩ : ∃ q : Nat, q = 2171 := ⟨_, rfl⟩
  have h1 := val_order h (v_max hq)
  have h2 := val_le hq h
  show (double.order x MAXF == some Ordering.gt) = false
  rw [h1]
  generalize (2 ^ 53 - 1) * 2 ^ q = B at *
  cases s
  · simp only [Bool.false_eq_true, if_false]
    rcases Nat.eq_or_lt_of_le h2 with h | h
    · rw [h, cmp_eq]; rfl
    · rw [cmp_lt (by omega)]; rfl
  · simp only [if_true, Bool.false_eq_true, if_false]
    by_cases hB : (-1 : Int) * A = 1 * B
    · rw [hB, cmp_eq]; rfl
    · rw [cmp_lt (by omega)]; rfl
theorem val_abs {s : Bool} {A x : Nat} (hx : x < 18446744073709551616) (h : Val s A x) : Val false A (x % negZero) := by
  cases s
  · have : x % negZero = x := by
      obtain ⟨m, e, h1, _⟩ := h
      unfold Format.read at h1
      simp only [dbl_binade, dbl_inf, dbl_least, dbl_sign] at h1
      have hs : (x / negZero % 2 == 1) = false := by
        split at h1
        · injection h1
        · split at h1
          · injection h1
          · split at h1 <;> cases h1
      unfold negZero at *
      have : ¬ x / 9223372036854775808 % 2 = 1 := by simpa using hs
      omega
    rw [this]; exact h
  · have h2 := val_flip hx h
    have : x % negZero = Fl.flip x := by
      obtain ⟨m, e, h1, _⟩ := h
      unfold Format.read at h1
      simp only [dbl_binade, dbl_inf, dbl_least, dbl_sign] at h1
      have hs : (x / negZero % 2 == 1) = true := by
        split at h1
        · injection h1
        · split at h1
          · injection h1
          · split at h1 <;> cases h1
      unfold Fl.flip negZero at *
      have : x / 9223372036854775808 % 2 = 1 := by simpa using hs
      rw [if_neg (by omega)]
      omega
    rw [this]; exact h2
theorem isinf_run {s : Bool} {A x : Nat} (hx : x < 18446744073709551616) (h : Val s A x) (g : Int) (hg : g = 0 ∨ g = 1 ∨ g = -1) (w : World) : Calls Tryd.prog 163 #[.float .f64 x, .int .i64 g] w fun e w' => e = .returned (.bool false) ∧ w = w' := by
  have o1 := not_above h
  have o2 := not_above (val_abs hx h)
  have o3 := not_above (val_flip hx h)
  have hn := neg_float x hx
  have HX := Lib.hid hx
  clear h hx
  rcases hg with rfl | rfl | rfl
  all_goals
    go_enter Tryd.func163, Tryd.ntmps163
    go_wp2_with (go_at_call 152; refine (impl_abs _ HX.out _).mono ?_; rintro e w' ⟨rfl, rfl⟩)
    all_goals go_ret
    all_goals exact ⟨rfl, rfl⟩
/-- A double that has all its digits: its sign, its 53 digits, its place. -/
def Nrm (s : Bool) (m : Nat) (e : Int) (x : Nat) : Prop := x < 18446744073709551616 ∧ double.read x = .number s m e ∧ 2 ^ 52 ≤ m ∧ m < 2 ^ 53 ∧ -1074 ≤ e ∧ e ≤ 971
theorem nrm_val {s : Bool} {m : Nat} {e : Int} {x : Nat} (h : Nrm s m e x) : Val s (m * 2 ^ (e + 1200).toNat) x := ⟨m, e, h.2.1, h.2.2.2.2.1, h.2.2.2.2.2, h.2.2.2.1, rfl⟩
/-- The fields of such a word. -/
theorem nrm_word {s : Bool} {m : Nat} {e : Int} {x : Nat} (h : Nrm s m e x) : x = (if s then negZero else 0) + ((e + 1075).toNat * 2 ^ 52 + (m - 2 ^ 52)) := by
  obtain ⟨hx, h1, h2, h3, h4, h5⟩ := h
  unfold Format.read at h1
  simp only [dbl_binade, dbl_inf, dbl_least, dbl_sign] at h1
  have hmod : x % negZero < negZero := Nat.mod_lt _ (by decide)
  have hdiv : x = negZero * (x / negZero) + x % negZero := (Nat.div_add_mod x negZero).symm
  have hq : x / negZero < 2 := by unfold negZero; omega
  generalize hr : x % negZero = rung at *
  by_cases c1 : rung < 2 ^ 52
  · rw [if_pos c1] at h1
    simp only [Datum.number.injEq] at h1
    obtain ⟨a1, a2, a3⟩ := h1
    omega
  · rw [if_neg c1] at h1
    by_cases c2 : rung < 2047 * 2 ^ 52
    · rw [if_pos c2] at h1
      simp only [Datum.number.injEq] at h1
      obtain ⟨a1, a2, a3⟩ := h1
      have hs : x / negZero = if s then 1 else 0 := by
        generalize x / negZero = q at a1 hq
        cases s
        · have : ¬ q % 2 = 1 := by simpa using a1
          show q = 0
          omega
        · have : q % 2 = 1 := by simpa using a1
          show q = 1
          omega
      have he : rung = (e + 1075).toNat * 2 ^ 52 + (m - 2 ^ 52) := by omega
      rw [hdiv, hs, he]
      cases s <;> simp
    · rw [if_neg c2] at h1
      split at h1 <;> cases h1
theorem word_nrm {s : Bool} {m : Nat} {e : Int} (h2 : 2 ^ 52 ≤ m) (h3 : m < 2 ^ 53) (h4 : -1074 ≤ e) (h5 : e ≤ 971) : Nrm s m e ((if s then negZero else 0) + ((e + 1075).toNat * 2 ^ 52 + (m - 2 ^ 52))) := by
  obtain ⟨r, hr⟩ : ∃ r, r = (e + 1075).toNat * 2 ^ 52 + (m - 2 ^ 52) := ⟨_, rfl⟩
  rw [← hr]
  have hrd := read_word double s r (by rw [dbl_inf]; omega)
  rw [dbl_binade, dbl_least, if_neg (show ¬ r < 2 ^ 52 by omega)] at hrd
  have hw : double.word s r = (if s = true then negZero else 0) + r := by unfold Format.word; rw [dbl_sign]; cases s <;> simp
  rw [hw] at hrd
  refine ⟨by unfold negZero; split <;> omega, hrd.trans ?_, h2, h3, h4, h5⟩
  rw [show 2 ^ 52 + r % 2 ^ 52 = m by omega, show ((-1074 : Int) + ((r / 2 ^ 52 - 1 : Nat) : Int)) = e by omega]
theorem v_small {q : Nat} (hq : q = 126) : Val false (2 ^ 52 * 2 ^ q) 4503599627370496 := by
  refine ⟨2 ^ 52, -1074, by decide, by omega, by omega, by decide, ?_⟩
  rw [show ((-1074 : Int) + 1200).toNat = q by omega]
theorem not_small {s : Bool} {m : Nat} {e : Int} {x : Nat} (h : Nrm s m e x) : (FloatKind.f64.format.order (x % negZero) 4503599627370496 == some Ordering.lt) = false := by
  obtain ⟨q, hq⟩ : ∃ q : Nat, q = 126 := ⟨_, rfl⟩
  have h1 := ord_pos (val_abs h.1 (nrm_val h)) (v_small hq)
  have hle : 2 ^ 52 * 2 ^ q ≤ m * 2 ^ (e + 1200).toNat := Nat.mul_le_mul h.2.2.1 (Nat.pow_le_pow_right (by omega) (by have := h.2.2.2.2.1; omega))
  show (double.order (x % negZero) 4503599627370496 == some Ordering.lt) = false
  rw [h1]
  generalize 2 ^ 52 * 2 ^ q = B at hle
  generalize m * 2 ^ (e + 1200).toNat = A at hle
  rcases Nat.eq_or_lt_of_le hle with h | h
  · rw [h, cmp_eq]; rfl
  · rw [cmpn_gt h]; rfl
theorem normalize_nrm {s : Bool} {m : Nat} {e : Int} {x : Nat} (h : Nrm s m e x) (w : World) : Calls Tryd.prog 206 #[.float .f64 x] w fun e w' => e = .returned (.tuple #[.float .f64 x, .int .i64 0]) ∧ w = w' := by
  have o1 := not_small h
  have HX := Lib.hid h
  clear h
  go_enter Tryd.func206, Tryd.ntmps206
  go_wp2_with (go_at_call 152; refine (impl_abs _ HX.out.1 _).mono ?_; rintro e w' ⟨rfl, rfl⟩)
  exact bodyPost_ret (v := .tuple #[.float .f64 x, .int .i64 0]) (by simp [results, go_sem]) rfl ⟨rfl, rfl⟩
/-! ### the fields, by the machine's own operations -/
theorem field_shr {ex fr : Nat} (b : Bool) (he : ex < 2048) (hf : fr < 2 ^ 52) : ((((if b then negZero else 0) + (ex * 2 ^ 52 + fr)) >>> 52) &&& 2047) = ex := by
  rw [Nat.shiftRight_eq_div_pow, show (2047 : Nat) = 2 ^ 11 - 1 from rfl, Nat.and_two_pow_sub_one_eq_mod]
  unfold negZero
  split <;> omega
end Go.Proofs.YtpmdgmnpkdoamabDoor.Vc
