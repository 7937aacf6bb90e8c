/- Proved here: how a double stands to 0 by its sign, and that the two ways of the unary operations on floats give the same floats. Condition: the words are 64 bits wide. -/
import Derived.Test.YtpmdgmnpkdoamabDoorUn8
namespace Go.Proofs.YtpmdgmnpkdoamabDoor.Vc
open Go.RowKit Fl Prom
open Ieee
theorem V_neg {m : Nat} {e : Int} (h : m ≠ 0) : V true m e < 0 := by
  have := pos_pow (e + 1200).toNat
  have hm : (0 : Int) < (m : Int) := by omega
  have := Int.mul_pos hm this
  simp only [V, signed_eq]
  simp only [if_true]
  omega
theorem V_nonneg (m : Nat) (e : Int) : 0 ≤ V false m e := by
  have := pos_pow (e + 1200).toNat
  have hm : (0 : Int) ≤ (m : Int) := by omega
  have := Int.mul_nonneg hm (Int.le_of_lt this)
  simp only [V, signed_eq]
  simp only [Bool.false_eq_true, if_false]
  omega
theorem order_sign (s : Bool) (m : Nat) (e : Int) (he : -1200 ≤ e) : (Datum.order (.number s m e) (.number false 0 (-1074)) == some .lt) = (s && decide (m ≠ 0)) := by
  rw [order_num s false m 0 e (-1074) he (by omega), V_zero]
  cases s
  · have := V_nonneg m e
    generalize V false m e = x at *
    have n1 : ¬ x < 0 := by omega
    by_cases h : x = 0
    · subst h; simp [compare, compareOfLessAndEq]
    · simp [compare, compareOfLessAndEq, n1, h]
  · by_cases h : m = 0
    · subst h; rw [V_zero]; simp [compare, compareOfLessAndEq]
    · have := V_neg (e := e) h
      generalize V true m e = x at *
      simp [compare, compareOfLessAndEq, this, h]
theorem sign_of {x : Nat} (hx : x < 18446744073709551616) : (x / negZero % 2 == 1) = decide (negZero ≤ x) := by
  unfold negZero
  by_cases h : 9223372036854775808 ≤ x
  · have : x / 9223372036854775808 = 1 := by omega
    rw [this, decide_eq_true h]; rfl
  · have : x / 9223372036854775808 = 0 := by omega
    rw [this, decide_eq_false h]; rfl
theorem flt_zero {x : Nat} (hx : x < 18446744073709551616) : flt x 0 = (!fnan x && decide (negZero < x)) := by
  have h0 : double.read 0 = .number false 0 (-1074) := by decide
  have hs := sign_of hx
  have hlt : negZero < x ↔ (negZero ≤ x ∧ x % negZero ≠ 0) := by unfold negZero; omega
  have hd : decide (negZero < x) = (decide (negZero ≤ x) && decide (x % negZero ≠ 0)) := by
    by_cases a : negZero < x
    · have b := hlt.1 a
      rw [decide_eq_true a, decide_eq_true b.1, decide_eq_true b.2]; rfl
    · rw [decide_eq_false a]
      by_cases b : negZero ≤ x
      · have c : ¬ x % negZero ≠ 0 := fun c => a (hlt.2 ⟨b, c⟩)
        rw [decide_eq_false c, Bool.and_false]
      · rw [decide_eq_false b]; rfl
  rw [fnan_eq]
  unfold flt Format.order
  rw [h0]
  unfold Format.read
  simp only [dbl_binade, dbl_inf, dbl_least, dbl_sign]
  rw [hs, hd]
  clear hs hd hlt h0
  generalize x % negZero = rung
  by_cases h1 : rung < 2 ^ 52
  · rw [if_pos h1, order_sign _ _ _ (by omega)]
    simp only [Datum.isNaN]
    by_cases a : negZero ≤ x <;> by_cases b : rung = 0 <;> simp [a, b]
  · rw [if_neg h1]
    by_cases h2 : rung < 2047 * 2 ^ 52
    · rw [if_pos h2, order_sign _ _ _ (by omega)]
      simp only [Datum.isNaN]
      have b : ¬ rung = 0 := by omega
      by_cases a : negZero ≤ x <;> simp [a, b]
    · rw [if_neg h2]
      by_cases h3 : rung = 2047 * 2 ^ 52
      · rw [if_pos h3]
        have b : ¬ rung = 0 := by omega
        by_cases a : negZero ≤ x <;> simp [a, b, Datum.order, Datum.isNaN]
      · rw [if_neg h3]
        simp [Datum.order, Datum.isNaN]
theorem fnan_mod {x : Nat} : fnan (x % negZero) = fnan x := by
  rw [fnan_eq, fnan_eq]
  unfold Format.read
  simp only [dbl_binade, dbl_inf, dbl_least, dbl_sign, Nat.mod_mod]
  split
  · rfl
  · split
    · rfl
    · split <;> rfl
theorem same_nans {a b : Nat} (ha : fnan a = true) (hb : fnan b = true) : sameF a b = true := by unfold sameF; rw [ha, hb]; rfl
theorem neg_same {x y : Nat} (hx : x < 18446744073709551616) (h : NegOf x y) : sameF (Fl.flip x) y = true := by
  obtain ⟨_, h1, h2⟩ := h
  cases hn : fnan x
  · rw [h2 hn]; exact same_self _
  · exact same_nans (by rw [fnan_flip hx]; exact hn) (h1 hn)
/-- The absolute value as the reference works it out: the sign turned below 0, 0 for a zero, else as it is. -/
theorem abs_neg {x y : Nat} (hx : x < 18446744073709551616) (h : flt x 0 = true) (hy : NegOf x y) : sameF (x % negZero) y = true := by
  rw [flt_zero hx] at h
  obtain ⟨_, h1, h2⟩ := hy
  simp only [Bool.and_eq_true, Bool.not_eq_true', decide_eq_true_eq] at h
  rw [h2 h.1]
  have : x % negZero = Fl.flip x := by
    unfold Fl.flip
    have := h.2
    unfold negZero at *
    rw [if_neg (by omega)]
    omega
  rw [this]; exact same_self _
theorem abs_zero {x : Nat} (hx : x < 18446744073709551616) (h : feq x 0 = true) : sameF (x % negZero) 0 = true := by
  rw [feq_zero hx] at h
  have h := of_decide_eq_true h
  rcases h with rfl | rfl <;> decide
theorem abs_keep {x : Nat} (hx : x < 18446744073709551616) (h : flt x 0 = false) (h2 : feq x 0 = false) : sameF (x % negZero) x = true := by
  cases hn : fnan x
  · rw [flt_zero hx, hn] at h
    rw [feq_zero hx] at h2
    have h2 := of_decide_eq_false h2
    simp at h
    have : x % negZero = x := by unfold negZero at *; omega
    rw [this]; exact same_self _
  · exact same_nans (by rw [fnan_mod]; exact hn) hn
end Go.Proofs.YtpmdgmnpkdoamabDoor.Vc
