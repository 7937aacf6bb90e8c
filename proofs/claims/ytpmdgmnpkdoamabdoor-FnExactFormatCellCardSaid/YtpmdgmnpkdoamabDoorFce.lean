/- Proved here: the text of a float as a relation, and that spec.l6Float answers it. Condition: the word is a double's. -/
import Derived.Test.YtpmdgmnpkdoamabDoorFcd
namespace Go.Proofs.YtpmdgmnpkdoamabDoor.Vc
open Go.RowKit Fl Prom Go.Proofs.YtpmdgmnpkdoamabDoorW.PrintWords
open Ieee (single double Format Datum)
set_option linter.unusedVariables false
set_option linter.unusedSimpArgs false
/-- The text of a float. -/
def FTx (x : Nat) (l : List UInt8) : Prop :=
  (fnan x = true ∧ l = [110, 97, 110]) ∨ (x = 0 ∧ l = [48]) ∨ (x = negZero ∧ l = [45, 48]) ∨ (x = INF ∧ l = [105, 110, 102]) ∨ (x = negZero + INF ∧ l = [45, 105, 110, 102]) ∨
  (∃ o t : Nat, o % 2 = 1 ∧ Val false (o * 2 ^ t) x ∧ l = Lib.itoa o ++ 112 :: Lib.itoa ((t : Int) - 1200)) ∨
  (∃ o t : Nat, o % 2 = 1 ∧ Val true (o * 2 ^ t) x ∧ l = 45 :: (Lib.itoa o ++ 112 :: Lib.itoa ((t : Int) - 1200)))
theorem txt_len {s : Bool} {o t x : Nat} (hV : Val s (o * 2 ^ t) x) (ho : o % 2 = 1) : (Lib.itoa o ++ 112 :: Lib.itoa ((t : Int) - 1200)).length ≤ 43 := by
  have hs := odd_small hV ho
  have l1 := Lib.itoa_length_le (o : Int) (by omega) (by omega)
  have l2 := Lib.itoa_length_le ((t : Int) - 1200) (by omega) (by omega)
  simp
  omega
theorem ftx_len {x : Nat} {l : List UInt8} (h : FTx x l) : l.length ≤ 44 := by
  rcases h with ⟨_, rfl⟩ | ⟨_, rfl⟩ | ⟨_, rfl⟩ | ⟨_, rfl⟩ | ⟨_, rfl⟩ | ⟨o, t, ho, hV, rfl⟩ | ⟨o, t, ho, hV, rfl⟩
  · decide
  · decide
  · decide
  · decide
  · decide
  · have := txt_len hV ho; omega
  · have := txt_len hV ho; rw [List.length_cons]; omega
theorem val_word_zero {s : Bool} {x : Nat} (hx : x < 18446744073709551616) (h : Val s 0 x) : x = 0 ∨ x = negZero := by
  obtain ⟨m, e, h1, h2, h3, h4, h5⟩ := h
  have h0 : m = 0 := by
    rcases Nat.eq_zero_or_pos m with h | h
    · exact h
    · have := Nat.mul_pos h (Nat.two_pow_pos (e + 1200).toNat); omega
  rcases read_double x with h | ⟨_, h⟩ | ⟨_, m', _, h, _, hm⟩
  · rw [h1] at h; cases h
  · rw [h1] at h; cases h
  · rw [h1] at h
    injection h with _ h6 _
    exact zero_of_mod hx (hm (h6 ▸ h0))
theorem inf_word {s : Bool} {x : Nat} (hx : x < 18446744073709551616) (h : double.read x = .infinity s) : x = if s then negZero + INF else INF := by
  unfold Format.read at h
  simp only [dbl_binade, dbl_inf, dbl_least, dbl_sign] at h
  split at h
  · cases h
  · split at h
    · cases h
    · split at h
      · rename_i h3
        injection h with h4
        unfold negZero INF at *
        cases s
        · have : ¬ x / 9223372036854775808 % 2 = 1 := by simpa using h4
          simp; omega
        · have : x / 9223372036854775808 % 2 = 1 := by simpa using h4
          simp; omega
      · cases h
theorem ftx_ex (x : Nat) (hx : x < 18446744073709551616) : ∃ l, FTx x l := by
  unfold FTx
  rcases val_cases x with h | ⟨s, h⟩ | ⟨s, A, h⟩
  · exact ⟨_, .inl ⟨by rw [fnan_eq]; exact h, rfl⟩⟩
  · have := inf_word hx h
    cases s
    · exact ⟨_, .inr (.inr (.inr (.inl ⟨this, rfl⟩)))⟩
    · exact ⟨_, .inr (.inr (.inr (.inr (.inl ⟨this, rfl⟩))))⟩
  · by_cases hA : A = 0
    · subst hA
      rcases val_word_zero hx h with h | h
      · exact ⟨_, .inr (.inl ⟨h, rfl⟩)⟩
      · exact ⟨_, .inr (.inr (.inl ⟨h, rfl⟩))⟩
    · obtain ⟨o, t, ho, rfl⟩ := odd_part A A (Nat.le_refl _) hA
      cases s
      · exact ⟨_, .inr (.inr (.inr (.inr (.inr (.inl ⟨o, t, ho, h, rfl⟩)))))⟩
      · exact ⟨_, .inr (.inr (.inr (.inr (.inr (.inr ⟨o, t, ho, h, rfl⟩)))))⟩
theorem spec_float {x : Nat} {l : List UInt8} (hx : x < 18446744073709551616) (h : FTx x l) : SFL x l := by
  rcases h with ⟨h, rfl⟩ | ⟨rfl, rfl⟩ | ⟨rfl, rfl⟩ | ⟨rfl, rfl⟩ | ⟨rfl, rfl⟩ | ⟨o, t, ho, hV, rfl⟩ | ⟨o, t, ho, hV, rfl⟩
  · exact sfl_nan h
  · exact sfl_zero
  · exact sfl_nzero
  · exact sfl_inf
  · refine sfl_neg hx (by decide) (by decide) (by decide) ?_
    rw [show Fl.flip (negZero + INF) = INF by decide]
    exact sfl_inf
  · exact fun w => sfl_pos o t x hV ho w
  · have hA : o * 2 ^ t ≠ 0 := Nat.mul_ne_zero (by omega) (by have := Nat.two_pow_pos t; omega)
    refine sfl_neg hx (val_nan hV) ?_ (by have := txt_len hV ho; omega) (fun w => sfl_pos o t _ (val_flip hx hV) ho w)
    refine (val_order hV v_zero).trans ?_
    generalize o * 2 ^ t = A at hA
    simp only [if_true, Bool.false_eq_true, if_false]
    rw [cmp_lt (by omega)]
end Go.Proofs.YtpmdgmnpkdoamabDoor.Vc
