/- Proved here: -1 times a double that is no NaN is the double with its sign turned. No condition beyond the word's width. -/
import Derived.Test.YtpmdgmnpkdoamabGreatDoorCtFl
import Derived.Laws.FloatArith
namespace Go.Proofs.YtpmdgmnpkdoamabGreatDoor.Fl
open Ieee
def flip (x : Nat) : Nat := if x < negZero then x + negZero else x - negZero
def negOne : Nat := 13830554455654793216
theorem negOne_read : double.read negOne = .number true (2 ^ 52) (-52) := by decide
theorem log2_mul (m : Nat) (h : m ≠ 0) : (2 ^ 52 * m).log2 = 52 + m.log2 := by
  obtain ⟨lo, hi⟩ := log2_bounds h
  have h' : 2 ^ 52 * m ≠ 0 := Nat.mul_ne_zero (by decide) h
  rw [Nat.log2_eq_iff h']
  refine ⟨?_, ?_⟩
  · rw [Nat.pow_add]; exact Nat.mul_le_mul_left _ lo
  · rw [show 52 + m.log2 + 1 = 52 + (m.log2 + 1) by omega, Nat.pow_add]; exact Nat.mul_lt_mul_of_pos_left hi (by decide)
theorem cut_52 (neg : Bool) (m : Nat) (h : m ≠ 0) : Toward.even.cut neg (2 ^ 52 * m) 52 = m := by
  unfold Toward.cut
  rw [log2_mul m h, Nat.min_eq_left (by omega), Nat.shiftLeft_eq, Nat.one_mul]
  dsimp only
  rw [Nat.mul_div_cancel_left _ (by decide), Nat.mul_mod_right]
  simp
theorem nearest_back (s : Bool) (d m : Nat) (h : m ≠ 0) (hm : d = 0 ∧ m.log2 ≤ 52 ∨ m.log2 = 52) (hr : d * 2 ^ 52 + m ≤ double.infRung) :
    double.nearest s (2 ^ 52 * m) (-52 + (-1074 + (d : Int))) = double.word s (d * 2 ^ 52 + m) := by
  unfold Format.nearest
  rw [if_neg (Nat.mul_ne_zero (by decide) h)]
  simp only [dbl_least, show (double.fractionBits : Int) = 52 from rfl, log2_mul m h]
  have hlast : max (-52 + (-1074 + (d : Int)) + ((52 + m.log2 : Nat) : Int) - 52) (-1074) = -1074 + (d : Int) := by omega
  rw [hlast, show (-52 + (-1074 + (d : Int)) - (-1074 + (d : Int))).toNat = 0 by omega, show (-1074 + (d : Int) - (-52 + (-1074 + (d : Int)))).toNat = 52 by omega, Nat.shiftLeft_zero, cut_52 s m h, dbl_binade, show (-1074 + (d : Int) - -1074).toNat = d by omega, Nat.min_eq_left hr]
theorem word_flip {x rung : Nat} (hx : x < 18446744073709551616) (h : rung = x % negZero) : double.word (true ^^ (x / negZero % 2 == 1)) rung = flip x := by
  unfold Format.word flip
  rw [dbl_sign]
  unfold negZero at *
  by_cases h1 : x < 9223372036854775808
  · have : x / 9223372036854775808 = 0 := by omega
    rw [this, if_pos h1]
    simp
    omega
  · have : x / 9223372036854775808 = 1 := by omega
    rw [this, if_neg h1]
    simp
    omega
theorem mul_neg {x : Nat} (hx : x < 18446744073709551616) (hn : fnan x = false) : double.mul negOne x = some (flip x) := by
  rw [fnan_eq] at hn
  unfold Format.mul
  rw [negOne_read]
  have key : ∃ dt, double.read x = dt ∧ dt = double.read x := ⟨_, rfl, rfl⟩
  revert hn
  unfold Format.read
  simp only [dbl_binade, dbl_inf, dbl_least, dbl_sign]
  intro hn
  have hw := word_flip hx (rfl : x % negZero = _)
  have hlt : x % negZero < negZero := Nat.mod_lt _ (by decide)
  generalize hs : (x / negZero % 2 == 1) = s at *
  generalize hr : x % negZero = rung at *
  by_cases h1 : rung < 2 ^ 52
  · rw [if_pos h1]
    simp only [Datum.product, Option.map_some, Format.write]
    by_cases h0 : rung = 0
    · subst h0
      rw [← hw]
      rfl
    · have hl : rung.log2 ≤ 52 := by
        have := (log2_bounds h0).1
        rcases Nat.lt_or_ge 52 rung.log2 with h | h
        · have := Nat.pow_le_pow_right (show 0 < 2 by omega) h
          omega
        · exact h
      have := nearest_back (true ^^ s) 0 rung h0 (.inl ⟨rfl, hl⟩) (by rw [dbl_inf]; omega)
      simp only [Nat.zero_mul, Nat.zero_add, Int.natCast_zero, Int.add_zero] at this
      rw [this, hw]
  · rw [if_neg h1] at hn ⊢
    by_cases h2 : rung < 2047 * 2 ^ 52
    · rw [if_pos h2]
      simp only [Datum.product, Option.map_some, Format.write]
      have hm : (2 ^ 52 + rung % 2 ^ 52).log2 = 52 := by
        rw [Nat.log2_eq_iff (by omega)]; omega
      have := nearest_back (true ^^ s) (rung / 2 ^ 52 - 1) (2 ^ 52 + rung % 2 ^ 52) (by omega) (.inr hm) (by rw [dbl_inf]; omega)
      rw [this, show (rung / 2 ^ 52 - 1) * 2 ^ 52 + (2 ^ 52 + rung % 2 ^ 52) = rung by omega, hw]
    · rw [if_neg h2] at hn ⊢
      by_cases h3 : rung = 2047 * 2 ^ 52
      · rw [if_pos h3]
        simp only [Datum.product]
        rw [if_neg (by decide)]
        simp only [Option.map_some, Format.write, dbl_inf]
        rw [← h3, Bool.xor_comm, hw]
      · rw [if_neg h3] at hn
        cases hn
theorem flip_lt {x : Nat} (hx : x < 18446744073709551616) : flip x < 18446744073709551616 := by unfold flip negZero; split <;> omega
theorem flip_mod {x : Nat} (hx : x < 18446744073709551616) : flip x % negZero = x % negZero := by unfold flip negZero; split <;> omega
theorem fnan_flip {x : Nat} (hx : x < 18446744073709551616) : fnan (flip x) = fnan x := by
  rw [fnan_eq, fnan_eq]
  unfold Format.read
  simp only [dbl_binade, dbl_inf, dbl_least, dbl_sign, flip_mod hx]
  split
  · rfl
  · split
    · rfl
    · split <;> rfl
end Go.Proofs.YtpmdgmnpkdoamabGreatDoor.Fl
