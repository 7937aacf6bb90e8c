/- Proved here: at every whole number the law on RoundBytes answers true. Condition: it is of its kind. -/
import Derived.Test.YtcaimbfjfibmmaaPFnExactRoundBytesx1
namespace Go.Proofs.Ytcaimbfjfibmmaa.Pure
open Go.RowKit Go.Proofs.Ytcaimbfjfibmmaa.PFnExactRoundBytes Go.Proofs.YtcaimbfjfibmmaaW.PrintWords Go.Proofs.YtcaimbfjfibmmaaW.PrintLast

theorem rounds_same (k : Nat) : ∀ a x, spec_RoundBytes.l0 k a x = impl_RoundBytes.l0 k a x := by
  induction k with
  | zero => intro a x; simp [spec_RoundBytes.l0, impl_RoundBytes.l0]
  | succ k ih => intro a x; simp only [spec_RoundBytes.l0, impl_RoundBytes.l0, ih]

theorem steps_same (k : Nat) (a : Int) (b : Bool) : spec_RoundBytes.j0 k a b = impl_RoundBytes.j0 k a b := by
  cases k with
  | zero => simp [spec_RoundBytes.j0, impl_RoundBytes.j0]
  | succ k => simp only [spec_RoundBytes.j0, impl_RoundBytes.j0, rounds_same]

theorem rounds_end (d : Nat) : ∀ (a x : Int), 16 ≤ x → a ≤ x * 2 ^ d → a ≤ 65536 → ∃ r, spec_RoundBytes.l0 (d + 1) a x = some r := by
  induction d with
  | zero =>
    intro a x _ h _
    exact ⟨x, by simp only [spec_RoundBytes.l0]; rw [if_neg (by simpa using h)]⟩
  | succ d ih =>
    intro a x hx h ha
    simp only [spec_RoundBytes.l0]
    by_cases hlt : x < a
    · rw [if_pos hlt]
      have e : wrap64 (x * 2) = x * 2 := by unfold wrap64; omega
      rw [e]
      exact ih a (x * 2) (by omega) (by rw [Int.pow_succ] at h; rw [Int.mul_assoc, Int.mul_comm 2]; exact h) ha
    · exact ⟨x, by rw [if_neg hlt]⟩

/-- YOURS: ∀ (a0 : Int), (Lit.int .i64 a0).wf = true → ∃ k, laws_FnExactRoundBytes.f k a0 = some true
What it reaches (each with k first where it has rounds; `.mono`: more rounds tell the same; `.l0`, ..: its loops, with `.mono_l`): spec_RoundBytes.f, impl_RoundBytes.f, laws_FnExactRoundBytes.f -/
theorem FnExactRoundBytes : laws_FnExactRoundBytes.Pure := by
  intro a _
  have same : ∀ k, spec_RoundBytes.f k a = impl_RoundBytes.f k a := by
    intro k; unfold spec_RoundBytes.f impl_RoundBytes.f; simp only [steps_same]
  have some_ : ∃ r, spec_RoundBytes.f 14 a = some r := by
    unfold spec_RoundBytes.f
    by_cases h : a < 0
    · exact ⟨-1, by rw [if_pos h]; rfl⟩
    · rw [if_neg h]
      by_cases h2 : a > 65536
      · exact ⟨-1, by simp [h2, spec_RoundBytes.j0]⟩
      · obtain ⟨r, hr⟩ := rounds_end 12 a 16 (by omega) (by omega) (by omega)
        exact ⟨r, by simp only [spec_RoundBytes.j0, h2]; simpa using hr⟩
  obtain ⟨r, hr⟩ := some_
  refine ⟨14, ?_⟩
  unfold laws_FnExactRoundBytes.f
  rw [← same, hr]
  simp

end Go.Proofs.Ytcaimbfjfibmmaa.Pure
