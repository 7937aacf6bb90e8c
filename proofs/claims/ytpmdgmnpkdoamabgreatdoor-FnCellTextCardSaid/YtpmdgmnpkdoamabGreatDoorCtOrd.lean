/- Proved here: of two cells that are valid for a dtype exactly one is before the other, or they are the same. Conditions: both cells are valid. -/
import Derived.Test.YtpmdgmnpkdoamabGreatDoorCtBef
namespace Go.Proofs.YtpmdgmnpkdoamabGreatDoor.Vc
open Go Fl Prom
open Ieee
theorem order_swap (x y : Nat) : double.order y x = (double.order x y).map Ordering.swap := by
  rcases read_double x with h1 | ⟨s, h1⟩ | ⟨s, m, e, h1, he, _⟩
  · rw [order_nan_left h1, order_nan_right h1]; rfl
  · rcases read_double y with h2 | ⟨t, h2⟩ | ⟨t, n, j, h2, hj, _⟩
    · rw [order_nan_left h2, order_nan_right h2]; rfl
    · unfold Format.order; rw [h1, h2]; cases s <;> cases t <;> rfl
    · unfold Format.order; rw [h1, h2]; cases s <;> rfl
  · rcases read_double y with h2 | ⟨t, h2⟩ | ⟨t, n, j, h2, hj, _⟩
    · rw [order_nan_left h2, order_nan_right h2]; rfl
    · unfold Format.order; rw [h1, h2]; cases t <;> rfl
    · unfold Format.order
      rw [h1, h2, order_num _ _ _ _ _ _ (by omega) (by omega), order_num _ _ _ _ _ _ (by omega) (by omega)]
      generalize V s m e = a
      generalize V t n j = b
      rcases Int.lt_trichotomy a b with h | h | h
      · have n1 : ¬ b < a := by omega
        have n2 : ¬ b = a := by omega
        simp [compare, compareOfLessAndEq, h, n1, n2]
      · subst h; simp [compare, compareOfLessAndEq]
      · have n1 : ¬ a < b := by omega
        have n2 : ¬ a = b := by omega
        simp [compare, compareOfLessAndEq, h, n1, n2]
theorem order_some {x y : Nat} (hx : fnan x = false) (hy : fnan y = false) : ∃ o, double.order x y = some o := by
  rw [fnan_eq] at hx hy
  rcases read_double x with h1 | ⟨s, h1⟩ | ⟨s, m, e, h1, he, _⟩
  · rw [h1] at hx; cases hx
  · rcases read_double y with h2 | ⟨t, h2⟩ | ⟨t, n, j, h2, hj, _⟩
    · rw [h2] at hy; cases hy
    · unfold Format.order; rw [h1, h2]; cases s <;> cases t <;> exact ⟨_, rfl⟩
    · unfold Format.order; rw [h1, h2]; cases s <;> exact ⟨_, rfl⟩
  · rcases read_double y with h2 | ⟨t, h2⟩ | ⟨t, n, j, h2, hj, _⟩
    · rw [h2] at hy; cases hy
    · unfold Format.order; rw [h1, h2]; cases t <;> exact ⟨_, rfl⟩
    · unfold Format.order; rw [h1, h2, order_num _ _ _ _ _ _ (by omega) (by omega)]; exact ⟨_, rfl⟩
/-- exactly one of: before, behind, the same. -/
def One (a b c : Bool) : Prop := (a = true ∧ b = false ∧ c = false) ∨ (a = false ∧ b = true ∧ c = false) ∨ (a = false ∧ b = false ∧ c = true)
theorem tri (a b : Nat) : One (fbef a b) (fbef b a) (sameF a b) := by
  unfold fbef sameF One
  cases hna : fnan a <;> cases hnb : fnan b
  · obtain ⟨o, ho⟩ := order_some hna hnb
    have hs := order_swap a b
    rw [ho] at hs
    unfold flt feq
    rw [ho, hs]
    cases o <;> cases minus a <;> cases minus b <;> simp
  · simp
  · simp
  · simp
/-- The same cell. -/
def scell (i : Int) (f g : Nat) (i' : Int) (f' g' : Nat) : Bool := decide (i = i') && sameF f f' && sameF g g'
theorem tri_cell {a i : Int} {f g : Nat} {i' : Int} {f' g' : Nat} (h : vcell a i f g = true) (h' : vcell a i' f' g' = true) :
    One (bef a i f g i' f' g') (bef a i' f' g' i f g) (scell i f g i' f' g') := by
  have ha : isdt a = true := by
    cases ha : isdt a
    · rw [vcell_no ha] at h; cases h
    · rfl
  unfold bef scell
  by_cases hk : kindI a < 2
  · rw [vcell_int ha hk] at h h'
    simp only [Bool.and_eq_true, decide_eq_true_eq] at h h'
    obtain ⟨⟨⟨_, _⟩, rfl⟩, rfl⟩ := h
    obtain ⟨⟨⟨_, _⟩, rfl⟩, rfl⟩ := h'
    rw [if_pos hk, if_pos hk, show sameF 0 0 = true by decide]
    unfold One
    rcases Int.lt_trichotomy i i' with h | h | h
    · left; refine ⟨decide_eq_true h, decide_eq_false (by omega), ?_⟩
      rw [decide_eq_false (by omega)]; rfl
    · right; right; refine ⟨decide_eq_false (by omega), decide_eq_false (by omega), ?_⟩
      rw [decide_eq_true h]; rfl
    · right; left; refine ⟨decide_eq_false (by omega), decide_eq_true h, ?_⟩
      rw [decide_eq_false (by omega)]; rfl
  · rw [if_neg hk, if_neg hk]
    by_cases h2 : kindI a = 2
    · rw [vcell_float ha hk h2] at h h'
      simp only [Bool.and_eq_true, decide_eq_true_eq] at h h'
      obtain ⟨⟨rfl, rfl⟩, _⟩ := h
      obtain ⟨⟨rfl, rfl⟩, _⟩ := h'
      rw [show sameF 0 0 = true by decide, decide_eq_false (show ¬ kindI a = 3 by omega)]
      simpa using tri f f'
    · have h3 : kindI a = 3 := by have := (show 0 ≤ kindI a ∧ kindI a ≤ 3 by unfold kindI; grind); omega
      rw [vcell_cplx ha hk h2] at h h'
      have h := of_decide_eq_true h
      have h' := of_decide_eq_true h'
      subst h h'
      rw [decide_eq_true h3]
      have t1 := tri f f'
      have t2 := tri g g'
      unfold One at *
      rcases t1 with ⟨a1, a2, a3⟩ | ⟨a1, a2, a3⟩ | ⟨a1, a2, a3⟩ <;> rw [a1, a2, a3] <;> simp
      simpa using t2
end Go.Proofs.YtpmdgmnpkdoamabGreatDoor.Vc
