/- Proved here: what spec.Before and impl.Before answer, where the table of dtypes holds what the program lays in it. Conditions: the words are of their kind. -/
import Derived.Test.YtpmdgmnpkdoamabGreatDoorCtVcSpec
namespace Go.Proofs.YtpmdgmnpkdoamabGreatDoor.Vc
open Go.RowKit Fl Prom
open Ieee (single double)
def flt (x y : Nat) : Bool := double.order x y == some .lt
def fbef (a b : Nat) : Bool := if fnan a then false else if fnan b then true else flt a b || (feq a b && minus a && !minus b)
theorem minus_big {x : Nat} (h : x = 0 ∨ x = negZero) : minus x = decide (9223372036854775808 ≤ x) := by rcases h with rfl | rfl <;> decide
theorem zeros_eq {a b : Nat} (ha : a = 0 ∨ a = negZero) (hb : b = 0 ∨ b = negZero) : double.order a b = some .eq := by
  rcases ha with rfl | rfl <;> rcases hb with rfl | rfl <;> decide
theorem feq_of {a b : Nat} (h : FloatKind.f64.format.order a b = some Ordering.eq) : feq a b = true := by
  show (FloatKind.f64.format.order a b == some Ordering.eq) = true
  rw [h]; rfl
theorem feq_of_not {a b : Nat} (h : ¬ FloatKind.f64.format.order a b = some Ordering.eq) : feq a b = false := by
  show (FloatKind.f64.format.order a b == some Ordering.eq) = false
  simpa using h
theorem leaf_a {a b : Nat} (h : (FloatKind.f64.format.order a a != some Ordering.eq) = true) : fbef a b = false := by
  unfold fbef; rw [show fnan a = true from h]; rfl
theorem leaf_b {a b : Nat} (h : (FloatKind.f64.format.order a a != some Ordering.eq) = false) (h2 : (FloatKind.f64.format.order b b != some Ordering.eq) = true) : fbef a b = true := by
  unfold fbef; rw [show fnan a = false from h, show fnan b = true from h2]; rfl
theorem leaf_z {a b : Nat} (ha : a < 18446744073709551616) (hb : b < 18446744073709551616) (h : (FloatKind.f64.format.order a a != some Ordering.eq) = false) (h2 : (FloatKind.f64.format.order b b != some Ordering.eq) = false)
    (h3 : feq a 0 = true) (h4 : feq b 0 = true) : fbef a b = (decide (9223372036854775808 ≤ a) && !decide (9223372036854775808 ≤ b)) := by
  rw [feq_zero ha] at h3
  rw [feq_zero hb] at h4
  have h3 := of_decide_eq_true h3
  have h4 := of_decide_eq_true h4
  unfold fbef flt feq
  rw [show fnan a = false from h, show fnan b = false from h2, zeros_eq h3 h4, minus_big h3, minus_big h4]
  rfl
theorem leaf_n {a b : Nat} (ha : a < 18446744073709551616) (hb : b < 18446744073709551616) (h : (FloatKind.f64.format.order a a != some Ordering.eq) = false) (h2 : (FloatKind.f64.format.order b b != some Ordering.eq) = false)
    (h3 : feq a 0 = false ∨ feq b 0 = false) : fbef a b = (FloatKind.f64.format.order a b == some Ordering.lt) := by
  unfold fbef
  rw [show fnan a = false from h, show fnan b = false from h2]
  have key : (feq a b && minus a && !minus b) = false := by
    cases hm : minus a
    · simp
    · have hz : a = negZero := of_decide_eq_true hm
      cases he : feq a b
      · simp
      · exfalso
        subst hz
        rw [feq_comm] at he
        have hbz := zero_of_feq hb (.inr rfl) he
        rw [feq_zero ha, feq_zero hb, decide_eq_true hbz, decide_eq_true (p := negZero = 0 ∨ negZero = negZero) (.inr rfl)] at h3
        simp at h3
  rw [key, Bool.or_false]
  rfl
theorem impl_fbef (a b : Nat) (ha : a < 18446744073709551616) (hb : b < 18446744073709551616) (w : World) :
    Calls Tryz.prog 157 #[.float .f64 a, .float .f64 b] w fun e w' => e = .returned (.bool (fbef a b)) ∧ w = w' := by
  obtain ⟨p, hp⟩ : ∃ p, fbef a b = p := ⟨_, rfl⟩
  rw [hp]
  have P := Lib.hid hp
  clear hp
  go_enter Tryz.func157, Tryz.ntmps157
  go_wp2_with (first | (go_at_call_of 122 a; refine (signbit_any _ ha _).mono ?_; rintro e w' ⟨rfl, rfl⟩) | (go_at_call_of 122 b; refine (signbit_any _ hb _).mono ?_; rintro e w' ⟨rfl, rfl⟩))
  all_goals go_ret
  all_goals refine ⟨ret_bool ?_, rfl⟩
  all_goals rw [← P.out]
  all_goals first
    | exact (leaf_a (by assumption)).symm
    | exact (leaf_b (by assumption) (by assumption)).symm
    | (rw [leaf_z ha hb (by assumption) (by assumption) (feq_of (by assumption)) (by assumption), decide_eq_true (p := 9223372036854775808 ≤ a) (by assumption)]; rfl)
    | (rw [leaf_z ha hb (by assumption) (by assumption) (feq_of (by assumption)) (by assumption), decide_eq_false (p := 9223372036854775808 ≤ a) (by assumption)]; rfl)
    | exact (leaf_n ha hb (by assumption) (by assumption) (.inr (by assumption))).symm
    | exact (leaf_n ha hb (by assumption) (by assumption) (.inl (feq_of_not (by assumption)))).symm
theorem spec_fbef (a b : Nat) (ha : a < 18446744073709551616) (hb : b < 18446744073709551616) (w : World) :
    Calls Tryz.prog 156 #[.float .f64 a, .float .f64 b] w fun e w' => e = .returned (.bool (fbef a b)) ∧ w = w' := by
  obtain ⟨p, hp⟩ : ∃ p, fbef a b = p := ⟨_, rfl⟩
  rw [hp]
  have P := Lib.hid hp
  clear hp
  cases hna : fnan a <;> cases hnb : fnan b
  all_goals
    have N := Lib.hid (And.intro hna hnb)
    go_enter Tryz.func156, Tryz.ntmps156
    go_wp2_with (first | (go_at_call_of 89 a; refine (spec_nan a _).mono ?_; rintro e w' ⟨rfl, rfl⟩) | (go_at_call_of 89 b; refine (spec_nan b _).mono ?_; rintro e w' ⟨rfl, rfl⟩) | (go_at_call 127; refine (spec_minus _ (by assumption) _).mono ?_; rintro e w' ⟨rfl, rfl⟩))
    all_goals go_ret
    all_goals refine ⟨ret_bool ?_, rfl⟩
    all_goals rw [← P.out]
    all_goals unfold fbef
    all_goals rw [N.out.1, N.out.2]
    all_goals clear P N
    all_goals try rfl
    all_goals first
      | (rw [show flt a b = true by assumption]; rfl)
      | (rw [show flt a b = false by assumption, feq_of_not (by assumption)]; rfl)
      | (rw [show flt a b = false by assumption, feq_of (by assumption), show minus a = true by assumption]; simp)
      | (rw [show flt a b = false by assumption, feq_of (by assumption), show minus a = false by (rename_i h; exact Bool.eq_false_iff.2 h)]; simp)
      | (rw [show flt a b = false by assumption, feq_of (by assumption)]; simp_all)
def bef (a i : Int) (f g : Nat) (i' : Int) (f' g' : Nat) : Bool := if kindI a < 2 then decide (i < i') else fbef f f' || (!fbef f' f && decide (kindI a = 3) && fbef g g')
end Go.Proofs.YtpmdgmnpkdoamabGreatDoor.Vc
