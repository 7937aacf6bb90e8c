/- Proved here: what the law's own comparison of cells answers. Conditions: the words are of their kind. -/
import Derived.Test.YtpmdgmnpkdoamabGreatDoorCtOrd
import Derived.Test.YtpmdgmnpkdoamabGreatDoorCtUn1
namespace Go.Proofs.YtpmdgmnpkdoamabGreatDoor.Vc
open Go.RowKit Fl Prom
open Ieee (single double)
theorem lw_float_nz (a b : Nat) (ha : a < 18446744073709551616) (hb : b < 18446744073709551616) (h : feq a 0 = false) (w : World) : Calls Tryz.prog 78 #[.float .f64 a, .float .f64 b] w fun e w' => e = .returned (.bool (sameF a b)) ∧ w = w' := by
  obtain ⟨p, hp⟩ : ∃ p, sameF a b = p := ⟨_, rfl⟩
  rw [hp]
  have P := Lib.hid hp
  clear hp
  have HZ := Lib.hid h
  have hz2 : (FloatKind.f64.format.order a 0 != some Ordering.eq) = true := by
    have : (FloatKind.f64.format.order a 0 == some Ordering.eq) = false := h
    rw [bne, this]; rfl
  clear h
  go_enter Tryz.func78, Tryz.ntmps78
  go_wp2
  all_goals go_ret
  all_goals refine ⟨ret_bool ?_, rfl⟩
  all_goals rw [← P.out]
  all_goals first
    | (rw [same_nan_r (show fnan b = true by assumption), nn_of (by assumption)]; done)
    | (rw [same_nan_l (nan_of_not (by assumption)), show (FloatKind.f64.format.order a a != some Ordering.eq) = true from nan_of_not (by assumption)]; rfl)
    | (rw [same_nz ha hb (.inl HZ.out) (nn_of (by assumption)) (show fnan b = false by assumption), feq_of_not (by assumption)]; done)
    | (rw [same_nz ha hb (.inl HZ.out) (nn_of (by assumption)) (show fnan b = false by assumption), feq_of (by assumption)]; done)
    | trace_state
theorem lw_float_zn (a b : Nat) (ha : a < 18446744073709551616) (hb : b < 18446744073709551616) (h : feq a 0 = true) (h2 : feq b 0 = false) (w : World) : Calls Tryz.prog 78 #[.float .f64 a, .float .f64 b] w fun e w' => e = .returned (.bool (sameF a b)) ∧ w = w' := by
  have haz : a = 0 ∨ a = negZero := by rw [feq_zero ha] at h; exact of_decide_eq_true h
  have hab : feq a b = false := by
    cases he : feq a b
    · rfl
    · rw [feq_comm] at he
      have := zero_of_feq hb haz he
      rw [feq_zero hb, decide_eq_true this] at h2
      cases h2
  have hab' : ¬ FloatKind.f64.format.order a b = some Ordering.eq := by
    intro he
    rw [feq_of he] at hab
    cases hab
  have hs : sameF a b = false := by
    unfold sameF
    rw [hab]
    have : fnan a = false := by rcases haz with rfl | rfl <;> decide
    rw [this]
    cases fnan b <;> rfl
  have oa : (FloatKind.f64.format.order a a != some Ordering.eq) = false := by rcases haz with rfl | rfl <;> decide
  rw [hs]
  clear haz hab hs h h2
  go_enter Tryz.func78, Tryz.ntmps78
  go_wp2
  all_goals go_ret
  all_goals refine ⟨ret_bool ?_, rfl⟩
  all_goals first | rfl | (rw [oa]; rfl) | trace_state
theorem lw_float_zz (a b : Nat) (ha : a = 0 ∨ a = negZero) (hb : b = 0 ∨ b = negZero) (w : World) : Calls Tryz.prog 78 #[.float .f64 a, .float .f64 b] w fun e w' => e = .returned (.bool (sameF a b)) ∧ w = w' := by
  have hd0 : ∀ w, (binOp .quo 53 (.float .f64 4607182418800017408) (.float .f64 0)).run Tryz.prog w = .ok (.float .f64 9218868437227405312) w := fun w => run_float_arith w _ _ _ _ _ _ (by decide)
  have hd1 : ∀ w, (binOp .quo 53 (.float .f64 4607182418800017408) (.float .f64 negZero)).run Tryz.prog w = .ok (.float .f64 18442240474082181120) w := fun w => run_float_arith w _ _ _ _ _ _ (by decide)
  have o1 : (FloatKind.f64.format.order 0 0 != some Ordering.eq) = false := by decide
  have o2 : (FloatKind.f64.format.order negZero 0 != some Ordering.eq) = false := by decide
  have o4 : (FloatKind.f64.format.order negZero negZero != some Ordering.eq) = false := by decide
  have o5 : FloatKind.f64.format.order negZero negZero = some Ordering.eq := by decide
  have o6 : FloatKind.f64.format.order 0 0 = some Ordering.eq := by decide
  have o7 : FloatKind.f64.format.order 0 negZero = some Ordering.eq := by decide
  have o8 : FloatKind.f64.format.order negZero 0 = some Ordering.eq := by decide
  rcases ha with rfl | rfl <;> rcases hb with rfl | rfl
  all_goals
    go_enter Tryz.func78, Tryz.ntmps78
    go_wp2
    all_goals go_ret
    all_goals exact ⟨ret_bool (by decide), rfl⟩
theorem lw_float (a b : Nat) (ha : a < 18446744073709551616) (hb : b < 18446744073709551616) (w : World) : Calls Tryz.prog 78 #[.float .f64 a, .float .f64 b] w fun e w' => e = .returned (.bool (sameF a b)) ∧ w = w' := by
  cases h1 : feq a 0
  · exact lw_float_nz a b ha hb h1 w
  · cases h2 : feq b 0
    · exact lw_float_zn a b ha hb h1 h2 w
    · rw [feq_zero ha] at h1
      rw [feq_zero hb] at h2
      exact lw_float_zz a b (of_decide_eq_true h1) (of_decide_eq_true h2) w
theorem lw_cell (i : Int) (f g : Nat) (i' : Int) (f' g' : Nat) (hf : f < 18446744073709551616) (hg : g < 18446744073709551616) (hf' : f' < 18446744073709551616) (hg' : g' < 18446744073709551616) (w : World) :
    Calls Tryz.prog 26 #[.agg #[.int .i64 i, .float .f64 f, .float .f64 g], .agg #[.int .i64 i', .float .f64 f', .float .f64 g']] w fun e w' => e = .returned (.bool (scell i f g i' f' g')) ∧ Below w.heap.size w w' := by
  have S1 := fun w => lw_float f f' hf hf' w
  have S2 := fun w => lw_float g g' hg hg' w
  unfold scell
  have D := Lib.hid (show decide (i = i') = (i == i') by by_cases h : i = i' <;> simp [h])
  rw [D.out]
  clear hf hg hf' hg'
  cases c0 : (i == i') <;> cases c1 : sameF f f' <;> cases c2 : sameF g g'
  all_goals
    simp only [c1, c2] at S1 S2
    clear c1 c2
    go_enter Tryz.func26, Tryz.ntmps26
    go_wp2_with (first | (go_at_call_of 78 (#[Value.float FloatKind.f64 f, Value.float FloatKind.f64 f']); refine (S1 _).mono ?_; rintro e w' ⟨rfl, rfl⟩) | (go_at_call_of 78 (#[Value.float FloatKind.f64 g, Value.float FloatKind.f64 g']); refine (S2 _).mono ?_; rintro e w' ⟨rfl, rfl⟩))
    all_goals go_ret
    all_goals refine ⟨ret_bool (by rfl), ?_⟩
    all_goals repeat (first | exact Below.refl _ _ | apply below_drewN | apply Below.drew | (refine Below.setCell ?_ (by simp; try omega) _) | (refine Below.alloc ?_ (by simp; try omega) _))
end Go.Proofs.YtpmdgmnpkdoamabGreatDoor.Vc
