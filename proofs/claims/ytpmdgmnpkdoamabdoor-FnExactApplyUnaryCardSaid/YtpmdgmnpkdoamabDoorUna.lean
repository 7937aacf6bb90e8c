/- Proved here: what spec.ApplyUnary answers where it refuses. Conditions: the words are of their kind. -/
import Derived.Test.YtpmdgmnpkdoamabDoorUn9
namespace Go.Proofs.YtpmdgmnpkdoamabDoor.Vc
open Go.RowKit Fl Prom
attribute [local go_sem] run_store_float'
set_option maxHeartbeats 4000000 in
theorem spec_au_bad (op a i : Int) (f g : Nat) (h : op < 1 ∨ op > 4) (w : World) :
    Calls Tryd.prog 27 #[.int .i64 op, .int .i64 a, .agg #[.int .i64 i, .float .f64 f, .float .f64 g]] w (Ans 3 0 0 0 0 w) := by
  go_enter Tryd.func27, Tryd.ntmps27
  go_wp2_with fail
  all_goals first
    | (refine bodyPost_ret (v := .agg #[.int .i64 3, .int .i64 0, .int .i64 0, .float .f64 0, .float .f64 0]) (by simp [results, go_sem]) rfl ⟨rfl, ?_⟩
       repeat (first | exact Below.refl _ _ | apply below_drewN | apply Below.drew | (refine Below.setCell ?_ (by simp; try omega) _) | (refine Below.alloc ?_ (by simp; try omega) _)))
    | (exfalso; omega)
set_option maxHeartbeats 4000000 in
theorem spec_au_unserved (op a i : Int) (f g : Nat) (h : 1 ≤ op ∧ op ≤ 4) (hs : (isdt a && hasU op a) = false) (w : World) :
    Calls Tryd.prog 27 #[.int .i64 op, .int .i64 a, .agg #[.int .i64 i, .float .f64 f, .float .f64 g]] w (Ans 4 0 0 0 0 w) := by
  have I := fun w => spec_isd a w
  have S := fun w => spec_hasU op a w
  obtain ⟨o1, o2⟩ := h
  have l1 : ¬ op < 1 := by omega
  have l2 : ¬ op > 4 := by omega
  cases h1 : isdt a
  · simp only [h1] at I
    have I := Lib.hid I
    have S := Lib.hid S
    clear hs h1
    go_enter Tryd.func27, Tryd.ntmps27
    go_wp2_with fail
    all_goals first
      | (exfalso; omega)
      | (refine (I.out _).mono ?_
         rintro e w' ⟨rfl, rfl⟩
         go_wp2_with fail
         refine bodyPost_ret (v := .agg #[.int .i64 4, .int .i64 0, .int .i64 0, .float .f64 0, .float .f64 0]) (by simp [results, go_sem]) rfl ⟨rfl, ?_⟩
         repeat (first | exact Below.refl _ _ | apply below_drewN | apply Below.drew | (refine Below.setCell ?_ (by simp; try omega) _) | (refine Below.alloc ?_ (by simp; try omega) _)))
  · have h2 : hasU op a = false := by rw [h1] at hs; simpa using hs
    simp only [h1] at I
    simp only [h2] at S
    have I := Lib.hid I
    have S := Lib.hid S
    clear hs h1 h2
    go_enter Tryd.func27, Tryd.ntmps27
    go_wp2_with fail
    all_goals first
      | (exfalso; omega)
      | (refine (I.out _).mono ?_
         rintro e w' ⟨rfl, rfl⟩
         go_wp2_with fail
         refine (S.out _).mono ?_
         rintro e w' ⟨rfl, rfl⟩
         go_wp2_with fail
         refine bodyPost_ret (v := .agg #[.int .i64 4, .int .i64 0, .int .i64 0, .float .f64 0, .float .f64 0]) (by simp [results, go_sem]) rfl ⟨rfl, ?_⟩
         repeat (first | exact Below.refl _ _ | apply below_drewN | apply Below.drew | (refine Below.setCell ?_ (by simp; try omega) _) | (refine Below.alloc ?_ (by simp; try omega) _)))
end Go.Proofs.YtpmdgmnpkdoamabDoor.Vc
