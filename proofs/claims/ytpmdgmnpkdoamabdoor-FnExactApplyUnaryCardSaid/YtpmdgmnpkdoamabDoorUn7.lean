/- Proved here: what impl.ApplyUnary answers. Conditions: the words are of their kind; the table of dtypes holds what the program lays. -/
import Derived.Test.YtpmdgmnpkdoamabDoorUn6
namespace Go.Proofs.YtpmdgmnpkdoamabDoor.Vc
open Go.RowKit Fl Prom
attribute [local go_sem] run_store_float'
def Ans (c d i : Int) (f g : Nat) (w : World) (e : Ending) (w' : World) : Prop := e = .returned (.agg #[.int .i64 c, .int .i64 d, .int .i64 i, .float .f64 f, .float .f64 g]) ∧ Below w.heap.size w w'
set_option maxHeartbeats 4000000 in
theorem impl_au_bad (op a i : Int) (f g : Nat) (h : op < 1 ∨ op > 4) (w : World) :
    Calls Tryd.prog 28 #[.int .i64 op, .int .i64 a, .agg #[.int .i64 i, .float .f64 f, .float .f64 g]] w (Ans 3 0 0 0 0 w) := by
  go_enter Tryd.func28, Tryd.ntmps28
  go_wp2_with fail
  all_goals first
    | (refine bodyPost_ret (v := .agg #[.int .i64 3, .int .i64 0, .int .i64 0, .float .f64 0, .float .f64 0]) (by simp [results, go_sem]) rfl ⟨rfl, ?_⟩
       repeat (first | exact Below.refl _ _ | apply below_drewN | apply Below.drew | (refine Below.setCell ?_ (by simp; try omega) _) | (refine Below.alloc ?_ (by simp; try omega) _)))
    | (exfalso; omega)
set_option maxHeartbeats 4000000 in
theorem impl_au_unserved (op a i : Int) (f g : Nat) (h : 1 ≤ op ∧ op ≤ 4) (hs : (isdt a && hasU op a) = false) (w : World) (hT : Table.Holds w) :
    Calls Tryd.prog 28 #[.int .i64 op, .int .i64 a, .agg #[.int .i64 i, .float .f64 f, .float .f64 g]] w (Ans 4 0 0 0 0 w) := by
  have h0 : 0 < w.heap.size := World.block_lt_of_cell? w _ (hT 0 0 (by omega) (by omega))
  have HT := Lib.hid hT
  clear hT
  have S := fun w (hT : Table.Holds w) => impl_serves op a w hT
  simp only [hs] at S
  have S := Lib.hid S
  clear hs
  obtain ⟨o1, o2⟩ := h
  have l1 : ¬ op < 1 := by omega
  have l2 : ¬ op > 4 := by omega
  go_enter Tryd.func28, Tryd.ntmps28
  go_wp2_with fail
  all_goals first
    | (exfalso; omega)
    | (refine (S.out _ (Table.holds_below HT.out (by repeat (first | exact Below.refl _ _ | apply below_drewN | apply Below.drew | (refine Below.setCell ?_ (by simp; try omega) _) | (refine Below.alloc ?_ (by simp; try omega) _))) h0)).mono ?_
       rintro e w' ⟨rfl, rfl⟩
       go_wp2_with fail
       refine bodyPost_ret (v := .agg #[.int .i64 4, .int .i64 0, .int .i64 0, .float .f64 0, .float .f64 0]) (by simp [results, go_sem]) rfl ⟨rfl, ?_⟩
       repeat (first | exact Below.refl _ _ | apply below_drewN | apply Below.drew | (refine Below.setCell ?_ (by simp; try omega) _) | (refine Below.alloc ?_ (by simp; try omega) _)))
set_option maxHeartbeats 4000000 in
theorem impl_au_invalid (op a i : Int) (f g : Nat) (hf : f < 18446744073709551616) (hg : g < 18446744073709551616) (h : 1 ≤ op ∧ op ≤ 4) (hs : (isdt a && hasU op a) = true) (hv : vcell a i f g = false) (w : World) (hT : Table.Holds w) :
    Calls Tryd.prog 28 #[.int .i64 op, .int .i64 a, .agg #[.int .i64 i, .float .f64 f, .float .f64 g]] w (Ans 14 0 0 0 0 w) := by
  have h0 : 0 < w.heap.size := World.block_lt_of_cell? w _ (hT 0 0 (by omega) (by omega))
  have HT := Lib.hid hT
  clear hT
  have S := fun w (hT : Table.Holds w) => impl_serves op a w hT
  simp only [hs] at S
  have S := Lib.hid S
  have V := fun w (hT : Table.Holds w) => impl_vcell a i f g hf hg w hT
  simp only [hv] at V
  have V := Lib.hid V
  clear hs hv
  obtain ⟨o1, o2⟩ := h
  have l1 : ¬ op < 1 := by omega
  have l2 : ¬ op > 4 := by omega
  go_enter Tryd.func28, Tryd.ntmps28
  go_wp2_with fail
  all_goals first
    | (exfalso; omega)
    | (refine (S.out _ (Table.holds_below HT.out (by repeat (first | exact Below.refl _ _ | apply below_drewN | apply Below.drew | (refine Below.setCell ?_ (by simp; try omega) _) | (refine Below.alloc ?_ (by simp; try omega) _))) h0)).mono ?_
       rintro e w' ⟨rfl, rfl⟩
       go_wp2_with fail
       refine (V.out _ (Table.holds_below HT.out (by repeat (first | exact Below.refl _ _ | apply below_drewN | apply Below.drew | (refine Below.setCell ?_ (by simp; try omega) _) | (refine Below.alloc ?_ (by simp; try omega) _))) h0)).mono ?_
       rintro e w1 ⟨rfl, hb1⟩
       have z1 : w.heap.size + 1 < w1.heap.size := by have := hb1.size; simp at this; omega
       have c0 : w1.cell? ⟨w.heap.size + 1, 0, none⟩ = some (.int .i64 0) := (hb1.cell (p := ⟨w.heap.size + 1, 0, none⟩) (by simp)).trans (by simp)
       have d0 : w1.frozen? ⟨w.heap.size + 1, 0, none⟩ = false := (hb1.frozen (p := ⟨w.heap.size + 1, 0, none⟩) (by simp)).trans (by simp)
       have c1 : w1.cell? ⟨w.heap.size + 1, 1, none⟩ = some (.int .i64 0) := (hb1.cell (p := ⟨w.heap.size + 1, 1, none⟩) (by simp)).trans (by simp)
       have d1 : w1.frozen? ⟨w.heap.size + 1, 1, none⟩ = false := (hb1.frozen (p := ⟨w.heap.size + 1, 1, none⟩) (by simp)).trans (by simp)
       have c2 : w1.cell? ⟨w.heap.size + 1, 2, none⟩ = some (.int .i64 0) := (hb1.cell (p := ⟨w.heap.size + 1, 2, none⟩) (by simp)).trans (by simp)
       have d2 : w1.frozen? ⟨w.heap.size + 1, 2, none⟩ = false := (hb1.frozen (p := ⟨w.heap.size + 1, 2, none⟩) (by simp)).trans (by simp)
       have c3 : w1.cell? ⟨w.heap.size + 1, 3, none⟩ = some (.float .f64 0) := (hb1.cell (p := ⟨w.heap.size + 1, 3, none⟩) (by simp)).trans (by simp)
       have d3 : w1.frozen? ⟨w.heap.size + 1, 3, none⟩ = false := (hb1.frozen (p := ⟨w.heap.size + 1, 3, none⟩) (by simp)).trans (by simp)
       have c4 : w1.cell? ⟨w.heap.size + 1, 4, none⟩ = some (.float .f64 0) := (hb1.cell (p := ⟨w.heap.size + 1, 4, none⟩) (by simp)).trans (by simp)
       have d4 : w1.frozen? ⟨w.heap.size + 1, 4, none⟩ = false := (hb1.frozen (p := ⟨w.heap.size + 1, 4, none⟩) (by simp)).trans (by simp)
       have B1 := Lib.hid ((((Below.refl w.heap.size w).alloc (Nat.le_refl _) _).alloc (by simp) _).trans (hb1.mono (by simp; try omega)))
       clear hb1
       go_wp2_with fail
       have s0 := World.cell?_setCell_same w1 ⟨w.heap.size + 1, 0, none⟩ (.int .i64 14) c0
       have s1 := World.cell?_setCell_same (w1.setCell ⟨w.heap.size + 1, 0, none⟩ (.int .i64 14)) ⟨w.heap.size + 1, 1, none⟩ (.int .i64 0) ((World.cell?_setCell_other _ _ _ _ (by simp)).trans c1)
       have s2 := World.cell?_setCell_same ((w1.setCell ⟨w.heap.size + 1, 0, none⟩ (.int .i64 14)).setCell ⟨w.heap.size + 1, 1, none⟩ (.int .i64 0)) ⟨w.heap.size + 1, 2, none⟩ (.int .i64 0) ((World.cell?_setCell_other _ _ _ _ (by simp)).trans ((World.cell?_setCell_other _ _ _ _ (by simp)).trans c2))
       have s3 := World.cell?_setCell_same (((w1.setCell ⟨w.heap.size + 1, 0, none⟩ (.int .i64 14)).setCell ⟨w.heap.size + 1, 1, none⟩ (.int .i64 0)).setCell ⟨w.heap.size + 1, 2, none⟩ (.int .i64 0)) ⟨w.heap.size + 1, 3, none⟩ (.float .f64 0) ((World.cell?_setCell_other _ _ _ _ (by simp)).trans ((World.cell?_setCell_other _ _ _ _ (by simp)).trans ((World.cell?_setCell_other _ _ _ _ (by simp)).trans c3)))
       have s4 := World.cell?_setCell_same ((((w1.setCell ⟨w.heap.size + 1, 0, none⟩ (.int .i64 14)).setCell ⟨w.heap.size + 1, 1, none⟩ (.int .i64 0)).setCell ⟨w.heap.size + 1, 2, none⟩ (.int .i64 0)).setCell ⟨w.heap.size + 1, 3, none⟩ (.float .f64 0)) ⟨w.heap.size + 1, 4, none⟩ (.float .f64 0) ((World.cell?_setCell_other _ _ _ _ (by simp)).trans ((World.cell?_setCell_other _ _ _ _ (by simp)).trans ((World.cell?_setCell_other _ _ _ _ (by simp)).trans ((World.cell?_setCell_other _ _ _ _ (by simp)).trans c4))))
       refine bodyPost_ret (v := .agg #[.int .i64 14, .int .i64 0, .int .i64 0, .float .f64 0, .float .f64 0]) (by simp [results, go_sem, s0, s1, s2, s3, s4]) rfl ⟨rfl, ?_⟩
       repeat (first | exact B1.out | apply below_drewN | apply Below.drew | (refine Below.setCell ?_ (by simp; try omega) _)))
end Go.Proofs.YtpmdgmnpkdoamabDoor.Vc
