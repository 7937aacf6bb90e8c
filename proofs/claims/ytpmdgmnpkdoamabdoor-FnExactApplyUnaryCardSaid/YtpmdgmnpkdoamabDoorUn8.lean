/- Proved here: what impl.ApplyUnary answers at a valid cell of a served operation. Conditions: the words are of their kind; the table of dtypes holds what the program lays; what impl.unary answers. -/
import Derived.Test.YtpmdgmnpkdoamabDoorUn7
namespace Go.Proofs.YtpmdgmnpkdoamabDoor.Vc
open Go.RowKit Fl Prom
attribute [local go_sem] run_store_float'
set_option maxHeartbeats 4000000 in
theorem impl_au_good (op : Int) (n : Nat) (i : Int) (f g : Nat) (r1 : Int) (r2 r3 : Nat) (hf : f < 18446744073709551616) (hg : g < 18446744073709551616) (h : 1 ≤ op ∧ op ≤ 4) (hs : (isdt ((n : Int) + 1) && hasU op ((n : Int) + 1)) = true) (hv : vcell ((n : Int) + 1) i f g = true) (w : World) (hT : Table.Holds w)
    (hU : ∀ w, Table.Holds w → Calls Tryd.prog 84 #[.int .i64 op, .int .i64 ((n : Int) + 1), .agg #[.int .i64 i, .float .f64 f, .float .f64 g]] w fun e w' => e = .returned (.agg #[.int .i64 r1, .float .f64 r2, .float .f64 r3]) ∧ Below w.heap.size w w') :
    Calls Tryd.prog 28 #[.int .i64 op, .int .i64 ((n : Int) + 1), .agg #[.int .i64 i, .float .f64 f, .float .f64 g]] w (Ans 0 ((n : Int) + 1) r1 r2 r3 w) := by
  have h0 : 0 < w.heap.size := World.block_lt_of_cell? w _ (hT 0 0 (by omega) (by omega))
  have HT := Lib.hid hT
  clear hT
  have S := fun w (hT : Table.Holds w) => impl_serves op ((n : Int) + 1) w hT
  simp only [hs] at S
  have S := Lib.hid S
  have V := fun w (hT : Table.Holds w) => impl_vcell ((n : Int) + 1) i f g hf hg w hT
  simp only [hv] at V
  have V := Lib.hid V
  have U := Lib.hid hU
  clear hs hv hU
  obtain ⟨o1, o2⟩ := h
  have l1 : ¬ op < 1 := by omega
  have l2 : ¬ op > 4 := by omega
  go_enter Tryd.func28, Tryd.ntmps28
  go_wp2_with fail
  all_goals first
    | (exfalso; omega)
    | (refine (S.out _ (Table.holds_below HT.out (by repeat (first | exact Below.refl _ _ | apply below_drewN | apply Below.drew | (refine Below.setCell ?_ (by simp; try omega) _) | (refine Below.alloc ?_ (by simp; try omega) _))) h0)).mono ?_
       rintro e w' ⟨rfl, rfl⟩
       go_wp2_with fail
       refine (V.out _ (Table.holds_below HT.out (by repeat (first | exact Below.refl _ _ | apply below_drewN | apply Below.drew | (refine Below.setCell ?_ (by simp; try omega) _) | (refine Below.alloc ?_ (by simp; try omega) _))) h0)).mono ?_
       rintro e w1 ⟨rfl, hb1⟩
       have z1 : w.heap.size + 1 < w1.heap.size := by have := hb1.size; simp at this; omega
       have c0 : w1.cell? ⟨w.heap.size + 1, 0, none⟩ = some (.int .i64 0) := (hb1.cell (p := ⟨w.heap.size + 1, 0, none⟩) (by first | omega | simp)).trans (by simp)
       have d0 : w1.frozen? ⟨w.heap.size + 1, 0, none⟩ = false := (hb1.frozen (p := ⟨w.heap.size + 1, 0, none⟩) (by first | omega | simp)).trans (by simp)
       have c1 : w1.cell? ⟨w.heap.size + 1, 1, none⟩ = some (.int .i64 0) := (hb1.cell (p := ⟨w.heap.size + 1, 1, none⟩) (by first | omega | simp)).trans (by simp)
       have d1 : w1.frozen? ⟨w.heap.size + 1, 1, none⟩ = false := (hb1.frozen (p := ⟨w.heap.size + 1, 1, none⟩) (by first | omega | simp)).trans (by simp)
       have c2 : w1.cell? ⟨w.heap.size + 1, 2, none⟩ = some (.int .i64 0) := (hb1.cell (p := ⟨w.heap.size + 1, 2, none⟩) (by first | omega | simp)).trans (by simp)
       have d2 : w1.frozen? ⟨w.heap.size + 1, 2, none⟩ = false := (hb1.frozen (p := ⟨w.heap.size + 1, 2, none⟩) (by first | omega | simp)).trans (by simp)
       have c3 : w1.cell? ⟨w.heap.size + 1, 3, none⟩ = some (.float .f64 0) := (hb1.cell (p := ⟨w.heap.size + 1, 3, none⟩) (by first | omega | simp)).trans (by simp)
       have d3 : w1.frozen? ⟨w.heap.size + 1, 3, none⟩ = false := (hb1.frozen (p := ⟨w.heap.size + 1, 3, none⟩) (by first | omega | simp)).trans (by simp)
       have c4 : w1.cell? ⟨w.heap.size + 1, 4, none⟩ = some (.float .f64 0) := (hb1.cell (p := ⟨w.heap.size + 1, 4, none⟩) (by first | omega | simp)).trans (by simp)
       have d4 : w1.frozen? ⟨w.heap.size + 1, 4, none⟩ = false := (hb1.frozen (p := ⟨w.heap.size + 1, 4, none⟩) (by first | omega | simp)).trans (by simp)
       have p0 : w1.cell? ⟨w.heap.size, 0, none⟩ = some (.int .i64 i) := (hb1.cell (p := ⟨w.heap.size, 0, none⟩) (by first | omega | (simp; done) | (simp; omega))).trans (by simp)
       have p1 : w1.cell? ⟨w.heap.size, 1, none⟩ = some (.float .f64 f) := (hb1.cell (p := ⟨w.heap.size, 1, none⟩) (by first | omega | (simp; done) | (simp; omega))).trans (by simp)
       have p2 : w1.cell? ⟨w.heap.size, 2, none⟩ = some (.float .f64 g) := (hb1.cell (p := ⟨w.heap.size, 2, none⟩) (by first | omega | (simp; done) | (simp; omega))).trans (by simp)
       have B1 := Lib.hid ((((Below.refl w.heap.size w).alloc (Nat.le_refl _) _).alloc (by simp) _).trans (hb1.mono (by simp; try omega)))
       clear hb1
       go_wp2_with fail
       refine (U.out _ (Table.holds_below HT.out B1.out h0)).mono ?_
       rintro e w2 ⟨rfl, hb2⟩
       have z2 : w.heap.size + 1 < w2.heap.size := by have := hb2.size; omega
       have c0 : w2.cell? ⟨w.heap.size + 1, 0, none⟩ = some (.int .i64 0) := (hb2.cell (p := ⟨w.heap.size + 1, 0, none⟩) (by first | omega | simp)).trans c0
       have d0 : w2.frozen? ⟨w.heap.size + 1, 0, none⟩ = false := (hb2.frozen (p := ⟨w.heap.size + 1, 0, none⟩) (by first | omega | simp)).trans d0
       have c1 : w2.cell? ⟨w.heap.size + 1, 1, none⟩ = some (.int .i64 0) := (hb2.cell (p := ⟨w.heap.size + 1, 1, none⟩) (by first | omega | simp)).trans c1
       have d1 : w2.frozen? ⟨w.heap.size + 1, 1, none⟩ = false := (hb2.frozen (p := ⟨w.heap.size + 1, 1, none⟩) (by first | omega | simp)).trans d1
       have c2 : w2.cell? ⟨w.heap.size + 1, 2, none⟩ = some (.int .i64 0) := (hb2.cell (p := ⟨w.heap.size + 1, 2, none⟩) (by first | omega | simp)).trans c2
       have d2 : w2.frozen? ⟨w.heap.size + 1, 2, none⟩ = false := (hb2.frozen (p := ⟨w.heap.size + 1, 2, none⟩) (by first | omega | simp)).trans d2
       have c3 : w2.cell? ⟨w.heap.size + 1, 3, none⟩ = some (.float .f64 0) := (hb2.cell (p := ⟨w.heap.size + 1, 3, none⟩) (by first | omega | simp)).trans c3
       have d3 : w2.frozen? ⟨w.heap.size + 1, 3, none⟩ = false := (hb2.frozen (p := ⟨w.heap.size + 1, 3, none⟩) (by first | omega | simp)).trans d3
       have c4 : w2.cell? ⟨w.heap.size + 1, 4, none⟩ = some (.float .f64 0) := (hb2.cell (p := ⟨w.heap.size + 1, 4, none⟩) (by first | omega | simp)).trans c4
       have d4 : w2.frozen? ⟨w.heap.size + 1, 4, none⟩ = false := (hb2.frozen (p := ⟨w.heap.size + 1, 4, none⟩) (by first | omega | simp)).trans d4
       have B2 := Lib.hid (B1.out.trans (hb2.mono (by omega)))
       clear hb2
       go_wp2_with fail
       have s0 := World.cell?_setCell_same w2 ⟨w.heap.size + 1, 0, none⟩ (.int .i64 0) c0
       have s1 := World.cell?_setCell_same (w2.setCell ⟨w.heap.size + 1, 0, none⟩ (.int .i64 0)) ⟨w.heap.size + 1, 1, none⟩ (.int .i64 ((n : Int) + 1)) ((World.cell?_setCell_other _ _ _ _ (by simp)).trans c1)
       have s2 := World.cell?_setCell_same ((w2.setCell ⟨w.heap.size + 1, 0, none⟩ (.int .i64 0)).setCell ⟨w.heap.size + 1, 1, none⟩ (.int .i64 ((n : Int) + 1))) ⟨w.heap.size + 1, 2, none⟩ (.int .i64 r1) ((World.cell?_setCell_other _ _ _ _ (by simp)).trans ((World.cell?_setCell_other _ _ _ _ (by simp)).trans c2))
       have s3 := World.cell?_setCell_same (((w2.setCell ⟨w.heap.size + 1, 0, none⟩ (.int .i64 0)).setCell ⟨w.heap.size + 1, 1, none⟩ (.int .i64 ((n : Int) + 1))).setCell ⟨w.heap.size + 1, 2, none⟩ (.int .i64 r1)) ⟨w.heap.size + 1, 3, none⟩ (.float .f64 r2) ((World.cell?_setCell_other _ _ _ _ (by simp)).trans ((World.cell?_setCell_other _ _ _ _ (by simp)).trans ((World.cell?_setCell_other _ _ _ _ (by simp)).trans c3)))
       have s4 := World.cell?_setCell_same ((((w2.setCell ⟨w.heap.size + 1, 0, none⟩ (.int .i64 0)).setCell ⟨w.heap.size + 1, 1, none⟩ (.int .i64 ((n : Int) + 1))).setCell ⟨w.heap.size + 1, 2, none⟩ (.int .i64 r1)).setCell ⟨w.heap.size + 1, 3, none⟩ (.float .f64 r2)) ⟨w.heap.size + 1, 4, none⟩ (.float .f64 r3) ((World.cell?_setCell_other _ _ _ _ (by simp)).trans ((World.cell?_setCell_other _ _ _ _ (by simp)).trans ((World.cell?_setCell_other _ _ _ _ (by simp)).trans ((World.cell?_setCell_other _ _ _ _ (by simp)).trans c4))))
       refine bodyPost_ret (v := .agg #[.int .i64 0, .int .i64 ((n : Int) + 1), .int .i64 r1, .float .f64 r2, .float .f64 r3]) (by simp [results, go_sem, s0, s1, s2, s3, s4]) rfl ⟨rfl, ?_⟩
       repeat (first | exact B2.out | apply below_drewN | apply Below.drew | (refine Below.setCell ?_ (by simp; try omega) _)))
end Go.Proofs.YtpmdgmnpkdoamabDoor.Vc
