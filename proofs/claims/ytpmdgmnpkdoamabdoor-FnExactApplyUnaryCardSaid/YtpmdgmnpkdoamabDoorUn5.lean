/- Proved here: what impl.unary answers at the operations 2, 3 and 4. Conditions: the words are of their kind; the table of dtypes holds what the program lays. -/
import Derived.Test.YtpmdgmnpkdoamabDoorUn4
namespace Go.Proofs.YtpmdgmnpkdoamabDoor.Vc
open Go.RowKit Fl Prom
open Ieee (single double)
attribute [local go_sem] run_store_float'
set_option maxHeartbeats 4000000 in
theorem impl_unary4 (n : Nat) (hn : n < 9) (i : Int) (f g : Nat) (hf : f < 18446744073709551616) (hg : g < 18446744073709551616) (w : World) (hT : Table.Holds w) :
    Calls Tryd.prog 84 #[.int .i64 4, .int .i64 ((n : Int) + 1), .agg #[.int .i64 i, .float .f64 f, .float .f64 g]] w (UnP 4 (kindI ((n : Int) + 1)) ((n : Int) + 1) i f g w) := by
  obtain ⟨r0, r1, r2, r3, r4⟩ := row_of hT n hn
  clear hT
  have hz : 0 < w.heap.size := World.block_lt_of_cell? w _ r0
  have hz1 : ¬ 0 = w.heap.size := by omega
  have hz2 : ¬ 0 = w.heap.size + 1 := by omega
  have hns : ((n : Int) + 1).toNat = n + 1 := by omega
  have hlt : (n : Int) + 1 < 10 := by omega
  have nf := neg_float f hf
  have ng := neg_float g hg
  go_enter Tryd.func84, Tryd.ntmps84
  go_wp2_with (first | (go_at_call 91; refine (impl_cut _ _ _).mono ?_; rintro e w' ⟨rfl, rfl⟩))
  · refine bodyPost_ret (v := .agg #[.int .i64 (i), .float .f64 (f), .float .f64 (Fl.flip g)]) (by simp [results, go_sem]) rfl ⟨?_, ?_⟩
    · show _ = _; rw [show unI 4 (kindI ((n : Int) + 1)) ((n : Int) + 1) i f g = (i, f, Fl.flip g) by unfold unI; rw [if_neg (by decide), if_neg (by decide), if_neg (by decide), if_pos (by simpa using (show (kindI ((n : Int) + 1) == 3) = true by assumption))]]
    · repeat (first | exact Below.refl _ _ | apply below_drewN | apply Below.drew | (refine Below.setCell ?_ (by simp; try omega) _) | (refine Below.alloc ?_ (by simp; try omega) _))
  · refine bodyPost_ret (v := .agg #[.int .i64 (i), .float .f64 (f), .float .f64 (g)]) (by simp [results, go_sem]) rfl ⟨?_, ?_⟩
    · show _ = _; rw [show unI 4 (kindI ((n : Int) + 1)) ((n : Int) + 1) i f g = (i, f, g) by unfold unI; rw [if_neg (by decide), if_neg (by decide), if_neg (by decide), if_neg (by simpa using (show (kindI ((n : Int) + 1) == 3) = false by assumption))]]
    · repeat (first | exact Below.refl _ _ | apply below_drewN | apply Below.drew | (refine Below.setCell ?_ (by simp; try omega) _) | (refine Below.alloc ?_ (by simp; try omega) _))
set_option maxHeartbeats 4000000 in
theorem impl_unary2 (n : Nat) (hn : n < 9) (i : Int) (f g : Nat) (hf : f < 18446744073709551616) (hg : g < 18446744073709551616) (w : World) (hT : Table.Holds w) :
    Calls Tryd.prog 84 #[.int .i64 2, .int .i64 ((n : Int) + 1), .agg #[.int .i64 i, .float .f64 f, .float .f64 g]] w (UnP 2 (kindI ((n : Int) + 1)) ((n : Int) + 1) i f g w) := by
  obtain ⟨r0, r1, r2, r3, r4⟩ := row_of hT n hn
  clear hT
  have hz : 0 < w.heap.size := World.block_lt_of_cell? w _ r0
  have hz1 : ¬ 0 = w.heap.size := by omega
  have hz2 : ¬ 0 = w.heap.size + 1 := by omega
  have hns : ((n : Int) + 1).toNat = n + 1 := by omega
  have hlt : (n : Int) + 1 < 10 := by omega
  have nf := neg_float f hf
  have ng := neg_float g hg
  go_enter Tryd.func84, Tryd.ntmps84
  go_wp2_with (first | (go_at_call 91; refine (impl_cut _ _ _).mono ?_; rintro e w' ⟨rfl, rfl⟩))
  · refine (int_cell _ _).mono ?_
    rintro e w1 ⟨rfl, hb1⟩
    have z1 : w.heap.size + 1 < w1.heap.size := by have := hb1.size; simp at this; omega
    have c0 : w1.cell? ⟨w.heap.size + 1, 0, none⟩ = some (.int .i64 0) := (hb1.cell (p := ⟨w.heap.size + 1, 0, none⟩) (by simp)).trans (by simp)
    have d0 : w1.frozen? ⟨w.heap.size + 1, 0, none⟩ = false := (hb1.frozen (p := ⟨w.heap.size + 1, 0, none⟩) (by simp)).trans (by simp)
    have c1 : w1.cell? ⟨w.heap.size + 1, 1, none⟩ = some (.float .f64 0) := (hb1.cell (p := ⟨w.heap.size + 1, 1, none⟩) (by simp)).trans (by simp)
    have d1 : w1.frozen? ⟨w.heap.size + 1, 1, none⟩ = false := (hb1.frozen (p := ⟨w.heap.size + 1, 1, none⟩) (by simp)).trans (by simp)
    have c2 : w1.cell? ⟨w.heap.size + 1, 2, none⟩ = some (.float .f64 0) := (hb1.cell (p := ⟨w.heap.size + 1, 2, none⟩) (by simp)).trans (by simp)
    have d2 : w1.frozen? ⟨w.heap.size + 1, 2, none⟩ = false := (hb1.frozen (p := ⟨w.heap.size + 1, 2, none⟩) (by simp)).trans (by simp)
    have B1 := Lib.hid ((((Below.refl w.heap.size w).alloc (Nat.le_refl _) _).alloc (by simp) _).trans (hb1.mono (by simp; try omega)))
    clear hb1
    go_wp2_with fail
    have s0 := World.cell?_setCell_same w1 ⟨w.heap.size + 1, 0, none⟩ (.int .i64 (wrap64 (1 - i))) c0
    have s1 := World.cell?_setCell_same (w1.setCell ⟨w.heap.size + 1, 0, none⟩ (.int .i64 (wrap64 (1 - i)))) ⟨w.heap.size + 1, 1, none⟩ (.float .f64 0) ((World.cell?_setCell_other _ _ _ _ (by simp)).trans c1)
    have s2 := World.cell?_setCell_same ((w1.setCell ⟨w.heap.size + 1, 0, none⟩ (.int .i64 (wrap64 (1 - i)))).setCell ⟨w.heap.size + 1, 1, none⟩ (.float .f64 0)) ⟨w.heap.size + 1, 2, none⟩ (.float .f64 0) ((World.cell?_setCell_other _ _ _ _ (by simp)).trans ((World.cell?_setCell_other _ _ _ _ (by simp)).trans c2))
    refine bodyPost_ret (v := .agg #[.int .i64 (wrap64 (1 - i)), .float .f64 0, .float .f64 0]) (by simp [results, go_sem, s0, s1, s2]) rfl ⟨?_, ?_⟩
    · show _ = _; rw [show unI 2 (kindI ((n : Int) + 1)) ((n : Int) + 1) i f g = (wrap64 (1 - i), 0, 0) by unfold unI; rw [if_neg (by decide), if_pos (by decide), if_pos (by simpa using (show (kindI ((n : Int) + 1) == 0) = true by assumption))]]
    · repeat (first | exact B1.out | apply below_drewN | apply Below.drew | (refine Below.setCell ?_ (by simp; try omega) _))
  · refine (int_cell _ _).mono ?_
    rintro e w1 ⟨rfl, hb1⟩
    have z1 : w.heap.size + 1 < w1.heap.size := by have := hb1.size; simp at this; omega
    have c0 : w1.cell? ⟨w.heap.size + 1, 0, none⟩ = some (.int .i64 0) := (hb1.cell (p := ⟨w.heap.size + 1, 0, none⟩) (by simp)).trans (by simp)
    have d0 : w1.frozen? ⟨w.heap.size + 1, 0, none⟩ = false := (hb1.frozen (p := ⟨w.heap.size + 1, 0, none⟩) (by simp)).trans (by simp)
    have c1 : w1.cell? ⟨w.heap.size + 1, 1, none⟩ = some (.float .f64 0) := (hb1.cell (p := ⟨w.heap.size + 1, 1, none⟩) (by simp)).trans (by simp)
    have d1 : w1.frozen? ⟨w.heap.size + 1, 1, none⟩ = false := (hb1.frozen (p := ⟨w.heap.size + 1, 1, none⟩) (by simp)).trans (by simp)
    have c2 : w1.cell? ⟨w.heap.size + 1, 2, none⟩ = some (.float .f64 0) := (hb1.cell (p := ⟨w.heap.size + 1, 2, none⟩) (by simp)).trans (by simp)
    have d2 : w1.frozen? ⟨w.heap.size + 1, 2, none⟩ = false := (hb1.frozen (p := ⟨w.heap.size + 1, 2, none⟩) (by simp)).trans (by simp)
    have B1 := Lib.hid ((((Below.refl w.heap.size w).alloc (Nat.le_refl _) _).alloc (by simp) _).trans (hb1.mono (by simp; try omega)))
    clear hb1
    go_wp2_with fail
    have s0 := World.cell?_setCell_same w1 ⟨w.heap.size + 1, 0, none⟩ (.int .i64 (cutI ((n : Int) + 1) (bits BinOp.xor IntKind.i64 (-1) i))) c0
    have s1 := World.cell?_setCell_same (w1.setCell ⟨w.heap.size + 1, 0, none⟩ (.int .i64 (cutI ((n : Int) + 1) (bits BinOp.xor IntKind.i64 (-1) i)))) ⟨w.heap.size + 1, 1, none⟩ (.float .f64 0) ((World.cell?_setCell_other _ _ _ _ (by simp)).trans c1)
    have s2 := World.cell?_setCell_same ((w1.setCell ⟨w.heap.size + 1, 0, none⟩ (.int .i64 (cutI ((n : Int) + 1) (bits BinOp.xor IntKind.i64 (-1) i)))).setCell ⟨w.heap.size + 1, 1, none⟩ (.float .f64 0)) ⟨w.heap.size + 1, 2, none⟩ (.float .f64 0) ((World.cell?_setCell_other _ _ _ _ (by simp)).trans ((World.cell?_setCell_other _ _ _ _ (by simp)).trans c2))
    refine bodyPost_ret (v := .agg #[.int .i64 (cutI ((n : Int) + 1) (bits BinOp.xor IntKind.i64 (-1) i)), .float .f64 0, .float .f64 0]) (by simp [results, go_sem, s0, s1, s2]) rfl ⟨?_, ?_⟩
    · show _ = _; rw [show unI 2 (kindI ((n : Int) + 1)) ((n : Int) + 1) i f g = (cutI ((n : Int) + 1) (bits BinOp.xor IntKind.i64 (-1) i), 0, 0) by unfold unI; rw [if_neg (by decide), if_pos (by decide), if_neg (by simpa using (show (kindI ((n : Int) + 1) == 0) = false by assumption))]]
    · repeat (first | exact B1.out | apply below_drewN | apply Below.drew | (refine Below.setCell ?_ (by simp; try omega) _))
set_option maxHeartbeats 4000000 in
theorem impl_unary3 (n : Nat) (hn : n < 9) (i : Int) (f g : Nat) (hf : f < 18446744073709551616) (hg : g < 18446744073709551616) (w : World) (hT : Table.Holds w) :
    Calls Tryd.prog 84 #[.int .i64 3, .int .i64 ((n : Int) + 1), .agg #[.int .i64 i, .float .f64 f, .float .f64 g]] w (UnP 3 (kindI ((n : Int) + 1)) ((n : Int) + 1) i f g w) := by
  obtain ⟨r0, r1, r2, r3, r4⟩ := row_of hT n hn
  clear hT
  have hz : 0 < w.heap.size := World.block_lt_of_cell? w _ r0
  have hz1 : ¬ 0 = w.heap.size := by omega
  have hz2 : ¬ 0 = w.heap.size + 1 := by omega
  have hns : ((n : Int) + 1).toNat = n + 1 := by omega
  have hlt : (n : Int) + 1 < 10 := by omega
  have nf := neg_float f hf
  have ng := neg_float g hg
  go_enter Tryd.func84, Tryd.ntmps84
  go_wp2_with (first | (go_at_call 91; refine (impl_cut _ _ _).mono ?_; rintro e w' ⟨rfl, rfl⟩) | (go_at_call 152; refine (impl_abs _ hf _).mono ?_; rintro e w' ⟨rfl, rfl⟩))
  · refine bodyPost_ret (v := .agg #[.int .i64 (0), .float .f64 (f % negZero), .float .f64 (0)]) (by simp [results, go_sem]) rfl ⟨?_, ?_⟩
    · show _ = _; rw [show unI 3 (kindI ((n : Int) + 1)) ((n : Int) + 1) i f g = (0, f % negZero, 0) by unfold unI; rw [if_neg (by decide), if_neg (by decide), if_pos (by decide), if_pos (by simpa using (show (kindI ((n : Int) + 1) == 2) = true by assumption))]]
    · repeat (first | exact Below.refl _ _ | apply below_drewN | apply Below.drew | (refine Below.setCell ?_ (by simp; try omega) _) | (refine Below.alloc ?_ (by simp; try omega) _))
  · refine (int_cell _ _).mono ?_
    rintro e w1 ⟨rfl, hb1⟩
    have z1 : w.heap.size + 1 < w1.heap.size := by have := hb1.size; simp at this; omega
    have c0 : w1.cell? ⟨w.heap.size + 1, 0, none⟩ = some (.int .i64 0) := (hb1.cell (p := ⟨w.heap.size + 1, 0, none⟩) (by simp)).trans (by simp)
    have d0 : w1.frozen? ⟨w.heap.size + 1, 0, none⟩ = false := (hb1.frozen (p := ⟨w.heap.size + 1, 0, none⟩) (by simp)).trans (by simp)
    have c1 : w1.cell? ⟨w.heap.size + 1, 1, none⟩ = some (.float .f64 0) := (hb1.cell (p := ⟨w.heap.size + 1, 1, none⟩) (by simp)).trans (by simp)
    have d1 : w1.frozen? ⟨w.heap.size + 1, 1, none⟩ = false := (hb1.frozen (p := ⟨w.heap.size + 1, 1, none⟩) (by simp)).trans (by simp)
    have c2 : w1.cell? ⟨w.heap.size + 1, 2, none⟩ = some (.float .f64 0) := (hb1.cell (p := ⟨w.heap.size + 1, 2, none⟩) (by simp)).trans (by simp)
    have d2 : w1.frozen? ⟨w.heap.size + 1, 2, none⟩ = false := (hb1.frozen (p := ⟨w.heap.size + 1, 2, none⟩) (by simp)).trans (by simp)
    have B1 := Lib.hid ((((Below.refl w.heap.size w).alloc (Nat.le_refl _) _).alloc (by simp) _).trans (hb1.mono (by simp; try omega)))
    clear hb1
    go_wp2_with fail
    have s0 := World.cell?_setCell_same w1 ⟨w.heap.size + 1, 0, none⟩ (.int .i64 (cutI ((n : Int) + 1) (wrap64 (-i)))) c0
    have s1 := World.cell?_setCell_same (w1.setCell ⟨w.heap.size + 1, 0, none⟩ (.int .i64 (cutI ((n : Int) + 1) (wrap64 (-i))))) ⟨w.heap.size + 1, 1, none⟩ (.float .f64 0) ((World.cell?_setCell_other _ _ _ _ (by simp)).trans c1)
    have s2 := World.cell?_setCell_same ((w1.setCell ⟨w.heap.size + 1, 0, none⟩ (.int .i64 (cutI ((n : Int) + 1) (wrap64 (-i))))).setCell ⟨w.heap.size + 1, 1, none⟩ (.float .f64 0)) ⟨w.heap.size + 1, 2, none⟩ (.float .f64 0) ((World.cell?_setCell_other _ _ _ _ (by simp)).trans ((World.cell?_setCell_other _ _ _ _ (by simp)).trans c2))
    refine bodyPost_ret (v := .agg #[.int .i64 (cutI ((n : Int) + 1) (wrap64 (-i))), .float .f64 0, .float .f64 0]) (by simp [results, go_sem, s0, s1, s2]) rfl ⟨?_, ?_⟩
    · show _ = _; rw [show unI 3 (kindI ((n : Int) + 1)) ((n : Int) + 1) i f g = (cutI ((n : Int) + 1) (wrap64 (-i)), 0, 0) by unfold unI; rw [if_neg (by decide), if_neg (by decide), if_pos (by decide), if_neg (by simpa using (show (kindI ((n : Int) + 1) == 2) = false by assumption)), if_pos (by assumption)]]
    · repeat (first | exact B1.out | apply below_drewN | apply Below.drew | (refine Below.setCell ?_ (by simp; try omega) _))
  · refine bodyPost_ret (v := .agg #[.int .i64 (i), .float .f64 (f), .float .f64 (g)]) (by simp [results, go_sem]) rfl ⟨?_, ?_⟩
    · show _ = _; rw [show unI 3 (kindI ((n : Int) + 1)) ((n : Int) + 1) i f g = (i, f, g) by unfold unI; rw [if_neg (by decide), if_neg (by decide), if_pos (by decide), if_neg (by simpa using (show (kindI ((n : Int) + 1) == 2) = false by assumption)), if_neg (by omega)]]
    · repeat (first | exact Below.refl _ _ | apply below_drewN | apply Below.drew | (refine Below.setCell ?_ (by simp; try omega) _) | (refine Below.alloc ?_ (by simp; try omega) _))
end Go.Proofs.YtpmdgmnpkdoamabDoor.Vc
