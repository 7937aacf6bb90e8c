/- Proved here: what impl.unary answers where the table of dtypes holds what the program lays in it. Conditions: the words are of their kind; the operation is served. -/
import Derived.Test.YtpmdgmnpkdoamabDoorUn3
namespace Go.Proofs.YtpmdgmnpkdoamabDoor.Vc
open Go.RowKit Fl Prom
open Ieee (single double)
attribute [local go_sem] run_store_float'
def unI (op k a i : Int) (f g : Nat) : Int × Nat × Nat :=
  if op = 1 then (if k = 1 then (cutI a (wrap64 (-i)), 0, 0) else if k = 2 then (0, Fl.flip f, 0) else (0, Fl.flip f, Fl.flip g))
  else if op = 2 then (if k = 0 then (wrap64 (1 - i), 0, 0) else (cutI a (bits BinOp.xor IntKind.i64 (-1) i), 0, 0))
  else if op = 3 then (if k = 2 then (0, f % negZero, 0) else if i < 0 then (cutI a (wrap64 (-i)), 0, 0) else (i, f, g))
  else (if k = 3 then (i, f, Fl.flip g) else (i, f, g))
def UnP (op k a i : Int) (f g : Nat) (w : World) (e : Ending) (w' : World) : Prop :=
  e = .returned (.agg #[.int .i64 (unI op k a i f g).1, .float .f64 (unI op k a i f g).2.1, .float .f64 (unI op k a i f g).2.2]) ∧ Below w.heap.size w w'
theorem ret_cell {i i' : Int} {f g f' g' : Nat} (h1 : i = i') (h2 : f = f') (h3 : g = g') : Ending.returned (.agg #[.int .i64 i, .float .f64 f, .float .f64 g]) = .returned (.agg #[.int .i64 i', .float .f64 f', .float .f64 g']) := by rw [h1, h2, h3]
theorem neg_float (x : Nat) (hx : x < 18446744073709551616) (w : World) : (Op.unary .neg (.float .f64 x)).run Tryd.prog w = .ok (.float .f64 (Fl.flip x)) w := by
  simp only [Op.unary, Op.negFloat]
  rw [← xor_flip hx]
  rfl
set_option maxHeartbeats 4000000 in
theorem impl_unary1 (n : Nat) (hn : n < 9) (i : Int) (f g : Nat) (hf : f < 18446744073709551616) (hg : g < 18446744073709551616) (w : World) (hT : Table.Holds w) :
    Calls Tryd.prog 84 #[.int .i64 1, .int .i64 ((n : Int) + 1), .agg #[.int .i64 i, .float .f64 f, .float .f64 g]] w (UnP 1 (kindI ((n : Int) + 1)) ((n : Int) + 1) i f g w) := by
  obtain ⟨r0, r1, r2, r3, r4⟩ := row_of hT n hn
  clear hT
  have hz : 0 < w.heap.size := World.block_lt_of_cell? w _ r0
  have hz1 : ¬ 0 = w.heap.size := by omega
  have hz2 : ¬ 0 = w.heap.size + 1 := by omega
  have hns : ((n : Int) + 1).toNat = n + 1 := by omega
  have hlt : (n : Int) + 1 < 10 := by omega
  have B := Lib.hid (kind_bound n)
  have nf := neg_float f hf
  have ng := neg_float g hg
  go_enter Tryd.func84, Tryd.ntmps84
  go_wp2_with (first | (go_at_call 91; refine (impl_cut _ _ _).mono ?_; rintro e w' ⟨rfl, rfl⟩))
  · have K := Lib.hid (show kindI ((n : Int) + 1) = 1 by simpa using (show (kindI ((n : Int) + 1) == 1) = true by assumption))
    refine (int_cell _ _).mono ?_
    rintro e w1 ⟨rfl, hb1⟩
    have z1 : w.heap.size + 1 < w1.heap.size := by have := hb1.size; simp at this; omega
    have c0 : w1.cell? ⟨w.heap.size + 1, 0, none⟩ = some (.int .i64 0) := (hb1.cell (p := ⟨w.heap.size + 1, 0, none⟩) (by simp)).trans (by simp)
    have c1 : w1.cell? ⟨w.heap.size + 1, 1, none⟩ = some (.float .f64 0) := (hb1.cell (p := ⟨w.heap.size + 1, 1, none⟩) (by simp)).trans (by simp)
    have c2 : w1.cell? ⟨w.heap.size + 1, 2, none⟩ = some (.float .f64 0) := (hb1.cell (p := ⟨w.heap.size + 1, 2, none⟩) (by simp)).trans (by simp)
    have d0 : w1.frozen? ⟨w.heap.size + 1, 0, none⟩ = false := (hb1.frozen (p := ⟨w.heap.size + 1, 0, none⟩) (by simp)).trans (by simp)
    have d1 : w1.frozen? ⟨w.heap.size + 1, 1, none⟩ = false := (hb1.frozen (p := ⟨w.heap.size + 1, 1, none⟩) (by simp)).trans (by simp)
    have d2 : w1.frozen? ⟨w.heap.size + 1, 2, none⟩ = false := (hb1.frozen (p := ⟨w.heap.size + 1, 2, none⟩) (by simp)).trans (by simp)
    have B1 := Lib.hid ((((Below.refl w.heap.size w).alloc (Nat.le_refl _) _).alloc (by simp) _).trans (hb1.mono (by simp; try omega)))
    clear hb1
    go_wp2_with fail
    have s0 := World.cell?_setCell_same w1 ⟨w.heap.size + 1, 0, none⟩ (.int .i64 (cutI ((n : Int) + 1) (wrap64 (-i)))) c0
    have s1 := World.cell?_setCell_same (w1.setCell ⟨w.heap.size + 1, 0, none⟩ (.int .i64 (cutI ((n : Int) + 1) (wrap64 (-i))))) ⟨w.heap.size + 1, 1, none⟩ (.float .f64 0) ((World.cell?_setCell_other _ _ _ _ (by simp)).trans c1)
    have s2 := World.cell?_setCell_same ((w1.setCell ⟨w.heap.size + 1, 0, none⟩ (.int .i64 (cutI ((n : Int) + 1) (wrap64 (-i))))).setCell ⟨w.heap.size + 1, 1, none⟩ (.float .f64 0)) ⟨w.heap.size + 1, 2, none⟩ (.float .f64 0) ((World.cell?_setCell_other _ _ _ _ (by simp)).trans ((World.cell?_setCell_other _ _ _ _ (by simp)).trans c2))
    refine bodyPost_ret (v := .agg #[.int .i64 (cutI ((n : Int) + 1) (wrap64 (-i))), .float .f64 0, .float .f64 0]) (by simp [results, go_sem, s0, s1, s2]) rfl ⟨?_, ?_⟩
    · rw [K.out]; rfl
    · repeat (first | exact B1.out | apply below_drewN | apply Below.drew | (refine Below.setCell ?_ (by simp; try omega) _))
  · have K := Lib.hid (show kindI ((n : Int) + 1) = 2 by simpa using (show (kindI ((n : Int) + 1) == 2) = true by assumption))
    refine bodyPost_ret (v := .agg #[.int .i64 0, .float .f64 (Fl.flip f), .float .f64 0]) (by simp [results, go_sem]) rfl ⟨?_, ?_⟩
    · rw [K.out]; rfl
    · repeat (first | exact Below.refl _ _ | apply below_drewN | apply Below.drew | (refine Below.setCell ?_ (by simp; try omega) _) | (refine Below.alloc ?_ (by simp; try omega) _))
  · have K1 := Lib.hid (show ¬ kindI ((n : Int) + 1) = 1 by simpa using (show (kindI ((n : Int) + 1) == 1) = false by assumption))
    have K2 := Lib.hid (show ¬ kindI ((n : Int) + 1) = 2 by simpa using (show (kindI ((n : Int) + 1) == 2) = false by assumption))
    refine bodyPost_ret (v := .agg #[.int .i64 0, .float .f64 (Fl.flip f), .float .f64 (Fl.flip g)]) (by simp [results, go_sem]) rfl ⟨?_, ?_⟩
    · have e : unI 1 (kindI ((n : Int) + 1)) ((n : Int) + 1) i f g = (0, Fl.flip f, Fl.flip g) := by unfold unI; rw [if_pos rfl, if_neg K1.out, if_neg K2.out]
      rw [e]
    · repeat (first | exact Below.refl _ _ | apply below_drewN | apply Below.drew | (refine Below.setCell ?_ (by simp; try omega) _) | (refine Below.alloc ?_ (by simp; try omega) _))
end Go.Proofs.YtpmdgmnpkdoamabDoor.Vc
