/- Proved here: what impl.Apply answers at the sum of cells that aren't both valid, and at the smaller and the larger one. Conditions: the words are of their kind; the table of dtypes holds what the program lays in it. -/
import Derived.Test.YtpmdgmnpkdoamabDoorApb
import Derived.Test.YtpmdgmnpkdoamabDoorDrw
namespace Go.Proofs.YtpmdgmnpkdoamabDoor.Vc
open Go.RowKit Fl Prom Go.Proofs.YtpmdgmnpkdoamabDoorW.PrintWords
open Ieee (single double)
set_option linter.unusedVariables false
set_option linter.unusedSimpArgs false
attribute [local go_sem] run_store_float'
theorem alloc_get (w : World) (o : Obj) (i : Nat) : (w.alloc o).heap[i]? = if i = w.heap.size then some o else w.heap[i]? := by
  show (w.heap.push o)[i]? = _
  rw [Array.getElem?_push]
theorem cell5 {W1 : World} {b : Nat} {u0 u1 u2 u3 u4 : Value} {t : Nat} (h : W1.heap[b]? = some (.cells #[u0, u1, u2, u3, u4] t (0, 0))) (x y z p q : Value) : (((((W1.setCell ⟨b, 0, none⟩ x).setCell ⟨b, 1, none⟩ y).setCell ⟨b, 2, none⟩ z).setCell ⟨b, 3, none⟩ p).setCell ⟨b, 4, none⟩ q).heap[b]? = some (.cells #[x, y, z, p, q] t (0, 0)) := by
  have h1 := blk_put (cs := #[u0, u1, u2, u3, u4]) h 0 x rfl
  have h2 := blk_put h1 1 y rfl
  have h3 := blk_put h2 2 z rfl
  have h4 := blk_put h3 3 p rfl
  exact blk_put h4 4 q rfl
def Ans (c d i : Int) (f g : Nat) (w : World) (e : Ending) (w' : World) : Prop := e = .returned (.agg #[.int .i64 c, .int .i64 d, .int .i64 i, .float .f64 f, .float .f64 g]) ∧ Below w.heap.size w w'
set_option maxHeartbeats 4000000 in
theorem apply_no (a : Int) (ha : isdt a = false) (i : Int) (f g : Nat) (i' : Int) (f' g' : Nat) (hf : f < 18446744073709551616) (hg : g < 18446744073709551616) (hf' : f' < 18446744073709551616) (hg' : g' < 18446744073709551616) (w : World) (hT : Table.Holds w) :
    Calls Tryd.prog 34 #[.int .i64 1, .int .i64 a, .agg #[.int .i64 i, .float .f64 f, .float .f64 g], .agg #[.int .i64 i', .float .f64 f', .float .f64 g']] w (Ans 4 0 0 0 0 w) := by
  have h0 : 0 < w.heap.size := World.block_lt_of_cell? w _ (hT 0 0 (by omega) (by omega))
  have HT := Lib.hid hT
  have S := Lib.hid (fun w (hT : Table.Holds w) => serves_run 1 a (by simp) w hT)
  have V1 := Lib.hid (fun w (hT : Table.Holds w) => impl_vcell a i f g hf hg w hT)
  have V2 := Lib.hid (fun w (hT : Table.Holds w) => impl_vcell a i' f' g' hf' hg' w hT)
  have hs : serv 1 a = false := by unfold serv; rw [ha]; rfl
  have S := Lib.hid (show ∀ w, Table.Holds w → Calls Tryd.prog 96 #[.int .i64 1, .int .i64 a] w fun e w' => e = .returned (.bool false) ∧ w = w' from fun w h => by have := S.out w h; rw [hs] at this; exact this)
  clear hT V1 V2 hs hf hg hf' hg'
  go_enter Tryd.func34, Tryd.ntmps34
  go_wp2_with fail
  refine (S.out _ (Table.holds_below HT.out (by repeat (first | exact Below.refl _ _ | apply below_drewN | apply Below.drew | (refine Below.setCell ?_ (by simp; try omega) _) | (refine Below.alloc ?_ (by simp; try omega) _))) h0)).mono ?_
  rintro e w1 ⟨rfl, hw⟩
  have BK6 : Aside0 (w1.heap[w.heap.size]? = some (.cells #[(.int .i64 i), (.float .f64 f), (.float .f64 g)] 27 (0, 0))) := ⟨by rw [← hw, alloc_get, alloc_get, alloc_get]; simp; try omega⟩
  have BK7 : Aside0 (w1.heap[w.heap.size + 1]? = some (.cells #[(.int .i64 i'), (.float .f64 f'), (.float .f64 g')] 27 (0, 0))) := ⟨by rw [← hw, alloc_get, alloc_get, alloc_get]; simp; try omega⟩
  have BK8 : Aside0 (w1.heap[w.heap.size + 2]? = some (.cells #[(.int .i64 0), (.int .i64 0), (.int .i64 0), (.float .f64 0), (.float .f64 0)] 44 (0, 0))) := ⟨by rw [← hw, alloc_get, alloc_get, alloc_get]; simp; try omega⟩
  have BB : Aside0 (Below w.heap.size w w1) := ⟨by rw [← hw]; repeat (first | exact Below.refl _ _ | (refine Below.alloc ?_ (by simp; try omega) _))⟩
  clear hw
  have c60 : w1.cell? ⟨w.heap.size, 0, none⟩ = some (.int .i64 i) := (blk_cell BK6.out 0).trans rfl
  have c61 : w1.cell? ⟨w.heap.size, 1, none⟩ = some (.float .f64 f) := (blk_cell BK6.out 1).trans rfl
  have c62 : w1.cell? ⟨w.heap.size, 2, none⟩ = some (.float .f64 g) := (blk_cell BK6.out 2).trans rfl
  have c70 : w1.cell? ⟨w.heap.size + 1, 0, none⟩ = some (.int .i64 i') := (blk_cell BK7.out 0).trans rfl
  have c71 : w1.cell? ⟨w.heap.size + 1, 1, none⟩ = some (.float .f64 f') := (blk_cell BK7.out 1).trans rfl
  have c72 : w1.cell? ⟨w.heap.size + 1, 2, none⟩ = some (.float .f64 g') := (blk_cell BK7.out 2).trans rfl
  have c80 : w1.cell? ⟨w.heap.size + 2, 0, none⟩ = some (.int .i64 0) := (blk_cell BK8.out 0).trans rfl
  have d80 : w1.frozen? ⟨w.heap.size + 2, 0, none⟩ = false := blk_frozen BK8.out 0
  have c81 : w1.cell? ⟨w.heap.size + 2, 1, none⟩ = some (.int .i64 0) := (blk_cell BK8.out 1).trans rfl
  have d81 : w1.frozen? ⟨w.heap.size + 2, 1, none⟩ = false := blk_frozen BK8.out 1
  have c82 : w1.cell? ⟨w.heap.size + 2, 2, none⟩ = some (.int .i64 0) := (blk_cell BK8.out 2).trans rfl
  have d82 : w1.frozen? ⟨w.heap.size + 2, 2, none⟩ = false := blk_frozen BK8.out 2
  have c83 : w1.cell? ⟨w.heap.size + 2, 3, none⟩ = some (.float .f64 0) := (blk_cell BK8.out 3).trans rfl
  have d83 : w1.frozen? ⟨w.heap.size + 2, 3, none⟩ = false := blk_frozen BK8.out 3
  have c84 : w1.cell? ⟨w.heap.size + 2, 4, none⟩ = some (.float .f64 0) := (blk_cell BK8.out 4).trans rfl
  have d84 : w1.frozen? ⟨w.heap.size + 2, 4, none⟩ = false := blk_frozen BK8.out 4
  go_wp2_with fail
  refine bodyPost_ret (results_cell_row rfl _ _ (w.heap.size + 2) 44 _ (0, 0) _ rfl (cell5 BK8.out _ _ _ _ _) Tryd.underlying44 rfl (by kernel_rfl)) rfl ?_
  refine ⟨rfl, ?_⟩
  repeat (first | exact BB.out | apply below_drewN | apply Below.drew | (refine Below.setCell ?_ (by simp; try omega) _))
set_option maxHeartbeats 4000000 in
theorem apply_cx5 (a : Int) (hk : kindI a = 3) (i : Int) (f g : Nat) (i' : Int) (f' g' : Nat) (hf : f < 18446744073709551616) (hg : g < 18446744073709551616) (hf' : f' < 18446744073709551616) (hg' : g' < 18446744073709551616) (w : World) (hT : Table.Holds w) :
    Calls Tryd.prog 34 #[.int .i64 5, .int .i64 a, .agg #[.int .i64 i, .float .f64 f, .float .f64 g], .agg #[.int .i64 i', .float .f64 f', .float .f64 g']] w (Ans 4 0 0 0 0 w) := by
  have h0 : 0 < w.heap.size := World.block_lt_of_cell? w _ (hT 0 0 (by omega) (by omega))
  have HT := Lib.hid hT
  have S := Lib.hid (fun w (hT : Table.Holds w) => serves_run 5 a (by simp) w hT)
  have V1 := Lib.hid (fun w (hT : Table.Holds w) => impl_vcell a i f g hf hg w hT)
  have V2 := Lib.hid (fun w (hT : Table.Holds w) => impl_vcell a i' f' g' hf' hg' w hT)
  have hs : serv 5 a = false := by unfold serv; rw [hk]; simp
  have S := Lib.hid (show ∀ w, Table.Holds w → Calls Tryd.prog 96 #[.int .i64 5, .int .i64 a] w fun e w' => e = .returned (.bool false) ∧ w = w' from fun w h => by have := S.out w h; rw [hs] at this; exact this)
  clear hT V1 V2 hs hf hg hf' hg'
  go_enter Tryd.func34, Tryd.ntmps34
  go_wp2_with fail
  refine (S.out _ (Table.holds_below HT.out (by repeat (first | exact Below.refl _ _ | apply below_drewN | apply Below.drew | (refine Below.setCell ?_ (by simp; try omega) _) | (refine Below.alloc ?_ (by simp; try omega) _))) h0)).mono ?_
  rintro e w1 ⟨rfl, hw⟩
  have BK6 : Aside0 (w1.heap[w.heap.size]? = some (.cells #[(.int .i64 i), (.float .f64 f), (.float .f64 g)] 27 (0, 0))) := ⟨by rw [← hw, alloc_get, alloc_get, alloc_get]; simp; try omega⟩
  have BK7 : Aside0 (w1.heap[w.heap.size + 1]? = some (.cells #[(.int .i64 i'), (.float .f64 f'), (.float .f64 g')] 27 (0, 0))) := ⟨by rw [← hw, alloc_get, alloc_get, alloc_get]; simp; try omega⟩
  have BK8 : Aside0 (w1.heap[w.heap.size + 2]? = some (.cells #[(.int .i64 0), (.int .i64 0), (.int .i64 0), (.float .f64 0), (.float .f64 0)] 44 (0, 0))) := ⟨by rw [← hw, alloc_get, alloc_get, alloc_get]; simp; try omega⟩
  have BB : Aside0 (Below w.heap.size w w1) := ⟨by rw [← hw]; repeat (first | exact Below.refl _ _ | (refine Below.alloc ?_ (by simp; try omega) _))⟩
  clear hw
  have c60 : w1.cell? ⟨w.heap.size, 0, none⟩ = some (.int .i64 i) := (blk_cell BK6.out 0).trans rfl
  have c61 : w1.cell? ⟨w.heap.size, 1, none⟩ = some (.float .f64 f) := (blk_cell BK6.out 1).trans rfl
  have c62 : w1.cell? ⟨w.heap.size, 2, none⟩ = some (.float .f64 g) := (blk_cell BK6.out 2).trans rfl
  have c70 : w1.cell? ⟨w.heap.size + 1, 0, none⟩ = some (.int .i64 i') := (blk_cell BK7.out 0).trans rfl
  have c71 : w1.cell? ⟨w.heap.size + 1, 1, none⟩ = some (.float .f64 f') := (blk_cell BK7.out 1).trans rfl
  have c72 : w1.cell? ⟨w.heap.size + 1, 2, none⟩ = some (.float .f64 g') := (blk_cell BK7.out 2).trans rfl
  have c80 : w1.cell? ⟨w.heap.size + 2, 0, none⟩ = some (.int .i64 0) := (blk_cell BK8.out 0).trans rfl
  have d80 : w1.frozen? ⟨w.heap.size + 2, 0, none⟩ = false := blk_frozen BK8.out 0
  have c81 : w1.cell? ⟨w.heap.size + 2, 1, none⟩ = some (.int .i64 0) := (blk_cell BK8.out 1).trans rfl
  have d81 : w1.frozen? ⟨w.heap.size + 2, 1, none⟩ = false := blk_frozen BK8.out 1
  have c82 : w1.cell? ⟨w.heap.size + 2, 2, none⟩ = some (.int .i64 0) := (blk_cell BK8.out 2).trans rfl
  have d82 : w1.frozen? ⟨w.heap.size + 2, 2, none⟩ = false := blk_frozen BK8.out 2
  have c83 : w1.cell? ⟨w.heap.size + 2, 3, none⟩ = some (.float .f64 0) := (blk_cell BK8.out 3).trans rfl
  have d83 : w1.frozen? ⟨w.heap.size + 2, 3, none⟩ = false := blk_frozen BK8.out 3
  have c84 : w1.cell? ⟨w.heap.size + 2, 4, none⟩ = some (.float .f64 0) := (blk_cell BK8.out 4).trans rfl
  have d84 : w1.frozen? ⟨w.heap.size + 2, 4, none⟩ = false := blk_frozen BK8.out 4
  go_wp2_with fail
  refine bodyPost_ret (results_cell_row rfl _ _ (w.heap.size + 2) 44 _ (0, 0) _ rfl (cell5 BK8.out _ _ _ _ _) Tryd.underlying44 rfl (by kernel_rfl)) rfl ?_
  refine ⟨rfl, ?_⟩
  repeat (first | exact BB.out | apply below_drewN | apply Below.drew | (refine Below.setCell ?_ (by simp; try omega) _))
set_option maxHeartbeats 4000000 in
theorem apply_cx6 (a : Int) (hk : kindI a = 3) (i : Int) (f g : Nat) (i' : Int) (f' g' : Nat) (hf : f < 18446744073709551616) (hg : g < 18446744073709551616) (hf' : f' < 18446744073709551616) (hg' : g' < 18446744073709551616) (w : World) (hT : Table.Holds w) :
    Calls Tryd.prog 34 #[.int .i64 6, .int .i64 a, .agg #[.int .i64 i, .float .f64 f, .float .f64 g], .agg #[.int .i64 i', .float .f64 f', .float .f64 g']] w (Ans 4 0 0 0 0 w) := by
  have h0 : 0 < w.heap.size := World.block_lt_of_cell? w _ (hT 0 0 (by omega) (by omega))
  have HT := Lib.hid hT
  have S := Lib.hid (fun w (hT : Table.Holds w) => serves_run 6 a (by simp) w hT)
  have V1 := Lib.hid (fun w (hT : Table.Holds w) => impl_vcell a i f g hf hg w hT)
  have V2 := Lib.hid (fun w (hT : Table.Holds w) => impl_vcell a i' f' g' hf' hg' w hT)
  have hs : serv 6 a = false := by unfold serv; rw [hk]; simp
  have S := Lib.hid (show ∀ w, Table.Holds w → Calls Tryd.prog 96 #[.int .i64 6, .int .i64 a] w fun e w' => e = .returned (.bool false) ∧ w = w' from fun w h => by have := S.out w h; rw [hs] at this; exact this)
  clear hT V1 V2 hs hf hg hf' hg'
  go_enter Tryd.func34, Tryd.ntmps34
  go_wp2_with fail
  refine (S.out _ (Table.holds_below HT.out (by repeat (first | exact Below.refl _ _ | apply below_drewN | apply Below.drew | (refine Below.setCell ?_ (by simp; try omega) _) | (refine Below.alloc ?_ (by simp; try omega) _))) h0)).mono ?_
  rintro e w1 ⟨rfl, hw⟩
  have BK6 : Aside0 (w1.heap[w.heap.size]? = some (.cells #[(.int .i64 i), (.float .f64 f), (.float .f64 g)] 27 (0, 0))) := ⟨by rw [← hw, alloc_get, alloc_get, alloc_get]; simp; try omega⟩
  have BK7 : Aside0 (w1.heap[w.heap.size + 1]? = some (.cells #[(.int .i64 i'), (.float .f64 f'), (.float .f64 g')] 27 (0, 0))) := ⟨by rw [← hw, alloc_get, alloc_get, alloc_get]; simp; try omega⟩
  have BK8 : Aside0 (w1.heap[w.heap.size + 2]? = some (.cells #[(.int .i64 0), (.int .i64 0), (.int .i64 0), (.float .f64 0), (.float .f64 0)] 44 (0, 0))) := ⟨by rw [← hw, alloc_get, alloc_get, alloc_get]; simp; try omega⟩
  have BB : Aside0 (Below w.heap.size w w1) := ⟨by rw [← hw]; repeat (first | exact Below.refl _ _ | (refine Below.alloc ?_ (by simp; try omega) _))⟩
  clear hw
  have c60 : w1.cell? ⟨w.heap.size, 0, none⟩ = some (.int .i64 i) := (blk_cell BK6.out 0).trans rfl
  have c61 : w1.cell? ⟨w.heap.size, 1, none⟩ = some (.float .f64 f) := (blk_cell BK6.out 1).trans rfl
  have c62 : w1.cell? ⟨w.heap.size, 2, none⟩ = some (.float .f64 g) := (blk_cell BK6.out 2).trans rfl
  have c70 : w1.cell? ⟨w.heap.size + 1, 0, none⟩ = some (.int .i64 i') := (blk_cell BK7.out 0).trans rfl
  have c71 : w1.cell? ⟨w.heap.size + 1, 1, none⟩ = some (.float .f64 f') := (blk_cell BK7.out 1).trans rfl
  have c72 : w1.cell? ⟨w.heap.size + 1, 2, none⟩ = some (.float .f64 g') := (blk_cell BK7.out 2).trans rfl
  have c80 : w1.cell? ⟨w.heap.size + 2, 0, none⟩ = some (.int .i64 0) := (blk_cell BK8.out 0).trans rfl
  have d80 : w1.frozen? ⟨w.heap.size + 2, 0, none⟩ = false := blk_frozen BK8.out 0
  have c81 : w1.cell? ⟨w.heap.size + 2, 1, none⟩ = some (.int .i64 0) := (blk_cell BK8.out 1).trans rfl
  have d81 : w1.frozen? ⟨w.heap.size + 2, 1, none⟩ = false := blk_frozen BK8.out 1
  have c82 : w1.cell? ⟨w.heap.size + 2, 2, none⟩ = some (.int .i64 0) := (blk_cell BK8.out 2).trans rfl
  have d82 : w1.frozen? ⟨w.heap.size + 2, 2, none⟩ = false := blk_frozen BK8.out 2
  have c83 : w1.cell? ⟨w.heap.size + 2, 3, none⟩ = some (.float .f64 0) := (blk_cell BK8.out 3).trans rfl
  have d83 : w1.frozen? ⟨w.heap.size + 2, 3, none⟩ = false := blk_frozen BK8.out 3
  have c84 : w1.cell? ⟨w.heap.size + 2, 4, none⟩ = some (.float .f64 0) := (blk_cell BK8.out 4).trans rfl
  have d84 : w1.frozen? ⟨w.heap.size + 2, 4, none⟩ = false := blk_frozen BK8.out 4
  go_wp2_with fail
  refine bodyPost_ret (results_cell_row rfl _ _ (w.heap.size + 2) 44 _ (0, 0) _ rfl (cell5 BK8.out _ _ _ _ _) Tryd.underlying44 rfl (by kernel_rfl)) rfl ?_
  refine ⟨rfl, ?_⟩
  repeat (first | exact BB.out | apply below_drewN | apply Below.drew | (refine Below.setCell ?_ (by simp; try omega) _))
set_option maxHeartbeats 4000000 in
theorem apply_bad (a : Int) (ha : isdt a = true) (i : Int) (f g : Nat) (i' : Int) (f' g' : Nat) (hf : f < 18446744073709551616) (hg : g < 18446744073709551616) (hf' : f' < 18446744073709551616) (hg' : g' < 18446744073709551616) (w : World) (hT : Table.Holds w) (hv : (vcell a i f g && vcell a i' f' g') = false) :
    Calls Tryd.prog 34 #[.int .i64 1, .int .i64 a, .agg #[.int .i64 i, .float .f64 f, .float .f64 g], .agg #[.int .i64 i', .float .f64 f', .float .f64 g']] w (Ans 14 0 0 0 0 w) := by
  have h0 : 0 < w.heap.size := World.block_lt_of_cell? w _ (hT 0 0 (by omega) (by omega))
  have HT := Lib.hid hT
  have S := Lib.hid (fun w (hT : Table.Holds w) => serves_run 1 a (by simp) w hT)
  have V1 := Lib.hid (fun w (hT : Table.Holds w) => impl_vcell a i f g hf hg w hT)
  have V2 := Lib.hid (fun w (hT : Table.Holds w) => impl_vcell a i' f' g' hf' hg' w hT)
  have hs : serv 1 a = true := by unfold serv; rw [ha]; rfl
  have S := Lib.hid (show ∀ w, Table.Holds w → Calls Tryd.prog 96 #[.int .i64 1, .int .i64 a] w fun e w' => e = .returned (.bool true) ∧ w = w' from fun w h => by have := S.out w h; rw [hs] at this; exact this)
  cases v1 : vcell a i f g
  · have V1 := Lib.hid (show ∀ w, Table.Holds w → Calls Tryd.prog 19 #[.int .i64 a, .agg #[.int .i64 i, .float .f64 f, .float .f64 g]] w fun e w' => e = .returned (.bool false) ∧ Below w.heap.size w w' from fun w h => by have := V1.out w h; rw [v1] at this; exact this)
    clear hT v1 hv hs hf hg hf' hg'
    go_enter Tryd.func34, Tryd.ntmps34
    go_wp2_with fail
    refine (S.out _ (Table.holds_below HT.out (by repeat (first | exact Below.refl _ _ | apply below_drewN | apply Below.drew | (refine Below.setCell ?_ (by simp; try omega) _) | (refine Below.alloc ?_ (by simp; try omega) _))) h0)).mono ?_
    rintro e w1 ⟨rfl, hw⟩
    have BK6 : Aside0 (w1.heap[w.heap.size]? = some (.cells #[(.int .i64 i), (.float .f64 f), (.float .f64 g)] 27 (0, 0))) := ⟨by rw [← hw, alloc_get, alloc_get, alloc_get]; simp; try omega⟩
    have BK7 : Aside0 (w1.heap[w.heap.size + 1]? = some (.cells #[(.int .i64 i'), (.float .f64 f'), (.float .f64 g')] 27 (0, 0))) := ⟨by rw [← hw, alloc_get, alloc_get, alloc_get]; simp; try omega⟩
    have BK8 : Aside0 (w1.heap[w.heap.size + 2]? = some (.cells #[(.int .i64 0), (.int .i64 0), (.int .i64 0), (.float .f64 0), (.float .f64 0)] 44 (0, 0))) := ⟨by rw [← hw, alloc_get, alloc_get, alloc_get]; simp; try omega⟩
    have BB : Aside0 (Below w.heap.size w w1) := ⟨by rw [← hw]; repeat (first | exact Below.refl _ _ | (refine Below.alloc ?_ (by simp; try omega) _))⟩
    clear hw
    have c60 : w1.cell? ⟨w.heap.size, 0, none⟩ = some (.int .i64 i) := (blk_cell BK6.out 0).trans rfl
    have c61 : w1.cell? ⟨w.heap.size, 1, none⟩ = some (.float .f64 f) := (blk_cell BK6.out 1).trans rfl
    have c62 : w1.cell? ⟨w.heap.size, 2, none⟩ = some (.float .f64 g) := (blk_cell BK6.out 2).trans rfl
    have c70 : w1.cell? ⟨w.heap.size + 1, 0, none⟩ = some (.int .i64 i') := (blk_cell BK7.out 0).trans rfl
    have c71 : w1.cell? ⟨w.heap.size + 1, 1, none⟩ = some (.float .f64 f') := (blk_cell BK7.out 1).trans rfl
    have c72 : w1.cell? ⟨w.heap.size + 1, 2, none⟩ = some (.float .f64 g') := (blk_cell BK7.out 2).trans rfl
    have c80 : w1.cell? ⟨w.heap.size + 2, 0, none⟩ = some (.int .i64 0) := (blk_cell BK8.out 0).trans rfl
    have d80 : w1.frozen? ⟨w.heap.size + 2, 0, none⟩ = false := blk_frozen BK8.out 0
    have c81 : w1.cell? ⟨w.heap.size + 2, 1, none⟩ = some (.int .i64 0) := (blk_cell BK8.out 1).trans rfl
    have d81 : w1.frozen? ⟨w.heap.size + 2, 1, none⟩ = false := blk_frozen BK8.out 1
    have c82 : w1.cell? ⟨w.heap.size + 2, 2, none⟩ = some (.int .i64 0) := (blk_cell BK8.out 2).trans rfl
    have d82 : w1.frozen? ⟨w.heap.size + 2, 2, none⟩ = false := blk_frozen BK8.out 2
    have c83 : w1.cell? ⟨w.heap.size + 2, 3, none⟩ = some (.float .f64 0) := (blk_cell BK8.out 3).trans rfl
    have d83 : w1.frozen? ⟨w.heap.size + 2, 3, none⟩ = false := blk_frozen BK8.out 3
    have c84 : w1.cell? ⟨w.heap.size + 2, 4, none⟩ = some (.float .f64 0) := (blk_cell BK8.out 4).trans rfl
    have d84 : w1.frozen? ⟨w.heap.size + 2, 4, none⟩ = false := blk_frozen BK8.out 4
    go_wp2_with fail
    refine (V1.out _ (Table.holds_below HT.out BB.out h0)).mono ?_
    rintro e w2 ⟨rfl, hb⟩
    replace BK6 := Aside0.mk (blk_below BK6.out hb)
    replace BK7 := Aside0.mk (blk_below BK7.out hb)
    replace BK8 := Aside0.mk (blk_below BK8.out hb)
    replace BB := Aside0.mk (BB.out.trans (hb.mono BB.out.size))
    clear hb
    have c60 : w2.cell? ⟨w.heap.size, 0, none⟩ = some (.int .i64 i) := (blk_cell BK6.out 0).trans rfl
    have c61 : w2.cell? ⟨w.heap.size, 1, none⟩ = some (.float .f64 f) := (blk_cell BK6.out 1).trans rfl
    have c62 : w2.cell? ⟨w.heap.size, 2, none⟩ = some (.float .f64 g) := (blk_cell BK6.out 2).trans rfl
    have c70 : w2.cell? ⟨w.heap.size + 1, 0, none⟩ = some (.int .i64 i') := (blk_cell BK7.out 0).trans rfl
    have c71 : w2.cell? ⟨w.heap.size + 1, 1, none⟩ = some (.float .f64 f') := (blk_cell BK7.out 1).trans rfl
    have c72 : w2.cell? ⟨w.heap.size + 1, 2, none⟩ = some (.float .f64 g') := (blk_cell BK7.out 2).trans rfl
    have c80 : w2.cell? ⟨w.heap.size + 2, 0, none⟩ = some (.int .i64 0) := (blk_cell BK8.out 0).trans rfl
    have d80 : w2.frozen? ⟨w.heap.size + 2, 0, none⟩ = false := blk_frozen BK8.out 0
    have c81 : w2.cell? ⟨w.heap.size + 2, 1, none⟩ = some (.int .i64 0) := (blk_cell BK8.out 1).trans rfl
    have d81 : w2.frozen? ⟨w.heap.size + 2, 1, none⟩ = false := blk_frozen BK8.out 1
    have c82 : w2.cell? ⟨w.heap.size + 2, 2, none⟩ = some (.int .i64 0) := (blk_cell BK8.out 2).trans rfl
    have d82 : w2.frozen? ⟨w.heap.size + 2, 2, none⟩ = false := blk_frozen BK8.out 2
    have c83 : w2.cell? ⟨w.heap.size + 2, 3, none⟩ = some (.float .f64 0) := (blk_cell BK8.out 3).trans rfl
    have d83 : w2.frozen? ⟨w.heap.size + 2, 3, none⟩ = false := blk_frozen BK8.out 3
    have c84 : w2.cell? ⟨w.heap.size + 2, 4, none⟩ = some (.float .f64 0) := (blk_cell BK8.out 4).trans rfl
    have d84 : w2.frozen? ⟨w.heap.size + 2, 4, none⟩ = false := blk_frozen BK8.out 4
    go_wp2_with fail
    refine bodyPost_ret (results_cell_row rfl _ _ (w.heap.size + 2) 44 _ (0, 0) _ rfl (cell5 BK8.out _ _ _ _ _) Tryd.underlying44 rfl (by kernel_rfl)) rfl ?_
    refine ⟨rfl, ?_⟩
    repeat (first | exact BB.out | apply below_drewN | apply Below.drew | (refine Below.setCell ?_ (by simp; try omega) _))
  · have V1 := Lib.hid (show ∀ w, Table.Holds w → Calls Tryd.prog 19 #[.int .i64 a, .agg #[.int .i64 i, .float .f64 f, .float .f64 g]] w fun e w' => e = .returned (.bool true) ∧ Below w.heap.size w w' from fun w h => by have := V1.out w h; rw [v1] at this; exact this)
    have v2 : vcell a i' f' g' = false := by rw [v1] at hv; simpa using hv
    have V2 := Lib.hid (show ∀ w, Table.Holds w → Calls Tryd.prog 19 #[.int .i64 a, .agg #[.int .i64 i', .float .f64 f', .float .f64 g']] w fun e w' => e = .returned (.bool false) ∧ Below w.heap.size w w' from fun w h => by have := V2.out w h; rw [v2] at this; exact this)
    clear v2
    clear hT v1 hv hs hf hg hf' hg'
    go_enter Tryd.func34, Tryd.ntmps34
    go_wp2_with fail
    refine (S.out _ (Table.holds_below HT.out (by repeat (first | exact Below.refl _ _ | apply below_drewN | apply Below.drew | (refine Below.setCell ?_ (by simp; try omega) _) | (refine Below.alloc ?_ (by simp; try omega) _))) h0)).mono ?_
    rintro e w1 ⟨rfl, hw⟩
    have BK6 : Aside0 (w1.heap[w.heap.size]? = some (.cells #[(.int .i64 i), (.float .f64 f), (.float .f64 g)] 27 (0, 0))) := ⟨by rw [← hw, alloc_get, alloc_get, alloc_get]; simp; try omega⟩
    have BK7 : Aside0 (w1.heap[w.heap.size + 1]? = some (.cells #[(.int .i64 i'), (.float .f64 f'), (.float .f64 g')] 27 (0, 0))) := ⟨by rw [← hw, alloc_get, alloc_get, alloc_get]; simp; try omega⟩
    have BK8 : Aside0 (w1.heap[w.heap.size + 2]? = some (.cells #[(.int .i64 0), (.int .i64 0), (.int .i64 0), (.float .f64 0), (.float .f64 0)] 44 (0, 0))) := ⟨by rw [← hw, alloc_get, alloc_get, alloc_get]; simp; try omega⟩
    have BB : Aside0 (Below w.heap.size w w1) := ⟨by rw [← hw]; repeat (first | exact Below.refl _ _ | (refine Below.alloc ?_ (by simp; try omega) _))⟩
    clear hw
    have c60 : w1.cell? ⟨w.heap.size, 0, none⟩ = some (.int .i64 i) := (blk_cell BK6.out 0).trans rfl
    have c61 : w1.cell? ⟨w.heap.size, 1, none⟩ = some (.float .f64 f) := (blk_cell BK6.out 1).trans rfl
    have c62 : w1.cell? ⟨w.heap.size, 2, none⟩ = some (.float .f64 g) := (blk_cell BK6.out 2).trans rfl
    have c70 : w1.cell? ⟨w.heap.size + 1, 0, none⟩ = some (.int .i64 i') := (blk_cell BK7.out 0).trans rfl
    have c71 : w1.cell? ⟨w.heap.size + 1, 1, none⟩ = some (.float .f64 f') := (blk_cell BK7.out 1).trans rfl
    have c72 : w1.cell? ⟨w.heap.size + 1, 2, none⟩ = some (.float .f64 g') := (blk_cell BK7.out 2).trans rfl
    have c80 : w1.cell? ⟨w.heap.size + 2, 0, none⟩ = some (.int .i64 0) := (blk_cell BK8.out 0).trans rfl
    have d80 : w1.frozen? ⟨w.heap.size + 2, 0, none⟩ = false := blk_frozen BK8.out 0
    have c81 : w1.cell? ⟨w.heap.size + 2, 1, none⟩ = some (.int .i64 0) := (blk_cell BK8.out 1).trans rfl
    have d81 : w1.frozen? ⟨w.heap.size + 2, 1, none⟩ = false := blk_frozen BK8.out 1
    have c82 : w1.cell? ⟨w.heap.size + 2, 2, none⟩ = some (.int .i64 0) := (blk_cell BK8.out 2).trans rfl
    have d82 : w1.frozen? ⟨w.heap.size + 2, 2, none⟩ = false := blk_frozen BK8.out 2
    have c83 : w1.cell? ⟨w.heap.size + 2, 3, none⟩ = some (.float .f64 0) := (blk_cell BK8.out 3).trans rfl
    have d83 : w1.frozen? ⟨w.heap.size + 2, 3, none⟩ = false := blk_frozen BK8.out 3
    have c84 : w1.cell? ⟨w.heap.size + 2, 4, none⟩ = some (.float .f64 0) := (blk_cell BK8.out 4).trans rfl
    have d84 : w1.frozen? ⟨w.heap.size + 2, 4, none⟩ = false := blk_frozen BK8.out 4
    go_wp2_with fail
    refine (V1.out _ (Table.holds_below HT.out BB.out h0)).mono ?_
    rintro e w2 ⟨rfl, hb⟩
    replace BK6 := Aside0.mk (blk_below BK6.out hb)
    replace BK7 := Aside0.mk (blk_below BK7.out hb)
    replace BK8 := Aside0.mk (blk_below BK8.out hb)
    replace BB := Aside0.mk (BB.out.trans (hb.mono BB.out.size))
    clear hb
    have c60 : w2.cell? ⟨w.heap.size, 0, none⟩ = some (.int .i64 i) := (blk_cell BK6.out 0).trans rfl
    have c61 : w2.cell? ⟨w.heap.size, 1, none⟩ = some (.float .f64 f) := (blk_cell BK6.out 1).trans rfl
    have c62 : w2.cell? ⟨w.heap.size, 2, none⟩ = some (.float .f64 g) := (blk_cell BK6.out 2).trans rfl
    have c70 : w2.cell? ⟨w.heap.size + 1, 0, none⟩ = some (.int .i64 i') := (blk_cell BK7.out 0).trans rfl
    have c71 : w2.cell? ⟨w.heap.size + 1, 1, none⟩ = some (.float .f64 f') := (blk_cell BK7.out 1).trans rfl
    have c72 : w2.cell? ⟨w.heap.size + 1, 2, none⟩ = some (.float .f64 g') := (blk_cell BK7.out 2).trans rfl
    have c80 : w2.cell? ⟨w.heap.size + 2, 0, none⟩ = some (.int .i64 0) := (blk_cell BK8.out 0).trans rfl
    have d80 : w2.frozen? ⟨w.heap.size + 2, 0, none⟩ = false := blk_frozen BK8.out 0
    have c81 : w2.cell? ⟨w.heap.size + 2, 1, none⟩ = some (.int .i64 0) := (blk_cell BK8.out 1).trans rfl
    have d81 : w2.frozen? ⟨w.heap.size + 2, 1, none⟩ = false := blk_frozen BK8.out 1
    have c82 : w2.cell? ⟨w.heap.size + 2, 2, none⟩ = some (.int .i64 0) := (blk_cell BK8.out 2).trans rfl
    have d82 : w2.frozen? ⟨w.heap.size + 2, 2, none⟩ = false := blk_frozen BK8.out 2
    have c83 : w2.cell? ⟨w.heap.size + 2, 3, none⟩ = some (.float .f64 0) := (blk_cell BK8.out 3).trans rfl
    have d83 : w2.frozen? ⟨w.heap.size + 2, 3, none⟩ = false := blk_frozen BK8.out 3
    have c84 : w2.cell? ⟨w.heap.size + 2, 4, none⟩ = some (.float .f64 0) := (blk_cell BK8.out 4).trans rfl
    have d84 : w2.frozen? ⟨w.heap.size + 2, 4, none⟩ = false := blk_frozen BK8.out 4
    go_wp2_with fail
    refine (V2.out _ (Table.holds_below HT.out BB.out h0)).mono ?_
    rintro e w3 ⟨rfl, hb⟩
    replace BK6 := Aside0.mk (blk_below BK6.out hb)
    replace BK7 := Aside0.mk (blk_below BK7.out hb)
    replace BK8 := Aside0.mk (blk_below BK8.out hb)
    replace BB := Aside0.mk (BB.out.trans (hb.mono BB.out.size))
    clear hb
    have c60 : w3.cell? ⟨w.heap.size, 0, none⟩ = some (.int .i64 i) := (blk_cell BK6.out 0).trans rfl
    have c61 : w3.cell? ⟨w.heap.size, 1, none⟩ = some (.float .f64 f) := (blk_cell BK6.out 1).trans rfl
    have c62 : w3.cell? ⟨w.heap.size, 2, none⟩ = some (.float .f64 g) := (blk_cell BK6.out 2).trans rfl
    have c70 : w3.cell? ⟨w.heap.size + 1, 0, none⟩ = some (.int .i64 i') := (blk_cell BK7.out 0).trans rfl
    have c71 : w3.cell? ⟨w.heap.size + 1, 1, none⟩ = some (.float .f64 f') := (blk_cell BK7.out 1).trans rfl
    have c72 : w3.cell? ⟨w.heap.size + 1, 2, none⟩ = some (.float .f64 g') := (blk_cell BK7.out 2).trans rfl
    have c80 : w3.cell? ⟨w.heap.size + 2, 0, none⟩ = some (.int .i64 0) := (blk_cell BK8.out 0).trans rfl
    have d80 : w3.frozen? ⟨w.heap.size + 2, 0, none⟩ = false := blk_frozen BK8.out 0
    have c81 : w3.cell? ⟨w.heap.size + 2, 1, none⟩ = some (.int .i64 0) := (blk_cell BK8.out 1).trans rfl
    have d81 : w3.frozen? ⟨w.heap.size + 2, 1, none⟩ = false := blk_frozen BK8.out 1
    have c82 : w3.cell? ⟨w.heap.size + 2, 2, none⟩ = some (.int .i64 0) := (blk_cell BK8.out 2).trans rfl
    have d82 : w3.frozen? ⟨w.heap.size + 2, 2, none⟩ = false := blk_frozen BK8.out 2
    have c83 : w3.cell? ⟨w.heap.size + 2, 3, none⟩ = some (.float .f64 0) := (blk_cell BK8.out 3).trans rfl
    have d83 : w3.frozen? ⟨w.heap.size + 2, 3, none⟩ = false := blk_frozen BK8.out 3
    have c84 : w3.cell? ⟨w.heap.size + 2, 4, none⟩ = some (.float .f64 0) := (blk_cell BK8.out 4).trans rfl
    have d84 : w3.frozen? ⟨w.heap.size + 2, 4, none⟩ = false := blk_frozen BK8.out 4
    go_wp2_with fail
    refine bodyPost_ret (results_cell_row rfl _ _ (w.heap.size + 2) 44 _ (0, 0) _ rfl (cell5 BK8.out _ _ _ _ _) Tryd.underlying44 rfl (by kernel_rfl)) rfl ?_
    refine ⟨rfl, ?_⟩
    repeat (first | exact BB.out | apply below_drewN | apply Below.drew | (refine Below.setCell ?_ (by simp; try omega) _))
set_option maxHeartbeats 4000000 in
theorem apply_5_0 (n : Nat) (hn : n < 9) (hk : kindI ((n : Int) + 1) = 0) (i : Int) (f g : Nat) (i' : Int) (f' g' : Nat) (hf : f < 18446744073709551616) (hg : g < 18446744073709551616) (hf' : f' < 18446744073709551616) (hg' : g' < 18446744073709551616) (w : World) (hT : Table.Holds w) (v1 : vcell ((n : Int) + 1) i f g = true) (v2 : vcell ((n : Int) + 1) i' f' g' = true) (hi : i = 0 ∨ i = 1) (hi2 : i' = 0 ∨ i' = 1) :
    Calls Tryd.prog 34 #[.int .i64 5, .int .i64 ((n : Int) + 1), .agg #[.int .i64 i, .float .f64 f, .float .f64 g], .agg #[.int .i64 i', .float .f64 f', .float .f64 g']] w (Ans 0 ((n : Int) + 1) (min i i') 0 0 w) := by
  have h0 : 0 < w.heap.size := World.block_lt_of_cell? w _ (hT 0 0 (by omega) (by omega))
  have HT := Lib.hid hT
  have S := Lib.hid (fun w (hT : Table.Holds w) => serves_run 5 ((n : Int) + 1) (by simp) w hT)
  have V1 := Lib.hid (fun w (hT : Table.Holds w) => impl_vcell ((n : Int) + 1) i f g hf hg w hT)
  have V2 := Lib.hid (fun w (hT : Table.Holds w) => impl_vcell ((n : Int) + 1) i' f' g' hf' hg' w hT)
  have hs : serv 5 ((n : Int) + 1) = true := by unfold serv; rw [hk, show isdt ((n : Int) + 1) = true by simp [isdt]; omega]; decide
  have S := Lib.hid (show ∀ w, Table.Holds w → Calls Tryd.prog 96 #[.int .i64 5, .int .i64 ((n : Int) + 1)] w fun e w' => e = .returned (.bool true) ∧ w = w' from fun w h => by have := S.out w h; rw [hs] at this; exact this)
  have V1 := Lib.hid (show ∀ w, Table.Holds w → Calls Tryd.prog 19 #[.int .i64 ((n : Int) + 1), .agg #[.int .i64 i, .float .f64 f, .float .f64 g]] w fun e w' => e = .returned (.bool true) ∧ Below w.heap.size w w' from fun w h => by have := V1.out w h; rw [v1] at this; exact this)
  have V2 := Lib.hid (show ∀ w, Table.Holds w → Calls Tryd.prog 19 #[.int .i64 ((n : Int) + 1), .agg #[.int .i64 i', .float .f64 f', .float .f64 g']] w fun e w' => e = .returned (.bool true) ∧ Below w.heap.size w w' from fun w h => by have := V2.out w h; rw [v2] at this; exact this)
  have hz : 0 < w.heap.size := h0
  have hns : ((n : Int) + 1).toNat = n + 1 := by omega
  have hlt : (n : Int) + 1 < 10 := by omega
  have hz1 : ¬ 0 = w.heap.size := by omega
  have hz2 : ¬ 0 = w.heap.size + 1 := by omega
  have hz3 : ¬ 0 = w.heap.size + 2 := by omega
  have O := Lib.hid (fun w => bool_op 5 i i' (by simp) hi hi2 w)
  clear hT v1 v2 hs hf hg hf' hg' hi hi2
  go_enter Tryd.func34, Tryd.ntmps34
  go_wp2_with fail
  refine (S.out _ (Table.holds_below HT.out (by repeat (first | exact Below.refl _ _ | apply below_drewN | apply Below.drew | (refine Below.setCell ?_ (by simp; try omega) _) | (refine Below.alloc ?_ (by simp; try omega) _))) h0)).mono ?_
  rintro e w1 ⟨rfl, hw⟩
  have BK6 : Aside0 (w1.heap[w.heap.size]? = some (.cells #[(.int .i64 i), (.float .f64 f), (.float .f64 g)] 27 (0, 0))) := ⟨by rw [← hw, alloc_get, alloc_get, alloc_get]; simp; try omega⟩
  have BK7 : Aside0 (w1.heap[w.heap.size + 1]? = some (.cells #[(.int .i64 i'), (.float .f64 f'), (.float .f64 g')] 27 (0, 0))) := ⟨by rw [← hw, alloc_get, alloc_get, alloc_get]; simp; try omega⟩
  have BK8 : Aside0 (w1.heap[w.heap.size + 2]? = some (.cells #[(.int .i64 0), (.int .i64 0), (.int .i64 0), (.float .f64 0), (.float .f64 0)] 44 (0, 0))) := ⟨by rw [← hw, alloc_get, alloc_get, alloc_get]; simp; try omega⟩
  have BB : Aside0 (Below w.heap.size w w1) := ⟨by rw [← hw]; repeat (first | exact Below.refl _ _ | (refine Below.alloc ?_ (by simp; try omega) _))⟩
  clear hw
  have c60 : w1.cell? ⟨w.heap.size, 0, none⟩ = some (.int .i64 i) := (blk_cell BK6.out 0).trans rfl
  have c61 : w1.cell? ⟨w.heap.size, 1, none⟩ = some (.float .f64 f) := (blk_cell BK6.out 1).trans rfl
  have c62 : w1.cell? ⟨w.heap.size, 2, none⟩ = some (.float .f64 g) := (blk_cell BK6.out 2).trans rfl
  have c70 : w1.cell? ⟨w.heap.size + 1, 0, none⟩ = some (.int .i64 i') := (blk_cell BK7.out 0).trans rfl
  have c71 : w1.cell? ⟨w.heap.size + 1, 1, none⟩ = some (.float .f64 f') := (blk_cell BK7.out 1).trans rfl
  have c72 : w1.cell? ⟨w.heap.size + 1, 2, none⟩ = some (.float .f64 g') := (blk_cell BK7.out 2).trans rfl
  have c80 : w1.cell? ⟨w.heap.size + 2, 0, none⟩ = some (.int .i64 0) := (blk_cell BK8.out 0).trans rfl
  have d80 : w1.frozen? ⟨w.heap.size + 2, 0, none⟩ = false := blk_frozen BK8.out 0
  have c81 : w1.cell? ⟨w.heap.size + 2, 1, none⟩ = some (.int .i64 0) := (blk_cell BK8.out 1).trans rfl
  have d81 : w1.frozen? ⟨w.heap.size + 2, 1, none⟩ = false := blk_frozen BK8.out 1
  have c82 : w1.cell? ⟨w.heap.size + 2, 2, none⟩ = some (.int .i64 0) := (blk_cell BK8.out 2).trans rfl
  have d82 : w1.frozen? ⟨w.heap.size + 2, 2, none⟩ = false := blk_frozen BK8.out 2
  have c83 : w1.cell? ⟨w.heap.size + 2, 3, none⟩ = some (.float .f64 0) := (blk_cell BK8.out 3).trans rfl
  have d83 : w1.frozen? ⟨w.heap.size + 2, 3, none⟩ = false := blk_frozen BK8.out 3
  have c84 : w1.cell? ⟨w.heap.size + 2, 4, none⟩ = some (.float .f64 0) := (blk_cell BK8.out 4).trans rfl
  have d84 : w1.frozen? ⟨w.heap.size + 2, 4, none⟩ = false := blk_frozen BK8.out 4
  have r0 : w1.cell? ⟨0, (n + 1) * 5, none⟩ = some (.int .i64 (kindI ((n : Int) + 1))) := (row_of (Table.holds_below HT.out BB.out h0) n hn).1
  rw [hk] at r0
  go_wp2_with fail
  refine (V1.out _ (Table.holds_below HT.out BB.out h0)).mono ?_
  rintro e w2 ⟨rfl, hb⟩
  replace BK6 := Aside0.mk (blk_below BK6.out hb)
  replace BK7 := Aside0.mk (blk_below BK7.out hb)
  replace BK8 := Aside0.mk (blk_below BK8.out hb)
  replace BB := Aside0.mk (BB.out.trans (hb.mono BB.out.size))
  clear hb
  have c60 : w2.cell? ⟨w.heap.size, 0, none⟩ = some (.int .i64 i) := (blk_cell BK6.out 0).trans rfl
  have c61 : w2.cell? ⟨w.heap.size, 1, none⟩ = some (.float .f64 f) := (blk_cell BK6.out 1).trans rfl
  have c62 : w2.cell? ⟨w.heap.size, 2, none⟩ = some (.float .f64 g) := (blk_cell BK6.out 2).trans rfl
  have c70 : w2.cell? ⟨w.heap.size + 1, 0, none⟩ = some (.int .i64 i') := (blk_cell BK7.out 0).trans rfl
  have c71 : w2.cell? ⟨w.heap.size + 1, 1, none⟩ = some (.float .f64 f') := (blk_cell BK7.out 1).trans rfl
  have c72 : w2.cell? ⟨w.heap.size + 1, 2, none⟩ = some (.float .f64 g') := (blk_cell BK7.out 2).trans rfl
  have c80 : w2.cell? ⟨w.heap.size + 2, 0, none⟩ = some (.int .i64 0) := (blk_cell BK8.out 0).trans rfl
  have d80 : w2.frozen? ⟨w.heap.size + 2, 0, none⟩ = false := blk_frozen BK8.out 0
  have c81 : w2.cell? ⟨w.heap.size + 2, 1, none⟩ = some (.int .i64 0) := (blk_cell BK8.out 1).trans rfl
  have d81 : w2.frozen? ⟨w.heap.size + 2, 1, none⟩ = false := blk_frozen BK8.out 1
  have c82 : w2.cell? ⟨w.heap.size + 2, 2, none⟩ = some (.int .i64 0) := (blk_cell BK8.out 2).trans rfl
  have d82 : w2.frozen? ⟨w.heap.size + 2, 2, none⟩ = false := blk_frozen BK8.out 2
  have c83 : w2.cell? ⟨w.heap.size + 2, 3, none⟩ = some (.float .f64 0) := (blk_cell BK8.out 3).trans rfl
  have d83 : w2.frozen? ⟨w.heap.size + 2, 3, none⟩ = false := blk_frozen BK8.out 3
  have c84 : w2.cell? ⟨w.heap.size + 2, 4, none⟩ = some (.float .f64 0) := (blk_cell BK8.out 4).trans rfl
  have d84 : w2.frozen? ⟨w.heap.size + 2, 4, none⟩ = false := blk_frozen BK8.out 4
  have r0 : w2.cell? ⟨0, (n + 1) * 5, none⟩ = some (.int .i64 (kindI ((n : Int) + 1))) := (row_of (Table.holds_below HT.out BB.out h0) n hn).1
  rw [hk] at r0
  go_wp2_with fail
  refine (V2.out _ (Table.holds_below HT.out BB.out h0)).mono ?_
  rintro e w3 ⟨rfl, hb⟩
  replace BK6 := Aside0.mk (blk_below BK6.out hb)
  replace BK7 := Aside0.mk (blk_below BK7.out hb)
  replace BK8 := Aside0.mk (blk_below BK8.out hb)
  replace BB := Aside0.mk (BB.out.trans (hb.mono BB.out.size))
  clear hb
  have c60 : w3.cell? ⟨w.heap.size, 0, none⟩ = some (.int .i64 i) := (blk_cell BK6.out 0).trans rfl
  have c61 : w3.cell? ⟨w.heap.size, 1, none⟩ = some (.float .f64 f) := (blk_cell BK6.out 1).trans rfl
  have c62 : w3.cell? ⟨w.heap.size, 2, none⟩ = some (.float .f64 g) := (blk_cell BK6.out 2).trans rfl
  have c70 : w3.cell? ⟨w.heap.size + 1, 0, none⟩ = some (.int .i64 i') := (blk_cell BK7.out 0).trans rfl
  have c71 : w3.cell? ⟨w.heap.size + 1, 1, none⟩ = some (.float .f64 f') := (blk_cell BK7.out 1).trans rfl
  have c72 : w3.cell? ⟨w.heap.size + 1, 2, none⟩ = some (.float .f64 g') := (blk_cell BK7.out 2).trans rfl
  have c80 : w3.cell? ⟨w.heap.size + 2, 0, none⟩ = some (.int .i64 0) := (blk_cell BK8.out 0).trans rfl
  have d80 : w3.frozen? ⟨w.heap.size + 2, 0, none⟩ = false := blk_frozen BK8.out 0
  have c81 : w3.cell? ⟨w.heap.size + 2, 1, none⟩ = some (.int .i64 0) := (blk_cell BK8.out 1).trans rfl
  have d81 : w3.frozen? ⟨w.heap.size + 2, 1, none⟩ = false := blk_frozen BK8.out 1
  have c82 : w3.cell? ⟨w.heap.size + 2, 2, none⟩ = some (.int .i64 0) := (blk_cell BK8.out 2).trans rfl
  have d82 : w3.frozen? ⟨w.heap.size + 2, 2, none⟩ = false := blk_frozen BK8.out 2
  have c83 : w3.cell? ⟨w.heap.size + 2, 3, none⟩ = some (.float .f64 0) := (blk_cell BK8.out 3).trans rfl
  have d83 : w3.frozen? ⟨w.heap.size + 2, 3, none⟩ = false := blk_frozen BK8.out 3
  have c84 : w3.cell? ⟨w.heap.size + 2, 4, none⟩ = some (.float .f64 0) := (blk_cell BK8.out 4).trans rfl
  have d84 : w3.frozen? ⟨w.heap.size + 2, 4, none⟩ = false := blk_frozen BK8.out 4
  have r0 : w3.cell? ⟨0, (n + 1) * 5, none⟩ = some (.int .i64 (kindI ((n : Int) + 1))) := (row_of (Table.holds_below HT.out BB.out h0) n hn).1
  rw [hk] at r0
  go_wp2_with fail
  refine (O.out _).mono ?_
  rintro e w4 ⟨rfl, rfl⟩
  go_wp2_with fail
  refine (int_cell _ _).mono ?_
  rintro e w5 ⟨rfl, hb⟩
  replace BK6 := Aside0.mk (blk_below BK6.out hb)
  replace BK7 := Aside0.mk (blk_below BK7.out hb)
  replace BK8 := Aside0.mk (blk_below BK8.out hb)
  replace BB := Aside0.mk (BB.out.trans (hb.mono BB.out.size))
  clear hb
  have c60 : w5.cell? ⟨w.heap.size, 0, none⟩ = some (.int .i64 i) := (blk_cell BK6.out 0).trans rfl
  have c61 : w5.cell? ⟨w.heap.size, 1, none⟩ = some (.float .f64 f) := (blk_cell BK6.out 1).trans rfl
  have c62 : w5.cell? ⟨w.heap.size, 2, none⟩ = some (.float .f64 g) := (blk_cell BK6.out 2).trans rfl
  have c70 : w5.cell? ⟨w.heap.size + 1, 0, none⟩ = some (.int .i64 i') := (blk_cell BK7.out 0).trans rfl
  have c71 : w5.cell? ⟨w.heap.size + 1, 1, none⟩ = some (.float .f64 f') := (blk_cell BK7.out 1).trans rfl
  have c72 : w5.cell? ⟨w.heap.size + 1, 2, none⟩ = some (.float .f64 g') := (blk_cell BK7.out 2).trans rfl
  have c80 : w5.cell? ⟨w.heap.size + 2, 0, none⟩ = some (.int .i64 0) := (blk_cell BK8.out 0).trans rfl
  have d80 : w5.frozen? ⟨w.heap.size + 2, 0, none⟩ = false := blk_frozen BK8.out 0
  have c81 : w5.cell? ⟨w.heap.size + 2, 1, none⟩ = some (.int .i64 0) := (blk_cell BK8.out 1).trans rfl
  have d81 : w5.frozen? ⟨w.heap.size + 2, 1, none⟩ = false := blk_frozen BK8.out 1
  have c82 : w5.cell? ⟨w.heap.size + 2, 2, none⟩ = some (.int .i64 0) := (blk_cell BK8.out 2).trans rfl
  have d82 : w5.frozen? ⟨w.heap.size + 2, 2, none⟩ = false := blk_frozen BK8.out 2
  have c83 : w5.cell? ⟨w.heap.size + 2, 3, none⟩ = some (.float .f64 0) := (blk_cell BK8.out 3).trans rfl
  have d83 : w5.frozen? ⟨w.heap.size + 2, 3, none⟩ = false := blk_frozen BK8.out 3
  have c84 : w5.cell? ⟨w.heap.size + 2, 4, none⟩ = some (.float .f64 0) := (blk_cell BK8.out 4).trans rfl
  have d84 : w5.frozen? ⟨w.heap.size + 2, 4, none⟩ = false := blk_frozen BK8.out 4
  have r0 : w5.cell? ⟨0, (n + 1) * 5, none⟩ = some (.int .i64 (kindI ((n : Int) + 1))) := (row_of (Table.holds_below HT.out BB.out h0) n hn).1
  go_wp2_with fail
  refine bodyPost_ret (results_cell_row rfl _ _ (w.heap.size + 2) 44 _ (0, 0) _ rfl (cell5 BK8.out _ _ _ _ _) Tryd.underlying44 rfl (by kernel_rfl)) rfl ?_
  refine ⟨rfl, ?_⟩
  repeat (first | exact BB.out | apply below_drewN | apply Below.drew | (refine Below.setCell ?_ (by simp; try omega) _))
set_option maxHeartbeats 4000000 in
theorem apply_5_1 (n : Nat) (hn : n < 9) (hk : kindI ((n : Int) + 1) = 1) (i : Int) (f g : Nat) (i' : Int) (f' g' : Nat) (hf : f < 18446744073709551616) (hg : g < 18446744073709551616) (hf' : f' < 18446744073709551616) (hg' : g' < 18446744073709551616) (w : World) (hT : Table.Holds w) (v1 : vcell ((n : Int) + 1) i f g = true) (v2 : vcell ((n : Int) + 1) i' f' g' = true) :
    Calls Tryd.prog 34 #[.int .i64 5, .int .i64 ((n : Int) + 1), .agg #[.int .i64 i, .float .f64 f, .float .f64 g], .agg #[.int .i64 i', .float .f64 f', .float .f64 g']] w (Ans 0 ((n : Int) + 1) (min i i') 0 0 w) := by
  have h0 : 0 < w.heap.size := World.block_lt_of_cell? w _ (hT 0 0 (by omega) (by omega))
  have HT := Lib.hid hT
  have S := Lib.hid (fun w (hT : Table.Holds w) => serves_run 5 ((n : Int) + 1) (by simp) w hT)
  have V1 := Lib.hid (fun w (hT : Table.Holds w) => impl_vcell ((n : Int) + 1) i f g hf hg w hT)
  have V2 := Lib.hid (fun w (hT : Table.Holds w) => impl_vcell ((n : Int) + 1) i' f' g' hf' hg' w hT)
  have hs : serv 5 ((n : Int) + 1) = true := by unfold serv; rw [hk, show isdt ((n : Int) + 1) = true by simp [isdt]; omega]; decide
  have S := Lib.hid (show ∀ w, Table.Holds w → Calls Tryd.prog 96 #[.int .i64 5, .int .i64 ((n : Int) + 1)] w fun e w' => e = .returned (.bool true) ∧ w = w' from fun w h => by have := S.out w h; rw [hs] at this; exact this)
  have V1 := Lib.hid (show ∀ w, Table.Holds w → Calls Tryd.prog 19 #[.int .i64 ((n : Int) + 1), .agg #[.int .i64 i, .float .f64 f, .float .f64 g]] w fun e w' => e = .returned (.bool true) ∧ Below w.heap.size w w' from fun w h => by have := V1.out w h; rw [v1] at this; exact this)
  have V2 := Lib.hid (show ∀ w, Table.Holds w → Calls Tryd.prog 19 #[.int .i64 ((n : Int) + 1), .agg #[.int .i64 i', .float .f64 f', .float .f64 g']] w fun e w' => e = .returned (.bool true) ∧ Below w.heap.size w w' from fun w h => by have := V2.out w h; rw [v2] at this; exact this)
  have hz : 0 < w.heap.size := h0
  have hns : ((n : Int) + 1).toNat = n + 1 := by omega
  have hlt : (n : Int) + 1 < 10 := by omega
  have hz1 : ¬ 0 = w.heap.size := by omega
  have hz2 : ¬ 0 = w.heap.size + 1 := by omega
  have hz3 : ¬ 0 = w.heap.size + 2 := by omega
  have O := Lib.hid (fun w (hT : Table.Holds w) => int_op 5 i i' n hn (by simp) w hT)
  clear hT v1 v2 hs hf hg hf' hg'
  go_enter Tryd.func34, Tryd.ntmps34
  go_wp2_with fail
  refine (S.out _ (Table.holds_below HT.out (by repeat (first | exact Below.refl _ _ | apply below_drewN | apply Below.drew | (refine Below.setCell ?_ (by simp; try omega) _) | (refine Below.alloc ?_ (by simp; try omega) _))) h0)).mono ?_
  rintro e w1 ⟨rfl, hw⟩
  have BK6 : Aside0 (w1.heap[w.heap.size]? = some (.cells #[(.int .i64 i), (.float .f64 f), (.float .f64 g)] 27 (0, 0))) := ⟨by rw [← hw, alloc_get, alloc_get, alloc_get]; simp; try omega⟩
  have BK7 : Aside0 (w1.heap[w.heap.size + 1]? = some (.cells #[(.int .i64 i'), (.float .f64 f'), (.float .f64 g')] 27 (0, 0))) := ⟨by rw [← hw, alloc_get, alloc_get, alloc_get]; simp; try omega⟩
  have BK8 : Aside0 (w1.heap[w.heap.size + 2]? = some (.cells #[(.int .i64 0), (.int .i64 0), (.int .i64 0), (.float .f64 0), (.float .f64 0)] 44 (0, 0))) := ⟨by rw [← hw, alloc_get, alloc_get, alloc_get]; simp; try omega⟩
  have BB : Aside0 (Below w.heap.size w w1) := ⟨by rw [← hw]; repeat (first | exact Below.refl _ _ | (refine Below.alloc ?_ (by simp; try omega) _))⟩
  clear hw
  have c60 : w1.cell? ⟨w.heap.size, 0, none⟩ = some (.int .i64 i) := (blk_cell BK6.out 0).trans rfl
  have c61 : w1.cell? ⟨w.heap.size, 1, none⟩ = some (.float .f64 f) := (blk_cell BK6.out 1).trans rfl
  have c62 : w1.cell? ⟨w.heap.size, 2, none⟩ = some (.float .f64 g) := (blk_cell BK6.out 2).trans rfl
  have c70 : w1.cell? ⟨w.heap.size + 1, 0, none⟩ = some (.int .i64 i') := (blk_cell BK7.out 0).trans rfl
  have c71 : w1.cell? ⟨w.heap.size + 1, 1, none⟩ = some (.float .f64 f') := (blk_cell BK7.out 1).trans rfl
  have c72 : w1.cell? ⟨w.heap.size + 1, 2, none⟩ = some (.float .f64 g') := (blk_cell BK7.out 2).trans rfl
  have c80 : w1.cell? ⟨w.heap.size + 2, 0, none⟩ = some (.int .i64 0) := (blk_cell BK8.out 0).trans rfl
  have d80 : w1.frozen? ⟨w.heap.size + 2, 0, none⟩ = false := blk_frozen BK8.out 0
  have c81 : w1.cell? ⟨w.heap.size + 2, 1, none⟩ = some (.int .i64 0) := (blk_cell BK8.out 1).trans rfl
  have d81 : w1.frozen? ⟨w.heap.size + 2, 1, none⟩ = false := blk_frozen BK8.out 1
  have c82 : w1.cell? ⟨w.heap.size + 2, 2, none⟩ = some (.int .i64 0) := (blk_cell BK8.out 2).trans rfl
  have d82 : w1.frozen? ⟨w.heap.size + 2, 2, none⟩ = false := blk_frozen BK8.out 2
  have c83 : w1.cell? ⟨w.heap.size + 2, 3, none⟩ = some (.float .f64 0) := (blk_cell BK8.out 3).trans rfl
  have d83 : w1.frozen? ⟨w.heap.size + 2, 3, none⟩ = false := blk_frozen BK8.out 3
  have c84 : w1.cell? ⟨w.heap.size + 2, 4, none⟩ = some (.float .f64 0) := (blk_cell BK8.out 4).trans rfl
  have d84 : w1.frozen? ⟨w.heap.size + 2, 4, none⟩ = false := blk_frozen BK8.out 4
  have r0 : w1.cell? ⟨0, (n + 1) * 5, none⟩ = some (.int .i64 (kindI ((n : Int) + 1))) := (row_of (Table.holds_below HT.out BB.out h0) n hn).1
  rw [hk] at r0
  go_wp2_with fail
  refine (V1.out _ (Table.holds_below HT.out BB.out h0)).mono ?_
  rintro e w2 ⟨rfl, hb⟩
  replace BK6 := Aside0.mk (blk_below BK6.out hb)
  replace BK7 := Aside0.mk (blk_below BK7.out hb)
  replace BK8 := Aside0.mk (blk_below BK8.out hb)
  replace BB := Aside0.mk (BB.out.trans (hb.mono BB.out.size))
  clear hb
  have c60 : w2.cell? ⟨w.heap.size, 0, none⟩ = some (.int .i64 i) := (blk_cell BK6.out 0).trans rfl
  have c61 : w2.cell? ⟨w.heap.size, 1, none⟩ = some (.float .f64 f) := (blk_cell BK6.out 1).trans rfl
  have c62 : w2.cell? ⟨w.heap.size, 2, none⟩ = some (.float .f64 g) := (blk_cell BK6.out 2).trans rfl
  have c70 : w2.cell? ⟨w.heap.size + 1, 0, none⟩ = some (.int .i64 i') := (blk_cell BK7.out 0).trans rfl
  have c71 : w2.cell? ⟨w.heap.size + 1, 1, none⟩ = some (.float .f64 f') := (blk_cell BK7.out 1).trans rfl
  have c72 : w2.cell? ⟨w.heap.size + 1, 2, none⟩ = some (.float .f64 g') := (blk_cell BK7.out 2).trans rfl
  have c80 : w2.cell? ⟨w.heap.size + 2, 0, none⟩ = some (.int .i64 0) := (blk_cell BK8.out 0).trans rfl
  have d80 : w2.frozen? ⟨w.heap.size + 2, 0, none⟩ = false := blk_frozen BK8.out 0
  have c81 : w2.cell? ⟨w.heap.size + 2, 1, none⟩ = some (.int .i64 0) := (blk_cell BK8.out 1).trans rfl
  have d81 : w2.frozen? ⟨w.heap.size + 2, 1, none⟩ = false := blk_frozen BK8.out 1
  have c82 : w2.cell? ⟨w.heap.size + 2, 2, none⟩ = some (.int .i64 0) := (blk_cell BK8.out 2).trans rfl
  have d82 : w2.frozen? ⟨w.heap.size + 2, 2, none⟩ = false := blk_frozen BK8.out 2
  have c83 : w2.cell? ⟨w.heap.size + 2, 3, none⟩ = some (.float .f64 0) := (blk_cell BK8.out 3).trans rfl
  have d83 : w2.frozen? ⟨w.heap.size + 2, 3, none⟩ = false := blk_frozen BK8.out 3
  have c84 : w2.cell? ⟨w.heap.size + 2, 4, none⟩ = some (.float .f64 0) := (blk_cell BK8.out 4).trans rfl
  have d84 : w2.frozen? ⟨w.heap.size + 2, 4, none⟩ = false := blk_frozen BK8.out 4
  have r0 : w2.cell? ⟨0, (n + 1) * 5, none⟩ = some (.int .i64 (kindI ((n : Int) + 1))) := (row_of (Table.holds_below HT.out BB.out h0) n hn).1
  rw [hk] at r0
  go_wp2_with fail
  refine (V2.out _ (Table.holds_below HT.out BB.out h0)).mono ?_
  rintro e w3 ⟨rfl, hb⟩
  replace BK6 := Aside0.mk (blk_below BK6.out hb)
  replace BK7 := Aside0.mk (blk_below BK7.out hb)
  replace BK8 := Aside0.mk (blk_below BK8.out hb)
  replace BB := Aside0.mk (BB.out.trans (hb.mono BB.out.size))
  clear hb
  have c60 : w3.cell? ⟨w.heap.size, 0, none⟩ = some (.int .i64 i) := (blk_cell BK6.out 0).trans rfl
  have c61 : w3.cell? ⟨w.heap.size, 1, none⟩ = some (.float .f64 f) := (blk_cell BK6.out 1).trans rfl
  have c62 : w3.cell? ⟨w.heap.size, 2, none⟩ = some (.float .f64 g) := (blk_cell BK6.out 2).trans rfl
  have c70 : w3.cell? ⟨w.heap.size + 1, 0, none⟩ = some (.int .i64 i') := (blk_cell BK7.out 0).trans rfl
  have c71 : w3.cell? ⟨w.heap.size + 1, 1, none⟩ = some (.float .f64 f') := (blk_cell BK7.out 1).trans rfl
  have c72 : w3.cell? ⟨w.heap.size + 1, 2, none⟩ = some (.float .f64 g') := (blk_cell BK7.out 2).trans rfl
  have c80 : w3.cell? ⟨w.heap.size + 2, 0, none⟩ = some (.int .i64 0) := (blk_cell BK8.out 0).trans rfl
  have d80 : w3.frozen? ⟨w.heap.size + 2, 0, none⟩ = false := blk_frozen BK8.out 0
  have c81 : w3.cell? ⟨w.heap.size + 2, 1, none⟩ = some (.int .i64 0) := (blk_cell BK8.out 1).trans rfl
  have d81 : w3.frozen? ⟨w.heap.size + 2, 1, none⟩ = false := blk_frozen BK8.out 1
  have c82 : w3.cell? ⟨w.heap.size + 2, 2, none⟩ = some (.int .i64 0) := (blk_cell BK8.out 2).trans rfl
  have d82 : w3.frozen? ⟨w.heap.size + 2, 2, none⟩ = false := blk_frozen BK8.out 2
  have c83 : w3.cell? ⟨w.heap.size + 2, 3, none⟩ = some (.float .f64 0) := (blk_cell BK8.out 3).trans rfl
  have d83 : w3.frozen? ⟨w.heap.size + 2, 3, none⟩ = false := blk_frozen BK8.out 3
  have c84 : w3.cell? ⟨w.heap.size + 2, 4, none⟩ = some (.float .f64 0) := (blk_cell BK8.out 4).trans rfl
  have d84 : w3.frozen? ⟨w.heap.size + 2, 4, none⟩ = false := blk_frozen BK8.out 4
  have r0 : w3.cell? ⟨0, (n + 1) * 5, none⟩ = some (.int .i64 (kindI ((n : Int) + 1))) := (row_of (Table.holds_below HT.out BB.out h0) n hn).1
  rw [hk] at r0
  go_wp2_with fail
  refine (O.out _ (Table.holds_below HT.out BB.out h0)).mono ?_
  rintro e w4 ⟨rfl, rfl⟩
  go_wp2_with fail
  refine (int_cell _ _).mono ?_
  rintro e w5 ⟨rfl, hb⟩
  replace BK6 := Aside0.mk (blk_below BK6.out hb)
  replace BK7 := Aside0.mk (blk_below BK7.out hb)
  replace BK8 := Aside0.mk (blk_below BK8.out hb)
  replace BB := Aside0.mk (BB.out.trans (hb.mono BB.out.size))
  clear hb
  have c60 : w5.cell? ⟨w.heap.size, 0, none⟩ = some (.int .i64 i) := (blk_cell BK6.out 0).trans rfl
  have c61 : w5.cell? ⟨w.heap.size, 1, none⟩ = some (.float .f64 f) := (blk_cell BK6.out 1).trans rfl
  have c62 : w5.cell? ⟨w.heap.size, 2, none⟩ = some (.float .f64 g) := (blk_cell BK6.out 2).trans rfl
  have c70 : w5.cell? ⟨w.heap.size + 1, 0, none⟩ = some (.int .i64 i') := (blk_cell BK7.out 0).trans rfl
  have c71 : w5.cell? ⟨w.heap.size + 1, 1, none⟩ = some (.float .f64 f') := (blk_cell BK7.out 1).trans rfl
  have c72 : w5.cell? ⟨w.heap.size + 1, 2, none⟩ = some (.float .f64 g') := (blk_cell BK7.out 2).trans rfl
  have c80 : w5.cell? ⟨w.heap.size + 2, 0, none⟩ = some (.int .i64 0) := (blk_cell BK8.out 0).trans rfl
  have d80 : w5.frozen? ⟨w.heap.size + 2, 0, none⟩ = false := blk_frozen BK8.out 0
  have c81 : w5.cell? ⟨w.heap.size + 2, 1, none⟩ = some (.int .i64 0) := (blk_cell BK8.out 1).trans rfl
  have d81 : w5.frozen? ⟨w.heap.size + 2, 1, none⟩ = false := blk_frozen BK8.out 1
  have c82 : w5.cell? ⟨w.heap.size + 2, 2, none⟩ = some (.int .i64 0) := (blk_cell BK8.out 2).trans rfl
  have d82 : w5.frozen? ⟨w.heap.size + 2, 2, none⟩ = false := blk_frozen BK8.out 2
  have c83 : w5.cell? ⟨w.heap.size + 2, 3, none⟩ = some (.float .f64 0) := (blk_cell BK8.out 3).trans rfl
  have d83 : w5.frozen? ⟨w.heap.size + 2, 3, none⟩ = false := blk_frozen BK8.out 3
  have c84 : w5.cell? ⟨w.heap.size + 2, 4, none⟩ = some (.float .f64 0) := (blk_cell BK8.out 4).trans rfl
  have d84 : w5.frozen? ⟨w.heap.size + 2, 4, none⟩ = false := blk_frozen BK8.out 4
  have r0 : w5.cell? ⟨0, (n + 1) * 5, none⟩ = some (.int .i64 (kindI ((n : Int) + 1))) := (row_of (Table.holds_below HT.out BB.out h0) n hn).1
  go_wp2_with fail
  refine bodyPost_ret (results_cell_row rfl _ _ (w.heap.size + 2) 44 _ (0, 0) _ rfl (cell5 BK8.out _ _ _ _ _) Tryd.underlying44 rfl (by kernel_rfl)) rfl ?_
  refine ⟨rfl, ?_⟩
  repeat (first | exact BB.out | apply below_drewN | apply Below.drew | (refine Below.setCell ?_ (by simp; try omega) _))
set_option maxHeartbeats 4000000 in
theorem apply_5_2 (n : Nat) (hn : n < 9) (hk : kindI ((n : Int) + 1) = 2) (i : Int) (f g : Nat) (i' : Int) (f' g' : Nat) (hf : f < 18446744073709551616) (hg : g < 18446744073709551616) (hf' : f' < 18446744073709551616) (hg' : g' < 18446744073709551616) (w : World) (hT : Table.Holds w) (v1 : vcell ((n : Int) + 1) i f g = true) (v2 : vcell ((n : Int) + 1) i' f' g' = true) :
    Calls Tryd.prog 34 #[.int .i64 5, .int .i64 ((n : Int) + 1), .agg #[.int .i64 i, .float .f64 f, .float .f64 g], .agg #[.int .i64 i', .float .f64 f', .float .f64 g']] w (fun e w' => ∃ x, MM 5 f f' x ∧ Ans 0 ((n : Int) + 1) 0 x 0 w e w') := by
  have h0 : 0 < w.heap.size := World.block_lt_of_cell? w _ (hT 0 0 (by omega) (by omega))
  have HT := Lib.hid hT
  have S := Lib.hid (fun w (hT : Table.Holds w) => serves_run 5 ((n : Int) + 1) (by simp) w hT)
  have V1 := Lib.hid (fun w (hT : Table.Holds w) => impl_vcell ((n : Int) + 1) i f g hf hg w hT)
  have V2 := Lib.hid (fun w (hT : Table.Holds w) => impl_vcell ((n : Int) + 1) i' f' g' hf' hg' w hT)
  have hs : serv 5 ((n : Int) + 1) = true := by unfold serv; rw [hk, show isdt ((n : Int) + 1) = true by simp [isdt]; omega]; decide
  have S := Lib.hid (show ∀ w, Table.Holds w → Calls Tryd.prog 96 #[.int .i64 5, .int .i64 ((n : Int) + 1)] w fun e w' => e = .returned (.bool true) ∧ w = w' from fun w h => by have := S.out w h; rw [hs] at this; exact this)
  have V1 := Lib.hid (show ∀ w, Table.Holds w → Calls Tryd.prog 19 #[.int .i64 ((n : Int) + 1), .agg #[.int .i64 i, .float .f64 f, .float .f64 g]] w fun e w' => e = .returned (.bool true) ∧ Below w.heap.size w w' from fun w h => by have := V1.out w h; rw [v1] at this; exact this)
  have V2 := Lib.hid (show ∀ w, Table.Holds w → Calls Tryd.prog 19 #[.int .i64 ((n : Int) + 1), .agg #[.int .i64 i', .float .f64 f', .float .f64 g']] w fun e w' => e = .returned (.bool true) ∧ Below w.heap.size w w' from fun w h => by have := V2.out w h; rw [v2] at this; exact this)
  have hz : 0 < w.heap.size := h0
  have hns : ((n : Int) + 1).toNat = n + 1 := by omega
  have hlt : (n : Int) + 1 < 10 := by omega
  have hz1 : ¬ 0 = w.heap.size := by omega
  have hz2 : ¬ 0 = w.heap.size + 1 := by omega
  have hz3 : ¬ 0 = w.heap.size + 2 := by omega
  have O := Lib.hid (fun w => float_op 5 ((n : Int) + 1) f f' (by simp) hf hf' w)
  clear hT v1 v2 hs hf hg hf' hg'
  go_enter Tryd.func34, Tryd.ntmps34
  go_wp2_with fail
  refine (S.out _ (Table.holds_below HT.out (by repeat (first | exact Below.refl _ _ | apply below_drewN | apply Below.drew | (refine Below.setCell ?_ (by simp; try omega) _) | (refine Below.alloc ?_ (by simp; try omega) _))) h0)).mono ?_
  rintro e w1 ⟨rfl, hw⟩
  have BK6 : Aside0 (w1.heap[w.heap.size]? = some (.cells #[(.int .i64 i), (.float .f64 f), (.float .f64 g)] 27 (0, 0))) := ⟨by rw [← hw, alloc_get, alloc_get, alloc_get]; simp; try omega⟩
  have BK7 : Aside0 (w1.heap[w.heap.size + 1]? = some (.cells #[(.int .i64 i'), (.float .f64 f'), (.float .f64 g')] 27 (0, 0))) := ⟨by rw [← hw, alloc_get, alloc_get, alloc_get]; simp; try omega⟩
  have BK8 : Aside0 (w1.heap[w.heap.size + 2]? = some (.cells #[(.int .i64 0), (.int .i64 0), (.int .i64 0), (.float .f64 0), (.float .f64 0)] 44 (0, 0))) := ⟨by rw [← hw, alloc_get, alloc_get, alloc_get]; simp; try omega⟩
  have BB : Aside0 (Below w.heap.size w w1) := ⟨by rw [← hw]; repeat (first | exact Below.refl _ _ | (refine Below.alloc ?_ (by simp; try omega) _))⟩
  clear hw
  have c60 : w1.cell? ⟨w.heap.size, 0, none⟩ = some (.int .i64 i) := (blk_cell BK6.out 0).trans rfl
  have c61 : w1.cell? ⟨w.heap.size, 1, none⟩ = some (.float .f64 f) := (blk_cell BK6.out 1).trans rfl
  have c62 : w1.cell? ⟨w.heap.size, 2, none⟩ = some (.float .f64 g) := (blk_cell BK6.out 2).trans rfl
  have c70 : w1.cell? ⟨w.heap.size + 1, 0, none⟩ = some (.int .i64 i') := (blk_cell BK7.out 0).trans rfl
  have c71 : w1.cell? ⟨w.heap.size + 1, 1, none⟩ = some (.float .f64 f') := (blk_cell BK7.out 1).trans rfl
  have c72 : w1.cell? ⟨w.heap.size + 1, 2, none⟩ = some (.float .f64 g') := (blk_cell BK7.out 2).trans rfl
  have c80 : w1.cell? ⟨w.heap.size + 2, 0, none⟩ = some (.int .i64 0) := (blk_cell BK8.out 0).trans rfl
  have d80 : w1.frozen? ⟨w.heap.size + 2, 0, none⟩ = false := blk_frozen BK8.out 0
  have c81 : w1.cell? ⟨w.heap.size + 2, 1, none⟩ = some (.int .i64 0) := (blk_cell BK8.out 1).trans rfl
  have d81 : w1.frozen? ⟨w.heap.size + 2, 1, none⟩ = false := blk_frozen BK8.out 1
  have c82 : w1.cell? ⟨w.heap.size + 2, 2, none⟩ = some (.int .i64 0) := (blk_cell BK8.out 2).trans rfl
  have d82 : w1.frozen? ⟨w.heap.size + 2, 2, none⟩ = false := blk_frozen BK8.out 2
  have c83 : w1.cell? ⟨w.heap.size + 2, 3, none⟩ = some (.float .f64 0) := (blk_cell BK8.out 3).trans rfl
  have d83 : w1.frozen? ⟨w.heap.size + 2, 3, none⟩ = false := blk_frozen BK8.out 3
  have c84 : w1.cell? ⟨w.heap.size + 2, 4, none⟩ = some (.float .f64 0) := (blk_cell BK8.out 4).trans rfl
  have d84 : w1.frozen? ⟨w.heap.size + 2, 4, none⟩ = false := blk_frozen BK8.out 4
  have r0 : w1.cell? ⟨0, (n + 1) * 5, none⟩ = some (.int .i64 (kindI ((n : Int) + 1))) := (row_of (Table.holds_below HT.out BB.out h0) n hn).1
  rw [hk] at r0
  go_wp2_with fail
  refine (V1.out _ (Table.holds_below HT.out BB.out h0)).mono ?_
  rintro e w2 ⟨rfl, hb⟩
  replace BK6 := Aside0.mk (blk_below BK6.out hb)
  replace BK7 := Aside0.mk (blk_below BK7.out hb)
  replace BK8 := Aside0.mk (blk_below BK8.out hb)
  replace BB := Aside0.mk (BB.out.trans (hb.mono BB.out.size))
  clear hb
  have c60 : w2.cell? ⟨w.heap.size, 0, none⟩ = some (.int .i64 i) := (blk_cell BK6.out 0).trans rfl
  have c61 : w2.cell? ⟨w.heap.size, 1, none⟩ = some (.float .f64 f) := (blk_cell BK6.out 1).trans rfl
  have c62 : w2.cell? ⟨w.heap.size, 2, none⟩ = some (.float .f64 g) := (blk_cell BK6.out 2).trans rfl
  have c70 : w2.cell? ⟨w.heap.size + 1, 0, none⟩ = some (.int .i64 i') := (blk_cell BK7.out 0).trans rfl
  have c71 : w2.cell? ⟨w.heap.size + 1, 1, none⟩ = some (.float .f64 f') := (blk_cell BK7.out 1).trans rfl
  have c72 : w2.cell? ⟨w.heap.size + 1, 2, none⟩ = some (.float .f64 g') := (blk_cell BK7.out 2).trans rfl
  have c80 : w2.cell? ⟨w.heap.size + 2, 0, none⟩ = some (.int .i64 0) := (blk_cell BK8.out 0).trans rfl
  have d80 : w2.frozen? ⟨w.heap.size + 2, 0, none⟩ = false := blk_frozen BK8.out 0
  have c81 : w2.cell? ⟨w.heap.size + 2, 1, none⟩ = some (.int .i64 0) := (blk_cell BK8.out 1).trans rfl
  have d81 : w2.frozen? ⟨w.heap.size + 2, 1, none⟩ = false := blk_frozen BK8.out 1
  have c82 : w2.cell? ⟨w.heap.size + 2, 2, none⟩ = some (.int .i64 0) := (blk_cell BK8.out 2).trans rfl
  have d82 : w2.frozen? ⟨w.heap.size + 2, 2, none⟩ = false := blk_frozen BK8.out 2
  have c83 : w2.cell? ⟨w.heap.size + 2, 3, none⟩ = some (.float .f64 0) := (blk_cell BK8.out 3).trans rfl
  have d83 : w2.frozen? ⟨w.heap.size + 2, 3, none⟩ = false := blk_frozen BK8.out 3
  have c84 : w2.cell? ⟨w.heap.size + 2, 4, none⟩ = some (.float .f64 0) := (blk_cell BK8.out 4).trans rfl
  have d84 : w2.frozen? ⟨w.heap.size + 2, 4, none⟩ = false := blk_frozen BK8.out 4
  have r0 : w2.cell? ⟨0, (n + 1) * 5, none⟩ = some (.int .i64 (kindI ((n : Int) + 1))) := (row_of (Table.holds_below HT.out BB.out h0) n hn).1
  rw [hk] at r0
  go_wp2_with fail
  refine (V2.out _ (Table.holds_below HT.out BB.out h0)).mono ?_
  rintro e w3 ⟨rfl, hb⟩
  replace BK6 := Aside0.mk (blk_below BK6.out hb)
  replace BK7 := Aside0.mk (blk_below BK7.out hb)
  replace BK8 := Aside0.mk (blk_below BK8.out hb)
  replace BB := Aside0.mk (BB.out.trans (hb.mono BB.out.size))
  clear hb
  have c60 : w3.cell? ⟨w.heap.size, 0, none⟩ = some (.int .i64 i) := (blk_cell BK6.out 0).trans rfl
  have c61 : w3.cell? ⟨w.heap.size, 1, none⟩ = some (.float .f64 f) := (blk_cell BK6.out 1).trans rfl
  have c62 : w3.cell? ⟨w.heap.size, 2, none⟩ = some (.float .f64 g) := (blk_cell BK6.out 2).trans rfl
  have c70 : w3.cell? ⟨w.heap.size + 1, 0, none⟩ = some (.int .i64 i') := (blk_cell BK7.out 0).trans rfl
  have c71 : w3.cell? ⟨w.heap.size + 1, 1, none⟩ = some (.float .f64 f') := (blk_cell BK7.out 1).trans rfl
  have c72 : w3.cell? ⟨w.heap.size + 1, 2, none⟩ = some (.float .f64 g') := (blk_cell BK7.out 2).trans rfl
  have c80 : w3.cell? ⟨w.heap.size + 2, 0, none⟩ = some (.int .i64 0) := (blk_cell BK8.out 0).trans rfl
  have d80 : w3.frozen? ⟨w.heap.size + 2, 0, none⟩ = false := blk_frozen BK8.out 0
  have c81 : w3.cell? ⟨w.heap.size + 2, 1, none⟩ = some (.int .i64 0) := (blk_cell BK8.out 1).trans rfl
  have d81 : w3.frozen? ⟨w.heap.size + 2, 1, none⟩ = false := blk_frozen BK8.out 1
  have c82 : w3.cell? ⟨w.heap.size + 2, 2, none⟩ = some (.int .i64 0) := (blk_cell BK8.out 2).trans rfl
  have d82 : w3.frozen? ⟨w.heap.size + 2, 2, none⟩ = false := blk_frozen BK8.out 2
  have c83 : w3.cell? ⟨w.heap.size + 2, 3, none⟩ = some (.float .f64 0) := (blk_cell BK8.out 3).trans rfl
  have d83 : w3.frozen? ⟨w.heap.size + 2, 3, none⟩ = false := blk_frozen BK8.out 3
  have c84 : w3.cell? ⟨w.heap.size + 2, 4, none⟩ = some (.float .f64 0) := (blk_cell BK8.out 4).trans rfl
  have d84 : w3.frozen? ⟨w.heap.size + 2, 4, none⟩ = false := blk_frozen BK8.out 4
  have r0 : w3.cell? ⟨0, (n + 1) * 5, none⟩ = some (.int .i64 (kindI ((n : Int) + 1))) := (row_of (Table.holds_below HT.out BB.out h0) n hn).1
  rw [hk] at r0
  go_wp2_with fail
  refine (O.out _).mono ?_
  rintro e w4 ⟨x, rfl, hx, rfl⟩
  have HX := Aside0.mk hx
  clear hx
  go_wp2_with fail
  refine bodyPost_ret (results_cell_row rfl _ _ (w.heap.size + 2) 44 _ (0, 0) _ rfl (cell5 BK8.out _ _ _ _ _) Tryd.underlying44 rfl (by kernel_rfl)) rfl ?_
  refine ⟨_, HX.out, rfl, ?_⟩
  repeat (first | exact BB.out | apply below_drewN | apply Below.drew | (refine Below.setCell ?_ (by simp; try omega) _))
set_option maxHeartbeats 4000000 in
theorem apply_6_0 (n : Nat) (hn : n < 9) (hk : kindI ((n : Int) + 1) = 0) (i : Int) (f g : Nat) (i' : Int) (f' g' : Nat) (hf : f < 18446744073709551616) (hg : g < 18446744073709551616) (hf' : f' < 18446744073709551616) (hg' : g' < 18446744073709551616) (w : World) (hT : Table.Holds w) (v1 : vcell ((n : Int) + 1) i f g = true) (v2 : vcell ((n : Int) + 1) i' f' g' = true) (hi : i = 0 ∨ i = 1) (hi2 : i' = 0 ∨ i' = 1) :
    Calls Tryd.prog 34 #[.int .i64 6, .int .i64 ((n : Int) + 1), .agg #[.int .i64 i, .float .f64 f, .float .f64 g], .agg #[.int .i64 i', .float .f64 f', .float .f64 g']] w (Ans 0 ((n : Int) + 1) (max i i') 0 0 w) := by
  have h0 : 0 < w.heap.size := World.block_lt_of_cell? w _ (hT 0 0 (by omega) (by omega))
  have HT := Lib.hid hT
  have S := Lib.hid (fun w (hT : Table.Holds w) => serves_run 6 ((n : Int) + 1) (by simp) w hT)
  have V1 := Lib.hid (fun w (hT : Table.Holds w) => impl_vcell ((n : Int) + 1) i f g hf hg w hT)
  have V2 := Lib.hid (fun w (hT : Table.Holds w) => impl_vcell ((n : Int) + 1) i' f' g' hf' hg' w hT)
  have hs : serv 6 ((n : Int) + 1) = true := by unfold serv; rw [hk, show isdt ((n : Int) + 1) = true by simp [isdt]; omega]; decide
  have S := Lib.hid (show ∀ w, Table.Holds w → Calls Tryd.prog 96 #[.int .i64 6, .int .i64 ((n : Int) + 1)] w fun e w' => e = .returned (.bool true) ∧ w = w' from fun w h => by have := S.out w h; rw [hs] at this; exact this)
  have V1 := Lib.hid (show ∀ w, Table.Holds w → Calls Tryd.prog 19 #[.int .i64 ((n : Int) + 1), .agg #[.int .i64 i, .float .f64 f, .float .f64 g]] w fun e w' => e = .returned (.bool true) ∧ Below w.heap.size w w' from fun w h => by have := V1.out w h; rw [v1] at this; exact this)
  have V2 := Lib.hid (show ∀ w, Table.Holds w → Calls Tryd.prog 19 #[.int .i64 ((n : Int) + 1), .agg #[.int .i64 i', .float .f64 f', .float .f64 g']] w fun e w' => e = .returned (.bool true) ∧ Below w.heap.size w w' from fun w h => by have := V2.out w h; rw [v2] at this; exact this)
  have hz : 0 < w.heap.size := h0
  have hns : ((n : Int) + 1).toNat = n + 1 := by omega
  have hlt : (n : Int) + 1 < 10 := by omega
  have hz1 : ¬ 0 = w.heap.size := by omega
  have hz2 : ¬ 0 = w.heap.size + 1 := by omega
  have hz3 : ¬ 0 = w.heap.size + 2 := by omega
  have O := Lib.hid (fun w => bool_op 6 i i' (by simp) hi hi2 w)
  clear hT v1 v2 hs hf hg hf' hg' hi hi2
  go_enter Tryd.func34, Tryd.ntmps34
  go_wp2_with fail
  refine (S.out _ (Table.holds_below HT.out (by repeat (first | exact Below.refl _ _ | apply below_drewN | apply Below.drew | (refine Below.setCell ?_ (by simp; try omega) _) | (refine Below.alloc ?_ (by simp; try omega) _))) h0)).mono ?_
  rintro e w1 ⟨rfl, hw⟩
  have BK6 : Aside0 (w1.heap[w.heap.size]? = some (.cells #[(.int .i64 i), (.float .f64 f), (.float .f64 g)] 27 (0, 0))) := ⟨by rw [← hw, alloc_get, alloc_get, alloc_get]; simp; try omega⟩
  have BK7 : Aside0 (w1.heap[w.heap.size + 1]? = some (.cells #[(.int .i64 i'), (.float .f64 f'), (.float .f64 g')] 27 (0, 0))) := ⟨by rw [← hw, alloc_get, alloc_get, alloc_get]; simp; try omega⟩
  have BK8 : Aside0 (w1.heap[w.heap.size + 2]? = some (.cells #[(.int .i64 0), (.int .i64 0), (.int .i64 0), (.float .f64 0), (.float .f64 0)] 44 (0, 0))) := ⟨by rw [← hw, alloc_get, alloc_get, alloc_get]; simp; try omega⟩
  have BB : Aside0 (Below w.heap.size w w1) := ⟨by rw [← hw]; repeat (first | exact Below.refl _ _ | (refine Below.alloc ?_ (by simp; try omega) _))⟩
  clear hw
  have c60 : w1.cell? ⟨w.heap.size, 0, none⟩ = some (.int .i64 i) := (blk_cell BK6.out 0).trans rfl
  have c61 : w1.cell? ⟨w.heap.size, 1, none⟩ = some (.float .f64 f) := (blk_cell BK6.out 1).trans rfl
  have c62 : w1.cell? ⟨w.heap.size, 2, none⟩ = some (.float .f64 g) := (blk_cell BK6.out 2).trans rfl
  have c70 : w1.cell? ⟨w.heap.size + 1, 0, none⟩ = some (.int .i64 i') := (blk_cell BK7.out 0).trans rfl
  have c71 : w1.cell? ⟨w.heap.size + 1, 1, none⟩ = some (.float .f64 f') := (blk_cell BK7.out 1).trans rfl
  have c72 : w1.cell? ⟨w.heap.size + 1, 2, none⟩ = some (.float .f64 g') := (blk_cell BK7.out 2).trans rfl
  have c80 : w1.cell? ⟨w.heap.size + 2, 0, none⟩ = some (.int .i64 0) := (blk_cell BK8.out 0).trans rfl
  have d80 : w1.frozen? ⟨w.heap.size + 2, 0, none⟩ = false := blk_frozen BK8.out 0
  have c81 : w1.cell? ⟨w.heap.size + 2, 1, none⟩ = some (.int .i64 0) := (blk_cell BK8.out 1).trans rfl
  have d81 : w1.frozen? ⟨w.heap.size + 2, 1, none⟩ = false := blk_frozen BK8.out 1
  have c82 : w1.cell? ⟨w.heap.size + 2, 2, none⟩ = some (.int .i64 0) := (blk_cell BK8.out 2).trans rfl
  have d82 : w1.frozen? ⟨w.heap.size + 2, 2, none⟩ = false := blk_frozen BK8.out 2
  have c83 : w1.cell? ⟨w.heap.size + 2, 3, none⟩ = some (.float .f64 0) := (blk_cell BK8.out 3).trans rfl
  have d83 : w1.frozen? ⟨w.heap.size + 2, 3, none⟩ = false := blk_frozen BK8.out 3
  have c84 : w1.cell? ⟨w.heap.size + 2, 4, none⟩ = some (.float .f64 0) := (blk_cell BK8.out 4).trans rfl
  have d84 : w1.frozen? ⟨w.heap.size + 2, 4, none⟩ = false := blk_frozen BK8.out 4
  have r0 : w1.cell? ⟨0, (n + 1) * 5, none⟩ = some (.int .i64 (kindI ((n : Int) + 1))) := (row_of (Table.holds_below HT.out BB.out h0) n hn).1
  rw [hk] at r0
  go_wp2_with fail
  refine (V1.out _ (Table.holds_below HT.out BB.out h0)).mono ?_
  rintro e w2 ⟨rfl, hb⟩
  replace BK6 := Aside0.mk (blk_below BK6.out hb)
  replace BK7 := Aside0.mk (blk_below BK7.out hb)
  replace BK8 := Aside0.mk (blk_below BK8.out hb)
  replace BB := Aside0.mk (BB.out.trans (hb.mono BB.out.size))
  clear hb
  have c60 : w2.cell? ⟨w.heap.size, 0, none⟩ = some (.int .i64 i) := (blk_cell BK6.out 0).trans rfl
  have c61 : w2.cell? ⟨w.heap.size, 1, none⟩ = some (.float .f64 f) := (blk_cell BK6.out 1).trans rfl
  have c62 : w2.cell? ⟨w.heap.size, 2, none⟩ = some (.float .f64 g) := (blk_cell BK6.out 2).trans rfl
  have c70 : w2.cell? ⟨w.heap.size + 1, 0, none⟩ = some (.int .i64 i') := (blk_cell BK7.out 0).trans rfl
  have c71 : w2.cell? ⟨w.heap.size + 1, 1, none⟩ = some (.float .f64 f') := (blk_cell BK7.out 1).trans rfl
  have c72 : w2.cell? ⟨w.heap.size + 1, 2, none⟩ = some (.float .f64 g') := (blk_cell BK7.out 2).trans rfl
  have c80 : w2.cell? ⟨w.heap.size + 2, 0, none⟩ = some (.int .i64 0) := (blk_cell BK8.out 0).trans rfl
  have d80 : w2.frozen? ⟨w.heap.size + 2, 0, none⟩ = false := blk_frozen BK8.out 0
  have c81 : w2.cell? ⟨w.heap.size + 2, 1, none⟩ = some (.int .i64 0) := (blk_cell BK8.out 1).trans rfl
  have d81 : w2.frozen? ⟨w.heap.size + 2, 1, none⟩ = false := blk_frozen BK8.out 1
  have c82 : w2.cell? ⟨w.heap.size + 2, 2, none⟩ = some (.int .i64 0) := (blk_cell BK8.out 2).trans rfl
  have d82 : w2.frozen? ⟨w.heap.size + 2, 2, none⟩ = false := blk_frozen BK8.out 2
  have c83 : w2.cell? ⟨w.heap.size + 2, 3, none⟩ = some (.float .f64 0) := (blk_cell BK8.out 3).trans rfl
  have d83 : w2.frozen? ⟨w.heap.size + 2, 3, none⟩ = false := blk_frozen BK8.out 3
  have c84 : w2.cell? ⟨w.heap.size + 2, 4, none⟩ = some (.float .f64 0) := (blk_cell BK8.out 4).trans rfl
  have d84 : w2.frozen? ⟨w.heap.size + 2, 4, none⟩ = false := blk_frozen BK8.out 4
  have r0 : w2.cell? ⟨0, (n + 1) * 5, none⟩ = some (.int .i64 (kindI ((n : Int) + 1))) := (row_of (Table.holds_below HT.out BB.out h0) n hn).1
  rw [hk] at r0
  go_wp2_with fail
  refine (V2.out _ (Table.holds_below HT.out BB.out h0)).mono ?_
  rintro e w3 ⟨rfl, hb⟩
  replace BK6 := Aside0.mk (blk_below BK6.out hb)
  replace BK7 := Aside0.mk (blk_below BK7.out hb)
  replace BK8 := Aside0.mk (blk_below BK8.out hb)
  replace BB := Aside0.mk (BB.out.trans (hb.mono BB.out.size))
  clear hb
  have c60 : w3.cell? ⟨w.heap.size, 0, none⟩ = some (.int .i64 i) := (blk_cell BK6.out 0).trans rfl
  have c61 : w3.cell? ⟨w.heap.size, 1, none⟩ = some (.float .f64 f) := (blk_cell BK6.out 1).trans rfl
  have c62 : w3.cell? ⟨w.heap.size, 2, none⟩ = some (.float .f64 g) := (blk_cell BK6.out 2).trans rfl
  have c70 : w3.cell? ⟨w.heap.size + 1, 0, none⟩ = some (.int .i64 i') := (blk_cell BK7.out 0).trans rfl
  have c71 : w3.cell? ⟨w.heap.size + 1, 1, none⟩ = some (.float .f64 f') := (blk_cell BK7.out 1).trans rfl
  have c72 : w3.cell? ⟨w.heap.size + 1, 2, none⟩ = some (.float .f64 g') := (blk_cell BK7.out 2).trans rfl
  have c80 : w3.cell? ⟨w.heap.size + 2, 0, none⟩ = some (.int .i64 0) := (blk_cell BK8.out 0).trans rfl
  have d80 : w3.frozen? ⟨w.heap.size + 2, 0, none⟩ = false := blk_frozen BK8.out 0
  have c81 : w3.cell? ⟨w.heap.size + 2, 1, none⟩ = some (.int .i64 0) := (blk_cell BK8.out 1).trans rfl
  have d81 : w3.frozen? ⟨w.heap.size + 2, 1, none⟩ = false := blk_frozen BK8.out 1
  have c82 : w3.cell? ⟨w.heap.size + 2, 2, none⟩ = some (.int .i64 0) := (blk_cell BK8.out 2).trans rfl
  have d82 : w3.frozen? ⟨w.heap.size + 2, 2, none⟩ = false := blk_frozen BK8.out 2
  have c83 : w3.cell? ⟨w.heap.size + 2, 3, none⟩ = some (.float .f64 0) := (blk_cell BK8.out 3).trans rfl
  have d83 : w3.frozen? ⟨w.heap.size + 2, 3, none⟩ = false := blk_frozen BK8.out 3
  have c84 : w3.cell? ⟨w.heap.size + 2, 4, none⟩ = some (.float .f64 0) := (blk_cell BK8.out 4).trans rfl
  have d84 : w3.frozen? ⟨w.heap.size + 2, 4, none⟩ = false := blk_frozen BK8.out 4
  have r0 : w3.cell? ⟨0, (n + 1) * 5, none⟩ = some (.int .i64 (kindI ((n : Int) + 1))) := (row_of (Table.holds_below HT.out BB.out h0) n hn).1
  rw [hk] at r0
  go_wp2_with fail
  refine (O.out _).mono ?_
  rintro e w4 ⟨rfl, rfl⟩
  go_wp2_with fail
  refine (int_cell _ _).mono ?_
  rintro e w5 ⟨rfl, hb⟩
  replace BK6 := Aside0.mk (blk_below BK6.out hb)
  replace BK7 := Aside0.mk (blk_below BK7.out hb)
  replace BK8 := Aside0.mk (blk_below BK8.out hb)
  replace BB := Aside0.mk (BB.out.trans (hb.mono BB.out.size))
  clear hb
  have c60 : w5.cell? ⟨w.heap.size, 0, none⟩ = some (.int .i64 i) := (blk_cell BK6.out 0).trans rfl
  have c61 : w5.cell? ⟨w.heap.size, 1, none⟩ = some (.float .f64 f) := (blk_cell BK6.out 1).trans rfl
  have c62 : w5.cell? ⟨w.heap.size, 2, none⟩ = some (.float .f64 g) := (blk_cell BK6.out 2).trans rfl
  have c70 : w5.cell? ⟨w.heap.size + 1, 0, none⟩ = some (.int .i64 i') := (blk_cell BK7.out 0).trans rfl
  have c71 : w5.cell? ⟨w.heap.size + 1, 1, none⟩ = some (.float .f64 f') := (blk_cell BK7.out 1).trans rfl
  have c72 : w5.cell? ⟨w.heap.size + 1, 2, none⟩ = some (.float .f64 g') := (blk_cell BK7.out 2).trans rfl
  have c80 : w5.cell? ⟨w.heap.size + 2, 0, none⟩ = some (.int .i64 0) := (blk_cell BK8.out 0).trans rfl
  have d80 : w5.frozen? ⟨w.heap.size + 2, 0, none⟩ = false := blk_frozen BK8.out 0
  have c81 : w5.cell? ⟨w.heap.size + 2, 1, none⟩ = some (.int .i64 0) := (blk_cell BK8.out 1).trans rfl
  have d81 : w5.frozen? ⟨w.heap.size + 2, 1, none⟩ = false := blk_frozen BK8.out 1
  have c82 : w5.cell? ⟨w.heap.size + 2, 2, none⟩ = some (.int .i64 0) := (blk_cell BK8.out 2).trans rfl
  have d82 : w5.frozen? ⟨w.heap.size + 2, 2, none⟩ = false := blk_frozen BK8.out 2
  have c83 : w5.cell? ⟨w.heap.size + 2, 3, none⟩ = some (.float .f64 0) := (blk_cell BK8.out 3).trans rfl
  have d83 : w5.frozen? ⟨w.heap.size + 2, 3, none⟩ = false := blk_frozen BK8.out 3
  have c84 : w5.cell? ⟨w.heap.size + 2, 4, none⟩ = some (.float .f64 0) := (blk_cell BK8.out 4).trans rfl
  have d84 : w5.frozen? ⟨w.heap.size + 2, 4, none⟩ = false := blk_frozen BK8.out 4
  have r0 : w5.cell? ⟨0, (n + 1) * 5, none⟩ = some (.int .i64 (kindI ((n : Int) + 1))) := (row_of (Table.holds_below HT.out BB.out h0) n hn).1
  go_wp2_with fail
  refine bodyPost_ret (results_cell_row rfl _ _ (w.heap.size + 2) 44 _ (0, 0) _ rfl (cell5 BK8.out _ _ _ _ _) Tryd.underlying44 rfl (by kernel_rfl)) rfl ?_
  refine ⟨rfl, ?_⟩
  repeat (first | exact BB.out | apply below_drewN | apply Below.drew | (refine Below.setCell ?_ (by simp; try omega) _))
set_option maxHeartbeats 4000000 in
theorem apply_6_1 (n : Nat) (hn : n < 9) (hk : kindI ((n : Int) + 1) = 1) (i : Int) (f g : Nat) (i' : Int) (f' g' : Nat) (hf : f < 18446744073709551616) (hg : g < 18446744073709551616) (hf' : f' < 18446744073709551616) (hg' : g' < 18446744073709551616) (w : World) (hT : Table.Holds w) (v1 : vcell ((n : Int) + 1) i f g = true) (v2 : vcell ((n : Int) + 1) i' f' g' = true) :
    Calls Tryd.prog 34 #[.int .i64 6, .int .i64 ((n : Int) + 1), .agg #[.int .i64 i, .float .f64 f, .float .f64 g], .agg #[.int .i64 i', .float .f64 f', .float .f64 g']] w (Ans 0 ((n : Int) + 1) (max i i') 0 0 w) := by
  have h0 : 0 < w.heap.size := World.block_lt_of_cell? w _ (hT 0 0 (by omega) (by omega))
  have HT := Lib.hid hT
  have S := Lib.hid (fun w (hT : Table.Holds w) => serves_run 6 ((n : Int) + 1) (by simp) w hT)
  have V1 := Lib.hid (fun w (hT : Table.Holds w) => impl_vcell ((n : Int) + 1) i f g hf hg w hT)
  have V2 := Lib.hid (fun w (hT : Table.Holds w) => impl_vcell ((n : Int) + 1) i' f' g' hf' hg' w hT)
  have hs : serv 6 ((n : Int) + 1) = true := by unfold serv; rw [hk, show isdt ((n : Int) + 1) = true by simp [isdt]; omega]; decide
  have S := Lib.hid (show ∀ w, Table.Holds w → Calls Tryd.prog 96 #[.int .i64 6, .int .i64 ((n : Int) + 1)] w fun e w' => e = .returned (.bool true) ∧ w = w' from fun w h => by have := S.out w h; rw [hs] at this; exact this)
  have V1 := Lib.hid (show ∀ w, Table.Holds w → Calls Tryd.prog 19 #[.int .i64 ((n : Int) + 1), .agg #[.int .i64 i, .float .f64 f, .float .f64 g]] w fun e w' => e = .returned (.bool true) ∧ Below w.heap.size w w' from fun w h => by have := V1.out w h; rw [v1] at this; exact this)
  have V2 := Lib.hid (show ∀ w, Table.Holds w → Calls Tryd.prog 19 #[.int .i64 ((n : Int) + 1), .agg #[.int .i64 i', .float .f64 f', .float .f64 g']] w fun e w' => e = .returned (.bool true) ∧ Below w.heap.size w w' from fun w h => by have := V2.out w h; rw [v2] at this; exact this)
  have hz : 0 < w.heap.size := h0
  have hns : ((n : Int) + 1).toNat = n + 1 := by omega
  have hlt : (n : Int) + 1 < 10 := by omega
  have hz1 : ¬ 0 = w.heap.size := by omega
  have hz2 : ¬ 0 = w.heap.size + 1 := by omega
  have hz3 : ¬ 0 = w.heap.size + 2 := by omega
  have O := Lib.hid (fun w (hT : Table.Holds w) => int_op 6 i i' n hn (by simp) w hT)
  clear hT v1 v2 hs hf hg hf' hg'
  go_enter Tryd.func34, Tryd.ntmps34
  go_wp2_with fail
  refine (S.out _ (Table.holds_below HT.out (by repeat (first | exact Below.refl _ _ | apply below_drewN | apply Below.drew | (refine Below.setCell ?_ (by simp; try omega) _) | (refine Below.alloc ?_ (by simp; try omega) _))) h0)).mono ?_
  rintro e w1 ⟨rfl, hw⟩
  have BK6 : Aside0 (w1.heap[w.heap.size]? = some (.cells #[(.int .i64 i), (.float .f64 f), (.float .f64 g)] 27 (0, 0))) := ⟨by rw [← hw, alloc_get, alloc_get, alloc_get]; simp; try omega⟩
  have BK7 : Aside0 (w1.heap[w.heap.size + 1]? = some (.cells #[(.int .i64 i'), (.float .f64 f'), (.float .f64 g')] 27 (0, 0))) := ⟨by rw [← hw, alloc_get, alloc_get, alloc_get]; simp; try omega⟩
  have BK8 : Aside0 (w1.heap[w.heap.size + 2]? = some (.cells #[(.int .i64 0), (.int .i64 0), (.int .i64 0), (.float .f64 0), (.float .f64 0)] 44 (0, 0))) := ⟨by rw [← hw, alloc_get, alloc_get, alloc_get]; simp; try omega⟩
  have BB : Aside0 (Below w.heap.size w w1) := ⟨by rw [← hw]; repeat (first | exact Below.refl _ _ | (refine Below.alloc ?_ (by simp; try omega) _))⟩
  clear hw
  have c60 : w1.cell? ⟨w.heap.size, 0, none⟩ = some (.int .i64 i) := (blk_cell BK6.out 0).trans rfl
  have c61 : w1.cell? ⟨w.heap.size, 1, none⟩ = some (.float .f64 f) := (blk_cell BK6.out 1).trans rfl
  have c62 : w1.cell? ⟨w.heap.size, 2, none⟩ = some (.float .f64 g) := (blk_cell BK6.out 2).trans rfl
  have c70 : w1.cell? ⟨w.heap.size + 1, 0, none⟩ = some (.int .i64 i') := (blk_cell BK7.out 0).trans rfl
  have c71 : w1.cell? ⟨w.heap.size + 1, 1, none⟩ = some (.float .f64 f') := (blk_cell BK7.out 1).trans rfl
  have c72 : w1.cell? ⟨w.heap.size + 1, 2, none⟩ = some (.float .f64 g') := (blk_cell BK7.out 2).trans rfl
  have c80 : w1.cell? ⟨w.heap.size + 2, 0, none⟩ = some (.int .i64 0) := (blk_cell BK8.out 0).trans rfl
  have d80 : w1.frozen? ⟨w.heap.size + 2, 0, none⟩ = false := blk_frozen BK8.out 0
  have c81 : w1.cell? ⟨w.heap.size + 2, 1, none⟩ = some (.int .i64 0) := (blk_cell BK8.out 1).trans rfl
  have d81 : w1.frozen? ⟨w.heap.size + 2, 1, none⟩ = false := blk_frozen BK8.out 1
  have c82 : w1.cell? ⟨w.heap.size + 2, 2, none⟩ = some (.int .i64 0) := (blk_cell BK8.out 2).trans rfl
  have d82 : w1.frozen? ⟨w.heap.size + 2, 2, none⟩ = false := blk_frozen BK8.out 2
  have c83 : w1.cell? ⟨w.heap.size + 2, 3, none⟩ = some (.float .f64 0) := (blk_cell BK8.out 3).trans rfl
  have d83 : w1.frozen? ⟨w.heap.size + 2, 3, none⟩ = false := blk_frozen BK8.out 3
  have c84 : w1.cell? ⟨w.heap.size + 2, 4, none⟩ = some (.float .f64 0) := (blk_cell BK8.out 4).trans rfl
  have d84 : w1.frozen? ⟨w.heap.size + 2, 4, none⟩ = false := blk_frozen BK8.out 4
  have r0 : w1.cell? ⟨0, (n + 1) * 5, none⟩ = some (.int .i64 (kindI ((n : Int) + 1))) := (row_of (Table.holds_below HT.out BB.out h0) n hn).1
  rw [hk] at r0
  go_wp2_with fail
  refine (V1.out _ (Table.holds_below HT.out BB.out h0)).mono ?_
  rintro e w2 ⟨rfl, hb⟩
  replace BK6 := Aside0.mk (blk_below BK6.out hb)
  replace BK7 := Aside0.mk (blk_below BK7.out hb)
  replace BK8 := Aside0.mk (blk_below BK8.out hb)
  replace BB := Aside0.mk (BB.out.trans (hb.mono BB.out.size))
  clear hb
  have c60 : w2.cell? ⟨w.heap.size, 0, none⟩ = some (.int .i64 i) := (blk_cell BK6.out 0).trans rfl
  have c61 : w2.cell? ⟨w.heap.size, 1, none⟩ = some (.float .f64 f) := (blk_cell BK6.out 1).trans rfl
  have c62 : w2.cell? ⟨w.heap.size, 2, none⟩ = some (.float .f64 g) := (blk_cell BK6.out 2).trans rfl
  have c70 : w2.cell? ⟨w.heap.size + 1, 0, none⟩ = some (.int .i64 i') := (blk_cell BK7.out 0).trans rfl
  have c71 : w2.cell? ⟨w.heap.size + 1, 1, none⟩ = some (.float .f64 f') := (blk_cell BK7.out 1).trans rfl
  have c72 : w2.cell? ⟨w.heap.size + 1, 2, none⟩ = some (.float .f64 g') := (blk_cell BK7.out 2).trans rfl
  have c80 : w2.cell? ⟨w.heap.size + 2, 0, none⟩ = some (.int .i64 0) := (blk_cell BK8.out 0).trans rfl
  have d80 : w2.frozen? ⟨w.heap.size + 2, 0, none⟩ = false := blk_frozen BK8.out 0
  have c81 : w2.cell? ⟨w.heap.size + 2, 1, none⟩ = some (.int .i64 0) := (blk_cell BK8.out 1).trans rfl
  have d81 : w2.frozen? ⟨w.heap.size + 2, 1, none⟩ = false := blk_frozen BK8.out 1
  have c82 : w2.cell? ⟨w.heap.size + 2, 2, none⟩ = some (.int .i64 0) := (blk_cell BK8.out 2).trans rfl
  have d82 : w2.frozen? ⟨w.heap.size + 2, 2, none⟩ = false := blk_frozen BK8.out 2
  have c83 : w2.cell? ⟨w.heap.size + 2, 3, none⟩ = some (.float .f64 0) := (blk_cell BK8.out 3).trans rfl
  have d83 : w2.frozen? ⟨w.heap.size + 2, 3, none⟩ = false := blk_frozen BK8.out 3
  have c84 : w2.cell? ⟨w.heap.size + 2, 4, none⟩ = some (.float .f64 0) := (blk_cell BK8.out 4).trans rfl
  have d84 : w2.frozen? ⟨w.heap.size + 2, 4, none⟩ = false := blk_frozen BK8.out 4
  have r0 : w2.cell? ⟨0, (n + 1) * 5, none⟩ = some (.int .i64 (kindI ((n : Int) + 1))) := (row_of (Table.holds_below HT.out BB.out h0) n hn).1
  rw [hk] at r0
  go_wp2_with fail
  refine (V2.out _ (Table.holds_below HT.out BB.out h0)).mono ?_
  rintro e w3 ⟨rfl, hb⟩
  replace BK6 := Aside0.mk (blk_below BK6.out hb)
  replace BK7 := Aside0.mk (blk_below BK7.out hb)
  replace BK8 := Aside0.mk (blk_below BK8.out hb)
  replace BB := Aside0.mk (BB.out.trans (hb.mono BB.out.size))
  clear hb
  have c60 : w3.cell? ⟨w.heap.size, 0, none⟩ = some (.int .i64 i) := (blk_cell BK6.out 0).trans rfl
  have c61 : w3.cell? ⟨w.heap.size, 1, none⟩ = some (.float .f64 f) := (blk_cell BK6.out 1).trans rfl
  have c62 : w3.cell? ⟨w.heap.size, 2, none⟩ = some (.float .f64 g) := (blk_cell BK6.out 2).trans rfl
  have c70 : w3.cell? ⟨w.heap.size + 1, 0, none⟩ = some (.int .i64 i') := (blk_cell BK7.out 0).trans rfl
  have c71 : w3.cell? ⟨w.heap.size + 1, 1, none⟩ = some (.float .f64 f') := (blk_cell BK7.out 1).trans rfl
  have c72 : w3.cell? ⟨w.heap.size + 1, 2, none⟩ = some (.float .f64 g') := (blk_cell BK7.out 2).trans rfl
  have c80 : w3.cell? ⟨w.heap.size + 2, 0, none⟩ = some (.int .i64 0) := (blk_cell BK8.out 0).trans rfl
  have d80 : w3.frozen? ⟨w.heap.size + 2, 0, none⟩ = false := blk_frozen BK8.out 0
  have c81 : w3.cell? ⟨w.heap.size + 2, 1, none⟩ = some (.int .i64 0) := (blk_cell BK8.out 1).trans rfl
  have d81 : w3.frozen? ⟨w.heap.size + 2, 1, none⟩ = false := blk_frozen BK8.out 1
  have c82 : w3.cell? ⟨w.heap.size + 2, 2, none⟩ = some (.int .i64 0) := (blk_cell BK8.out 2).trans rfl
  have d82 : w3.frozen? ⟨w.heap.size + 2, 2, none⟩ = false := blk_frozen BK8.out 2
  have c83 : w3.cell? ⟨w.heap.size + 2, 3, none⟩ = some (.float .f64 0) := (blk_cell BK8.out 3).trans rfl
  have d83 : w3.frozen? ⟨w.heap.size + 2, 3, none⟩ = false := blk_frozen BK8.out 3
  have c84 : w3.cell? ⟨w.heap.size + 2, 4, none⟩ = some (.float .f64 0) := (blk_cell BK8.out 4).trans rfl
  have d84 : w3.frozen? ⟨w.heap.size + 2, 4, none⟩ = false := blk_frozen BK8.out 4
  have r0 : w3.cell? ⟨0, (n + 1) * 5, none⟩ = some (.int .i64 (kindI ((n : Int) + 1))) := (row_of (Table.holds_below HT.out BB.out h0) n hn).1
  rw [hk] at r0
  go_wp2_with fail
  refine (O.out _ (Table.holds_below HT.out BB.out h0)).mono ?_
  rintro e w4 ⟨rfl, rfl⟩
  go_wp2_with fail
  refine (int_cell _ _).mono ?_
  rintro e w5 ⟨rfl, hb⟩
  replace BK6 := Aside0.mk (blk_below BK6.out hb)
  replace BK7 := Aside0.mk (blk_below BK7.out hb)
  replace BK8 := Aside0.mk (blk_below BK8.out hb)
  replace BB := Aside0.mk (BB.out.trans (hb.mono BB.out.size))
  clear hb
  have c60 : w5.cell? ⟨w.heap.size, 0, none⟩ = some (.int .i64 i) := (blk_cell BK6.out 0).trans rfl
  have c61 : w5.cell? ⟨w.heap.size, 1, none⟩ = some (.float .f64 f) := (blk_cell BK6.out 1).trans rfl
  have c62 : w5.cell? ⟨w.heap.size, 2, none⟩ = some (.float .f64 g) := (blk_cell BK6.out 2).trans rfl
  have c70 : w5.cell? ⟨w.heap.size + 1, 0, none⟩ = some (.int .i64 i') := (blk_cell BK7.out 0).trans rfl
  have c71 : w5.cell? ⟨w.heap.size + 1, 1, none⟩ = some (.float .f64 f') := (blk_cell BK7.out 1).trans rfl
  have c72 : w5.cell? ⟨w.heap.size + 1, 2, none⟩ = some (.float .f64 g') := (blk_cell BK7.out 2).trans rfl
  have c80 : w5.cell? ⟨w.heap.size + 2, 0, none⟩ = some (.int .i64 0) := (blk_cell BK8.out 0).trans rfl
  have d80 : w5.frozen? ⟨w.heap.size + 2, 0, none⟩ = false := blk_frozen BK8.out 0
  have c81 : w5.cell? ⟨w.heap.size + 2, 1, none⟩ = some (.int .i64 0) := (blk_cell BK8.out 1).trans rfl
  have d81 : w5.frozen? ⟨w.heap.size + 2, 1, none⟩ = false := blk_frozen BK8.out 1
  have c82 : w5.cell? ⟨w.heap.size + 2, 2, none⟩ = some (.int .i64 0) := (blk_cell BK8.out 2).trans rfl
  have d82 : w5.frozen? ⟨w.heap.size + 2, 2, none⟩ = false := blk_frozen BK8.out 2
  have c83 : w5.cell? ⟨w.heap.size + 2, 3, none⟩ = some (.float .f64 0) := (blk_cell BK8.out 3).trans rfl
  have d83 : w5.frozen? ⟨w.heap.size + 2, 3, none⟩ = false := blk_frozen BK8.out 3
  have c84 : w5.cell? ⟨w.heap.size + 2, 4, none⟩ = some (.float .f64 0) := (blk_cell BK8.out 4).trans rfl
  have d84 : w5.frozen? ⟨w.heap.size + 2, 4, none⟩ = false := blk_frozen BK8.out 4
  have r0 : w5.cell? ⟨0, (n + 1) * 5, none⟩ = some (.int .i64 (kindI ((n : Int) + 1))) := (row_of (Table.holds_below HT.out BB.out h0) n hn).1
  go_wp2_with fail
  refine bodyPost_ret (results_cell_row rfl _ _ (w.heap.size + 2) 44 _ (0, 0) _ rfl (cell5 BK8.out _ _ _ _ _) Tryd.underlying44 rfl (by kernel_rfl)) rfl ?_
  refine ⟨rfl, ?_⟩
  repeat (first | exact BB.out | apply below_drewN | apply Below.drew | (refine Below.setCell ?_ (by simp; try omega) _))
set_option maxHeartbeats 4000000 in
theorem apply_6_2 (n : Nat) (hn : n < 9) (hk : kindI ((n : Int) + 1) = 2) (i : Int) (f g : Nat) (i' : Int) (f' g' : Nat) (hf : f < 18446744073709551616) (hg : g < 18446744073709551616) (hf' : f' < 18446744073709551616) (hg' : g' < 18446744073709551616) (w : World) (hT : Table.Holds w) (v1 : vcell ((n : Int) + 1) i f g = true) (v2 : vcell ((n : Int) + 1) i' f' g' = true) :
    Calls Tryd.prog 34 #[.int .i64 6, .int .i64 ((n : Int) + 1), .agg #[.int .i64 i, .float .f64 f, .float .f64 g], .agg #[.int .i64 i', .float .f64 f', .float .f64 g']] w (fun e w' => ∃ x, MM 6 f f' x ∧ Ans 0 ((n : Int) + 1) 0 x 0 w e w') := by
  have h0 : 0 < w.heap.size := World.block_lt_of_cell? w _ (hT 0 0 (by omega) (by omega))
  have HT := Lib.hid hT
  have S := Lib.hid (fun w (hT : Table.Holds w) => serves_run 6 ((n : Int) + 1) (by simp) w hT)
  have V1 := Lib.hid (fun w (hT : Table.Holds w) => impl_vcell ((n : Int) + 1) i f g hf hg w hT)
  have V2 := Lib.hid (fun w (hT : Table.Holds w) => impl_vcell ((n : Int) + 1) i' f' g' hf' hg' w hT)
  have hs : serv 6 ((n : Int) + 1) = true := by unfold serv; rw [hk, show isdt ((n : Int) + 1) = true by simp [isdt]; omega]; decide
  have S := Lib.hid (show ∀ w, Table.Holds w → Calls Tryd.prog 96 #[.int .i64 6, .int .i64 ((n : Int) + 1)] w fun e w' => e = .returned (.bool true) ∧ w = w' from fun w h => by have := S.out w h; rw [hs] at this; exact this)
  have V1 := Lib.hid (show ∀ w, Table.Holds w → Calls Tryd.prog 19 #[.int .i64 ((n : Int) + 1), .agg #[.int .i64 i, .float .f64 f, .float .f64 g]] w fun e w' => e = .returned (.bool true) ∧ Below w.heap.size w w' from fun w h => by have := V1.out w h; rw [v1] at this; exact this)
  have V2 := Lib.hid (show ∀ w, Table.Holds w → Calls Tryd.prog 19 #[.int .i64 ((n : Int) + 1), .agg #[.int .i64 i', .float .f64 f', .float .f64 g']] w fun e w' => e = .returned (.bool true) ∧ Below w.heap.size w w' from fun w h => by have := V2.out w h; rw [v2] at this; exact this)
  have hz : 0 < w.heap.size := h0
  have hns : ((n : Int) + 1).toNat = n + 1 := by omega
  have hlt : (n : Int) + 1 < 10 := by omega
  have hz1 : ¬ 0 = w.heap.size := by omega
  have hz2 : ¬ 0 = w.heap.size + 1 := by omega
  have hz3 : ¬ 0 = w.heap.size + 2 := by omega
  have O := Lib.hid (fun w => float_op 6 ((n : Int) + 1) f f' (by simp) hf hf' w)
  clear hT v1 v2 hs hf hg hf' hg'
  go_enter Tryd.func34, Tryd.ntmps34
  go_wp2_with fail
  refine (S.out _ (Table.holds_below HT.out (by repeat (first | exact Below.refl _ _ | apply below_drewN | apply Below.drew | (refine Below.setCell ?_ (by simp; try omega) _) | (refine Below.alloc ?_ (by simp; try omega) _))) h0)).mono ?_
  rintro e w1 ⟨rfl, hw⟩
  have BK6 : Aside0 (w1.heap[w.heap.size]? = some (.cells #[(.int .i64 i), (.float .f64 f), (.float .f64 g)] 27 (0, 0))) := ⟨by rw [← hw, alloc_get, alloc_get, alloc_get]; simp; try omega⟩
  have BK7 : Aside0 (w1.heap[w.heap.size + 1]? = some (.cells #[(.int .i64 i'), (.float .f64 f'), (.float .f64 g')] 27 (0, 0))) := ⟨by rw [← hw, alloc_get, alloc_get, alloc_get]; simp; try omega⟩
  have BK8 : Aside0 (w1.heap[w.heap.size + 2]? = some (.cells #[(.int .i64 0), (.int .i64 0), (.int .i64 0), (.float .f64 0), (.float .f64 0)] 44 (0, 0))) := ⟨by rw [← hw, alloc_get, alloc_get, alloc_get]; simp; try omega⟩
  have BB : Aside0 (Below w.heap.size w w1) := ⟨by rw [← hw]; repeat (first | exact Below.refl _ _ | (refine Below.alloc ?_ (by simp; try omega) _))⟩
  clear hw
  have c60 : w1.cell? ⟨w.heap.size, 0, none⟩ = some (.int .i64 i) := (blk_cell BK6.out 0).trans rfl
  have c61 : w1.cell? ⟨w.heap.size, 1, none⟩ = some (.float .f64 f) := (blk_cell BK6.out 1).trans rfl
  have c62 : w1.cell? ⟨w.heap.size, 2, none⟩ = some (.float .f64 g) := (blk_cell BK6.out 2).trans rfl
  have c70 : w1.cell? ⟨w.heap.size + 1, 0, none⟩ = some (.int .i64 i') := (blk_cell BK7.out 0).trans rfl
  have c71 : w1.cell? ⟨w.heap.size + 1, 1, none⟩ = some (.float .f64 f') := (blk_cell BK7.out 1).trans rfl
  have c72 : w1.cell? ⟨w.heap.size + 1, 2, none⟩ = some (.float .f64 g') := (blk_cell BK7.out 2).trans rfl
  have c80 : w1.cell? ⟨w.heap.size + 2, 0, none⟩ = some (.int .i64 0) := (blk_cell BK8.out 0).trans rfl
  have d80 : w1.frozen? ⟨w.heap.size + 2, 0, none⟩ = false := blk_frozen BK8.out 0
  have c81 : w1.cell? ⟨w.heap.size + 2, 1, none⟩ = some (.int .i64 0) := (blk_cell BK8.out 1).trans rfl
  have d81 : w1.frozen? ⟨w.heap.size + 2, 1, none⟩ = false := blk_frozen BK8.out 1
  have c82 : w1.cell? ⟨w.heap.size + 2, 2, none⟩ = some (.int .i64 0) := (blk_cell BK8.out 2).trans rfl
  have d82 : w1.frozen? ⟨w.heap.size + 2, 2, none⟩ = false := blk_frozen BK8.out 2
  have c83 : w1.cell? ⟨w.heap.size + 2, 3, none⟩ = some (.float .f64 0) := (blk_cell BK8.out 3).trans rfl
  have d83 : w1.frozen? ⟨w.heap.size + 2, 3, none⟩ = false := blk_frozen BK8.out 3
  have c84 : w1.cell? ⟨w.heap.size + 2, 4, none⟩ = some (.float .f64 0) := (blk_cell BK8.out 4).trans rfl
  have d84 : w1.frozen? ⟨w.heap.size + 2, 4, none⟩ = false := blk_frozen BK8.out 4
  have r0 : w1.cell? ⟨0, (n + 1) * 5, none⟩ = some (.int .i64 (kindI ((n : Int) + 1))) := (row_of (Table.holds_below HT.out BB.out h0) n hn).1
  rw [hk] at r0
  go_wp2_with fail
  refine (V1.out _ (Table.holds_below HT.out BB.out h0)).mono ?_
  rintro e w2 ⟨rfl, hb⟩
  replace BK6 := Aside0.mk (blk_below BK6.out hb)
  replace BK7 := Aside0.mk (blk_below BK7.out hb)
  replace BK8 := Aside0.mk (blk_below BK8.out hb)
  replace BB := Aside0.mk (BB.out.trans (hb.mono BB.out.size))
  clear hb
  have c60 : w2.cell? ⟨w.heap.size, 0, none⟩ = some (.int .i64 i) := (blk_cell BK6.out 0).trans rfl
  have c61 : w2.cell? ⟨w.heap.size, 1, none⟩ = some (.float .f64 f) := (blk_cell BK6.out 1).trans rfl
  have c62 : w2.cell? ⟨w.heap.size, 2, none⟩ = some (.float .f64 g) := (blk_cell BK6.out 2).trans rfl
  have c70 : w2.cell? ⟨w.heap.size + 1, 0, none⟩ = some (.int .i64 i') := (blk_cell BK7.out 0).trans rfl
  have c71 : w2.cell? ⟨w.heap.size + 1, 1, none⟩ = some (.float .f64 f') := (blk_cell BK7.out 1).trans rfl
  have c72 : w2.cell? ⟨w.heap.size + 1, 2, none⟩ = some (.float .f64 g') := (blk_cell BK7.out 2).trans rfl
  have c80 : w2.cell? ⟨w.heap.size + 2, 0, none⟩ = some (.int .i64 0) := (blk_cell BK8.out 0).trans rfl
  have d80 : w2.frozen? ⟨w.heap.size + 2, 0, none⟩ = false := blk_frozen BK8.out 0
  have c81 : w2.cell? ⟨w.heap.size + 2, 1, none⟩ = some (.int .i64 0) := (blk_cell BK8.out 1).trans rfl
  have d81 : w2.frozen? ⟨w.heap.size + 2, 1, none⟩ = false := blk_frozen BK8.out 1
  have c82 : w2.cell? ⟨w.heap.size + 2, 2, none⟩ = some (.int .i64 0) := (blk_cell BK8.out 2).trans rfl
  have d82 : w2.frozen? ⟨w.heap.size + 2, 2, none⟩ = false := blk_frozen BK8.out 2
  have c83 : w2.cell? ⟨w.heap.size + 2, 3, none⟩ = some (.float .f64 0) := (blk_cell BK8.out 3).trans rfl
  have d83 : w2.frozen? ⟨w.heap.size + 2, 3, none⟩ = false := blk_frozen BK8.out 3
  have c84 : w2.cell? ⟨w.heap.size + 2, 4, none⟩ = some (.float .f64 0) := (blk_cell BK8.out 4).trans rfl
  have d84 : w2.frozen? ⟨w.heap.size + 2, 4, none⟩ = false := blk_frozen BK8.out 4
  have r0 : w2.cell? ⟨0, (n + 1) * 5, none⟩ = some (.int .i64 (kindI ((n : Int) + 1))) := (row_of (Table.holds_below HT.out BB.out h0) n hn).1
  rw [hk] at r0
  go_wp2_with fail
  refine (V2.out _ (Table.holds_below HT.out BB.out h0)).mono ?_
  rintro e w3 ⟨rfl, hb⟩
  replace BK6 := Aside0.mk (blk_below BK6.out hb)
  replace BK7 := Aside0.mk (blk_below BK7.out hb)
  replace BK8 := Aside0.mk (blk_below BK8.out hb)
  replace BB := Aside0.mk (BB.out.trans (hb.mono BB.out.size))
  clear hb
  have c60 : w3.cell? ⟨w.heap.size, 0, none⟩ = some (.int .i64 i) := (blk_cell BK6.out 0).trans rfl
  have c61 : w3.cell? ⟨w.heap.size, 1, none⟩ = some (.float .f64 f) := (blk_cell BK6.out 1).trans rfl
  have c62 : w3.cell? ⟨w.heap.size, 2, none⟩ = some (.float .f64 g) := (blk_cell BK6.out 2).trans rfl
  have c70 : w3.cell? ⟨w.heap.size + 1, 0, none⟩ = some (.int .i64 i') := (blk_cell BK7.out 0).trans rfl
  have c71 : w3.cell? ⟨w.heap.size + 1, 1, none⟩ = some (.float .f64 f') := (blk_cell BK7.out 1).trans rfl
  have c72 : w3.cell? ⟨w.heap.size + 1, 2, none⟩ = some (.float .f64 g') := (blk_cell BK7.out 2).trans rfl
  have c80 : w3.cell? ⟨w.heap.size + 2, 0, none⟩ = some (.int .i64 0) := (blk_cell BK8.out 0).trans rfl
  have d80 : w3.frozen? ⟨w.heap.size + 2, 0, none⟩ = false := blk_frozen BK8.out 0
  have c81 : w3.cell? ⟨w.heap.size + 2, 1, none⟩ = some (.int .i64 0) := (blk_cell BK8.out 1).trans rfl
  have d81 : w3.frozen? ⟨w.heap.size + 2, 1, none⟩ = false := blk_frozen BK8.out 1
  have c82 : w3.cell? ⟨w.heap.size + 2, 2, none⟩ = some (.int .i64 0) := (blk_cell BK8.out 2).trans rfl
  have d82 : w3.frozen? ⟨w.heap.size + 2, 2, none⟩ = false := blk_frozen BK8.out 2
  have c83 : w3.cell? ⟨w.heap.size + 2, 3, none⟩ = some (.float .f64 0) := (blk_cell BK8.out 3).trans rfl
  have d83 : w3.frozen? ⟨w.heap.size + 2, 3, none⟩ = false := blk_frozen BK8.out 3
  have c84 : w3.cell? ⟨w.heap.size + 2, 4, none⟩ = some (.float .f64 0) := (blk_cell BK8.out 4).trans rfl
  have d84 : w3.frozen? ⟨w.heap.size + 2, 4, none⟩ = false := blk_frozen BK8.out 4
  have r0 : w3.cell? ⟨0, (n + 1) * 5, none⟩ = some (.int .i64 (kindI ((n : Int) + 1))) := (row_of (Table.holds_below HT.out BB.out h0) n hn).1
  rw [hk] at r0
  go_wp2_with fail
  refine (O.out _).mono ?_
  rintro e w4 ⟨x, rfl, hx, rfl⟩
  have HX := Aside0.mk hx
  clear hx
  go_wp2_with fail
  refine bodyPost_ret (results_cell_row rfl _ _ (w.heap.size + 2) 44 _ (0, 0) _ rfl (cell5 BK8.out _ _ _ _ _) Tryd.underlying44 rfl (by kernel_rfl)) rfl ?_
  refine ⟨_, HX.out, rfl, ?_⟩
  repeat (first | exact BB.out | apply below_drewN | apply Below.drew | (refine Below.setCell ?_ (by simp; try omega) _))
end Go.Proofs.YtpmdgmnpkdoamabDoor.Vc
