/- Proved here: what impl.ParseCell answers of a cell's text and of no text. Conditions: the words are of their kind; the tables hold what the program lays; the variable that bytealg reads holds a number. -/
import Derived.Test.YtpmdgmnpkdoamabGreatDoorCtPcd
import Derived.Test.YtpmdgmnpkdoamabGreatDoorCtFcl
import Derived.Test.YtpmdgmnpkdoamabGreatDoorCtDrw2
namespace Go.Proofs.YtpmdgmnpkdoamabGreatDoor.Vc
open Go.RowKit Fl Prom Drw Go.Proofs.YtpmdgmnpkdoamabGreatDoorW.PrintWords
set_option linter.unusedVariables false
set_option linter.unusedSimpArgs false
theorem bb_step {w c u : World} (hb : Below c.heap.size c u) (h : Below w.heap.size w c) : Below w.heap.size w u := h.trans (hb.mono h.size)
theorem isd_of (n : Nat) (hn : n < 9) : isdt ((n : Int) + 1) = true := by simp [isdt]; omega
theorem cell4 {W1 : World} {b : Nat} {u0 u1 u2 u3 : Value} {t : Nat} (h : W1.heap[b]? = some (.cells #[u0, u1, u2, u3] t (0, 0))) (x y z v : Value) : ((((W1.setCell ⟨b, 0, none⟩ x).setCell ⟨b, 1, none⟩ y).setCell ⟨b, 2, none⟩ z).setCell ⟨b, 3, none⟩ v).heap[b]? = some (.cells #[x, y, z, v] t (0, 0)) := by
  have h1 := blk_put (cs := #[u0, u1, u2, u3]) h 0 x rfl
  have h2 := blk_put h1 1 y rfl
  have h3 := blk_put h2 2 z rfl
  exact blk_put h3 3 v rfl
/-- A slice that reads as the text l, then and later. -/
def CVT (w : World) (v : Value) (l : List UInt8) : Prop := ∀ u, Below w.heap.size w u → (convert 52 9 v).run Tryz.prog u = .ok (SB l) u
/-- What impl.ParseCell answers. -/
def PR (c i : Int) (f g : Nat) (w : World) (e : Ending) (w' : World) : Prop := e = .returned (.agg #[.int .i64 c, .int .i64 i, .float .f64 f, .float .f64 g]) ∧ Below w.heap.size w w'
attribute [local go_sem] run_store_float'
set_option maxHeartbeats 4000000 in
theorem parse_nodt (dt : Int) (v : Value) (w : World) (hd : isdt dt = false) : Calls Tryz.prog 25 #[.int .i64 dt, v] w (PR 14 0 0 0 w) := by
  unfold PR
  have I := Lib.hid (fun u => impl_isd dt u)
  rw [hd] at I
  clear hd
  go_enter Tryz.func25, Tryz.ntmps25
  go_wp2_with fail
  refine (I.out _).mono ?_
  rintro e w1 ⟨rfl, hw⟩
  have BK4 : Aside0 (w1.heap[w.heap.size]? = some (.cells #[(.int .i64 0), (.int .i64 0), (.float .f64 0), (.float .f64 0)] 61 (0, 0))) := ⟨by rw [← hw]; first | (rw [heap_alloc_get, heap_alloc_get]; simp; done) | (simp [World.setCell, World.alloc, -World.alloc_eq, Array.getElem?_modify, Array.getElem?_push]; done)⟩
  have BK5 : Aside0 (w1.heap[w.heap.size + 1]? = some (.cells #[(.int .i64 14), (.int .i64 0), (.float .f64 0), (.float .f64 0)] 61 (0, 0))) := ⟨by rw [← hw]; first | (rw [heap_alloc_get, heap_alloc_get]; simp; done) | (simp [World.setCell, World.alloc, -World.alloc_eq, Array.getElem?_modify, Array.getElem?_push]; done)⟩
  have BB : Aside0 (Below w.heap.size w w1) := ⟨by rw [← hw]; repeat (first | exact Below.refl _ _ | ((with_reducible refine Below.alloc ?_ ?ha _); (case ha => (simp; try omega))) | ((with_reducible refine Below.setCell ?_ ?hs _); (case hs => (simp; try omega))))⟩
  clear hw
  have k0 : w1.cell? ⟨w.heap.size, 0, none⟩ = some (.int .i64 0) := (blk_cell BK4.out 0).trans rfl
  have fk0 : w1.frozen? ⟨w.heap.size, 0, none⟩ = false := blk_frozen BK4.out 0
  have k1 : w1.cell? ⟨w.heap.size, 1, none⟩ = some (.int .i64 0) := (blk_cell BK4.out 1).trans rfl
  have fk1 : w1.frozen? ⟨w.heap.size, 1, none⟩ = false := blk_frozen BK4.out 1
  have k2 : w1.cell? ⟨w.heap.size, 2, none⟩ = some (.float .f64 0) := (blk_cell BK4.out 2).trans rfl
  have fk2 : w1.frozen? ⟨w.heap.size, 2, none⟩ = false := blk_frozen BK4.out 2
  have k3 : w1.cell? ⟨w.heap.size, 3, none⟩ = some (.float .f64 0) := (blk_cell BK4.out 3).trans rfl
  have fk3 : w1.frozen? ⟨w.heap.size, 3, none⟩ = false := blk_frozen BK4.out 3
  have d0 : w1.cell? ⟨w.heap.size + 1, 0, none⟩ = some (.int .i64 14) := (blk_cell BK5.out 0).trans rfl
  have fd0 : w1.frozen? ⟨w.heap.size + 1, 0, none⟩ = false := blk_frozen BK5.out 0
  have d1 : w1.cell? ⟨w.heap.size + 1, 1, none⟩ = some (.int .i64 0) := (blk_cell BK5.out 1).trans rfl
  have fd1 : w1.frozen? ⟨w.heap.size + 1, 1, none⟩ = false := blk_frozen BK5.out 1
  have d2 : w1.cell? ⟨w.heap.size + 1, 2, none⟩ = some (.float .f64 0) := (blk_cell BK5.out 2).trans rfl
  have fd2 : w1.frozen? ⟨w.heap.size + 1, 2, none⟩ = false := blk_frozen BK5.out 2
  have d3 : w1.cell? ⟨w.heap.size + 1, 3, none⟩ = some (.float .f64 0) := (blk_cell BK5.out 3).trans rfl
  have fd3 : w1.frozen? ⟨w.heap.size + 1, 3, none⟩ = false := blk_frozen BK5.out 3
  go_wp2_with fail
  all_goals refine bodyPost_ret (results_cell_row rfl _ _ (w.heap.size) 61 #[_, _, _, _] (0, 0) _ rfl (cell4 (by repeat (first | (with_reducible exact BK4.out) | (with_reducible refine blk_drewN ?_ _) | (with_reducible refine blk_drew ?_))) _ _ _ _) Tryz.underlying61 rfl (by kernel_rfl)) rfl ?_
  all_goals exact ⟨rfl, (by repeat (first | (with_reducible exact BB.out) | (with_reducible apply Vc.below_drewN) | (with_reducible apply Below.drew) | ((with_reducible refine Below.setCell ?_ ?hs _); (case hs => first | omega | (simp; try omega)))))⟩
theorem single_run (x : Nat) (hx : x < 18446744073709551616) (w : World) : Calls Tryz.prog 74 #[.float .f64 x] w fun e w' => ∃ y, e = .returned (.float .f64 y) ∧ Through x y ∧ Below w.heap.size w w' := by
  obtain ⟨t, n, y, m, h1, h2, ht⟩ := through_run x hx w
  have HT := Lib.hid ht
  clear ht
  go_enter Tryz.func74, Tryz.ntmps74
  go_wp2
  go_ret
  exact ⟨y, rfl, HT.out, below_drewN (Below.refl _ _) (n + m)⟩
set_option maxRecDepth 20000 in
set_option maxHeartbeats 4000000 in
theorem parse_f64 (n : Nat) (hn : n < 9) (v : Value) (l : List UInt8) (w : World) (hT : Table.Holds w) (hM : MLen w) (hc : CVT w v l) (hk : kindI ((n : Int) + 1) = 2) (h7 : ¬ (n : Int) + 1 = 7) (x : Nat) (hp : PF l x) : Calls Tryz.prog 25 #[.int .i64 ((n : Int) + 1), v] w (PR 0 0 x 0 w) := by
  unfold PR
  have h0 : 0 < w.heap.size := World.block_lt_of_cell? w _ (hT 0 0 (by omega) (by omega))
  have HT := Lib.hid hT
  have HM := Lib.hid hM
  have HC := Lib.hid hc
  have I := Lib.hid (fun u => impl_isd ((n : Int) + 1) u)
  rw [isd_of n hn] at I
  have hns : ((n : Int) + 1).toNat = n + 1 := by omega
  have hlt : (n : Int) + 1 < 10 := by omega
  have P := Lib.hid hp
  have h7b : ((n : Int) + 1 == 7) = false := beq_eq_false_iff_ne.mpr h7
  have HK := Lib.hid hk
  clear hp h7 hk
  clear hT hM hc
  go_enter Tryz.func25, Tryz.ntmps25
  go_wp2_with fail
  refine (I.out _).mono ?_
  rintro e w1 ⟨rfl, hw⟩
  have BK4 : Aside0 (w1.heap[w.heap.size]? = some (.cells #[(.int .i64 0), (.int .i64 0), (.float .f64 0), (.float .f64 0)] 61 (0, 0))) := ⟨by rw [← hw]; first | (rw [heap_alloc_get, heap_alloc_get]; simp; done) | (simp [World.setCell, World.alloc, -World.alloc_eq, Array.getElem?_modify, Array.getElem?_push]; done)⟩
  have BK5 : Aside0 (w1.heap[w.heap.size + 1]? = some (.cells #[(.int .i64 14), (.int .i64 0), (.float .f64 0), (.float .f64 0)] 61 (0, 0))) := ⟨by rw [← hw]; first | (rw [heap_alloc_get, heap_alloc_get]; simp; done) | (simp [World.setCell, World.alloc, -World.alloc_eq, Array.getElem?_modify, Array.getElem?_push]; done)⟩
  have BB : Aside0 (Below w.heap.size w w1) := ⟨by rw [← hw]; repeat (first | exact Below.refl _ _ | ((with_reducible refine Below.alloc ?_ ?ha _); (case ha => (simp; try omega))) | ((with_reducible refine Below.setCell ?_ ?hs _); (case hs => (simp; try omega))))⟩
  clear hw
  have k0 : w1.cell? ⟨w.heap.size, 0, none⟩ = some (.int .i64 0) := (blk_cell BK4.out 0).trans rfl
  have fk0 : w1.frozen? ⟨w.heap.size, 0, none⟩ = false := blk_frozen BK4.out 0
  have k1 : w1.cell? ⟨w.heap.size, 1, none⟩ = some (.int .i64 0) := (blk_cell BK4.out 1).trans rfl
  have fk1 : w1.frozen? ⟨w.heap.size, 1, none⟩ = false := blk_frozen BK4.out 1
  have k2 : w1.cell? ⟨w.heap.size, 2, none⟩ = some (.float .f64 0) := (blk_cell BK4.out 2).trans rfl
  have fk2 : w1.frozen? ⟨w.heap.size, 2, none⟩ = false := blk_frozen BK4.out 2
  have k3 : w1.cell? ⟨w.heap.size, 3, none⟩ = some (.float .f64 0) := (blk_cell BK4.out 3).trans rfl
  have fk3 : w1.frozen? ⟨w.heap.size, 3, none⟩ = false := blk_frozen BK4.out 3
  have d0 : w1.cell? ⟨w.heap.size + 1, 0, none⟩ = some (.int .i64 14) := (blk_cell BK5.out 0).trans rfl
  have fd0 : w1.frozen? ⟨w.heap.size + 1, 0, none⟩ = false := blk_frozen BK5.out 0
  have d1 : w1.cell? ⟨w.heap.size + 1, 1, none⟩ = some (.int .i64 0) := (blk_cell BK5.out 1).trans rfl
  have fd1 : w1.frozen? ⟨w.heap.size + 1, 1, none⟩ = false := blk_frozen BK5.out 1
  have d2 : w1.cell? ⟨w.heap.size + 1, 2, none⟩ = some (.float .f64 0) := (blk_cell BK5.out 2).trans rfl
  have fd2 : w1.frozen? ⟨w.heap.size + 1, 2, none⟩ = false := blk_frozen BK5.out 2
  have d3 : w1.cell? ⟨w.heap.size + 1, 3, none⟩ = some (.float .f64 0) := (blk_cell BK5.out 3).trans rfl
  have fd3 : w1.frozen? ⟨w.heap.size + 1, 3, none⟩ = false := blk_frozen BK5.out 3
  have hcv := HC.out w1 BB.out
  have r0 : w1.cell? ⟨0, (n + 1) * 5, none⟩ = some (.int .i64 (kindI ((n : Int) + 1))) := (row_of (Table.holds_below HT.out BB.out h0) n hn).1
  rw [HK.out] at r0
  go_wp2_with fail
  refine (P.out _ (mlen_below HM.out (by repeat (first | (with_reducible exact BB.out) | (with_reducible apply Vc.below_drewN) | (with_reducible apply Below.drew) | ((with_reducible refine Below.setCell ?_ ?hs _); (case hs => first | omega | (simp; try omega))))))).mono ?_
  rintro e w2 ⟨rfl, hb⟩
  replace BK4 := Aside0.mk (blk_below (g := w.heap.size) (o := .cells #[(.int .i64 0), (.int .i64 0), (.float .f64 0), (.float .f64 0)] 61 (0, 0)) (by repeat (first | (with_reducible exact BK4.out) | (with_reducible refine blk_drewN ?_ _) | (with_reducible refine blk_drew ?_))) hb)
  replace BK5 := Aside0.mk (blk_below (g := w.heap.size + 1) (o := .cells #[(.int .i64 14), (.int .i64 0), (.float .f64 0), (.float .f64 0)] 61 (0, 0)) (by repeat (first | (with_reducible exact BK5.out) | (with_reducible refine blk_drewN ?_ _) | (with_reducible refine blk_drew ?_))) hb)
  replace BB := Aside0.mk (bb_step hb (by repeat (first | (with_reducible exact BB.out) | (with_reducible apply Vc.below_drewN) | (with_reducible apply Below.drew) | ((with_reducible refine Below.setCell ?_ ?hs _); (case hs => first | omega | (simp; try omega))))))
  clear hb
  have k0 : w2.cell? ⟨w.heap.size, 0, none⟩ = some (.int .i64 0) := (blk_cell BK4.out 0).trans rfl
  have fk0 : w2.frozen? ⟨w.heap.size, 0, none⟩ = false := blk_frozen BK4.out 0
  have k1 : w2.cell? ⟨w.heap.size, 1, none⟩ = some (.int .i64 0) := (blk_cell BK4.out 1).trans rfl
  have fk1 : w2.frozen? ⟨w.heap.size, 1, none⟩ = false := blk_frozen BK4.out 1
  have k2 : w2.cell? ⟨w.heap.size, 2, none⟩ = some (.float .f64 0) := (blk_cell BK4.out 2).trans rfl
  have fk2 : w2.frozen? ⟨w.heap.size, 2, none⟩ = false := blk_frozen BK4.out 2
  have k3 : w2.cell? ⟨w.heap.size, 3, none⟩ = some (.float .f64 0) := (blk_cell BK4.out 3).trans rfl
  have fk3 : w2.frozen? ⟨w.heap.size, 3, none⟩ = false := blk_frozen BK4.out 3
  have d0 : w2.cell? ⟨w.heap.size + 1, 0, none⟩ = some (.int .i64 14) := (blk_cell BK5.out 0).trans rfl
  have fd0 : w2.frozen? ⟨w.heap.size + 1, 0, none⟩ = false := blk_frozen BK5.out 0
  have d1 : w2.cell? ⟨w.heap.size + 1, 1, none⟩ = some (.int .i64 0) := (blk_cell BK5.out 1).trans rfl
  have fd1 : w2.frozen? ⟨w.heap.size + 1, 1, none⟩ = false := blk_frozen BK5.out 1
  have d2 : w2.cell? ⟨w.heap.size + 1, 2, none⟩ = some (.float .f64 0) := (blk_cell BK5.out 2).trans rfl
  have fd2 : w2.frozen? ⟨w.heap.size + 1, 2, none⟩ = false := blk_frozen BK5.out 2
  have d3 : w2.cell? ⟨w.heap.size + 1, 3, none⟩ = some (.float .f64 0) := (blk_cell BK5.out 3).trans rfl
  have fd3 : w2.frozen? ⟨w.heap.size + 1, 3, none⟩ = false := blk_frozen BK5.out 3
  go_wp2_with fail
  all_goals refine bodyPost_ret (results_cell_row rfl _ _ (w.heap.size) 61 #[_, _, _, _] (0, 0) _ rfl (cell4 (by repeat (first | (with_reducible exact BK4.out) | (with_reducible refine blk_drewN ?_ _) | (with_reducible refine blk_drew ?_))) _ _ _ _) Tryz.underlying61 rfl (by kernel_rfl)) rfl ?_
  all_goals exact ⟨rfl, (by repeat (first | (with_reducible exact BB.out) | (with_reducible apply Vc.below_drewN) | (with_reducible apply Below.drew) | ((with_reducible refine Below.setCell ?_ ?hs _); (case hs => first | omega | (simp; try omega)))))⟩
set_option maxRecDepth 20000 in
set_option maxHeartbeats 4000000 in
theorem parse_f32 (n : Nat) (hn : n < 9) (v : Value) (l : List UInt8) (w : World) (hT : Table.Holds w) (hM : MLen w) (hc : CVT w v l) (hk : kindI ((n : Int) + 1) = 2) (h7 : (n : Int) + 1 = 7) (x : Nat) (hx : x < 18446744073709551616) (hp : PF l x) : Calls Tryz.prog 25 #[.int .i64 ((n : Int) + 1), v] w (fun e w' => ∃ y, Through x y ∧ PR 0 0 y 0 w e w') := by
  unfold PR
  have h0 : 0 < w.heap.size := World.block_lt_of_cell? w _ (hT 0 0 (by omega) (by omega))
  have HT := Lib.hid hT
  have HM := Lib.hid hM
  have HC := Lib.hid hc
  have I := Lib.hid (fun u => impl_isd ((n : Int) + 1) u)
  rw [isd_of n hn] at I
  have hns : ((n : Int) + 1).toNat = n + 1 := by omega
  have hlt : (n : Int) + 1 < 10 := by omega
  have P := Lib.hid hp
  have h7b : ((n : Int) + 1 == 7) = true := beq_iff_eq.mpr h7
  have HK := Lib.hid hk
  have SR := Lib.hid (fun u => single_run x hx u)
  clear hp h7 hk hx
  clear hT hM hc
  go_enter Tryz.func25, Tryz.ntmps25
  go_wp2_with fail
  refine (I.out _).mono ?_
  rintro e w1 ⟨rfl, hw⟩
  have BK4 : Aside0 (w1.heap[w.heap.size]? = some (.cells #[(.int .i64 0), (.int .i64 0), (.float .f64 0), (.float .f64 0)] 61 (0, 0))) := ⟨by rw [← hw]; first | (rw [heap_alloc_get, heap_alloc_get]; simp; done) | (simp [World.setCell, World.alloc, -World.alloc_eq, Array.getElem?_modify, Array.getElem?_push]; done)⟩
  have BK5 : Aside0 (w1.heap[w.heap.size + 1]? = some (.cells #[(.int .i64 14), (.int .i64 0), (.float .f64 0), (.float .f64 0)] 61 (0, 0))) := ⟨by rw [← hw]; first | (rw [heap_alloc_get, heap_alloc_get]; simp; done) | (simp [World.setCell, World.alloc, -World.alloc_eq, Array.getElem?_modify, Array.getElem?_push]; done)⟩
  have BB : Aside0 (Below w.heap.size w w1) := ⟨by rw [← hw]; repeat (first | exact Below.refl _ _ | ((with_reducible refine Below.alloc ?_ ?ha _); (case ha => (simp; try omega))) | ((with_reducible refine Below.setCell ?_ ?hs _); (case hs => (simp; try omega))))⟩
  clear hw
  have k0 : w1.cell? ⟨w.heap.size, 0, none⟩ = some (.int .i64 0) := (blk_cell BK4.out 0).trans rfl
  have fk0 : w1.frozen? ⟨w.heap.size, 0, none⟩ = false := blk_frozen BK4.out 0
  have k1 : w1.cell? ⟨w.heap.size, 1, none⟩ = some (.int .i64 0) := (blk_cell BK4.out 1).trans rfl
  have fk1 : w1.frozen? ⟨w.heap.size, 1, none⟩ = false := blk_frozen BK4.out 1
  have k2 : w1.cell? ⟨w.heap.size, 2, none⟩ = some (.float .f64 0) := (blk_cell BK4.out 2).trans rfl
  have fk2 : w1.frozen? ⟨w.heap.size, 2, none⟩ = false := blk_frozen BK4.out 2
  have k3 : w1.cell? ⟨w.heap.size, 3, none⟩ = some (.float .f64 0) := (blk_cell BK4.out 3).trans rfl
  have fk3 : w1.frozen? ⟨w.heap.size, 3, none⟩ = false := blk_frozen BK4.out 3
  have d0 : w1.cell? ⟨w.heap.size + 1, 0, none⟩ = some (.int .i64 14) := (blk_cell BK5.out 0).trans rfl
  have fd0 : w1.frozen? ⟨w.heap.size + 1, 0, none⟩ = false := blk_frozen BK5.out 0
  have d1 : w1.cell? ⟨w.heap.size + 1, 1, none⟩ = some (.int .i64 0) := (blk_cell BK5.out 1).trans rfl
  have fd1 : w1.frozen? ⟨w.heap.size + 1, 1, none⟩ = false := blk_frozen BK5.out 1
  have d2 : w1.cell? ⟨w.heap.size + 1, 2, none⟩ = some (.float .f64 0) := (blk_cell BK5.out 2).trans rfl
  have fd2 : w1.frozen? ⟨w.heap.size + 1, 2, none⟩ = false := blk_frozen BK5.out 2
  have d3 : w1.cell? ⟨w.heap.size + 1, 3, none⟩ = some (.float .f64 0) := (blk_cell BK5.out 3).trans rfl
  have fd3 : w1.frozen? ⟨w.heap.size + 1, 3, none⟩ = false := blk_frozen BK5.out 3
  have hcv := HC.out w1 BB.out
  have r0 : w1.cell? ⟨0, (n + 1) * 5, none⟩ = some (.int .i64 (kindI ((n : Int) + 1))) := (row_of (Table.holds_below HT.out BB.out h0) n hn).1
  rw [HK.out] at r0
  go_wp2_with fail
  refine (P.out _ (mlen_below HM.out (by repeat (first | (with_reducible exact BB.out) | (with_reducible apply Vc.below_drewN) | (with_reducible apply Below.drew) | ((with_reducible refine Below.setCell ?_ ?hs _); (case hs => first | omega | (simp; try omega))))))).mono ?_
  rintro e w2 ⟨rfl, hb⟩
  replace BK4 := Aside0.mk (blk_below (g := w.heap.size) (o := .cells #[(.int .i64 0), (.int .i64 0), (.float .f64 0), (.float .f64 0)] 61 (0, 0)) (by repeat (first | (with_reducible exact BK4.out) | (with_reducible refine blk_drewN ?_ _) | (with_reducible refine blk_drew ?_))) hb)
  replace BK5 := Aside0.mk (blk_below (g := w.heap.size + 1) (o := .cells #[(.int .i64 14), (.int .i64 0), (.float .f64 0), (.float .f64 0)] 61 (0, 0)) (by repeat (first | (with_reducible exact BK5.out) | (with_reducible refine blk_drewN ?_ _) | (with_reducible refine blk_drew ?_))) hb)
  replace BB := Aside0.mk (bb_step hb (by repeat (first | (with_reducible exact BB.out) | (with_reducible apply Vc.below_drewN) | (with_reducible apply Below.drew) | ((with_reducible refine Below.setCell ?_ ?hs _); (case hs => first | omega | (simp; try omega))))))
  clear hb
  have k0 : w2.cell? ⟨w.heap.size, 0, none⟩ = some (.int .i64 0) := (blk_cell BK4.out 0).trans rfl
  have fk0 : w2.frozen? ⟨w.heap.size, 0, none⟩ = false := blk_frozen BK4.out 0
  have k1 : w2.cell? ⟨w.heap.size, 1, none⟩ = some (.int .i64 0) := (blk_cell BK4.out 1).trans rfl
  have fk1 : w2.frozen? ⟨w.heap.size, 1, none⟩ = false := blk_frozen BK4.out 1
  have k2 : w2.cell? ⟨w.heap.size, 2, none⟩ = some (.float .f64 0) := (blk_cell BK4.out 2).trans rfl
  have fk2 : w2.frozen? ⟨w.heap.size, 2, none⟩ = false := blk_frozen BK4.out 2
  have k3 : w2.cell? ⟨w.heap.size, 3, none⟩ = some (.float .f64 0) := (blk_cell BK4.out 3).trans rfl
  have fk3 : w2.frozen? ⟨w.heap.size, 3, none⟩ = false := blk_frozen BK4.out 3
  have d0 : w2.cell? ⟨w.heap.size + 1, 0, none⟩ = some (.int .i64 14) := (blk_cell BK5.out 0).trans rfl
  have fd0 : w2.frozen? ⟨w.heap.size + 1, 0, none⟩ = false := blk_frozen BK5.out 0
  have d1 : w2.cell? ⟨w.heap.size + 1, 1, none⟩ = some (.int .i64 0) := (blk_cell BK5.out 1).trans rfl
  have fd1 : w2.frozen? ⟨w.heap.size + 1, 1, none⟩ = false := blk_frozen BK5.out 1
  have d2 : w2.cell? ⟨w.heap.size + 1, 2, none⟩ = some (.float .f64 0) := (blk_cell BK5.out 2).trans rfl
  have fd2 : w2.frozen? ⟨w.heap.size + 1, 2, none⟩ = false := blk_frozen BK5.out 2
  have d3 : w2.cell? ⟨w.heap.size + 1, 3, none⟩ = some (.float .f64 0) := (blk_cell BK5.out 3).trans rfl
  have fd3 : w2.frozen? ⟨w.heap.size + 1, 3, none⟩ = false := blk_frozen BK5.out 3
  go_wp2_with fail
  refine (SR.out _).mono ?_
  rintro e w3 ⟨y, rfl, hth, hb⟩
  have TH := Lib.hid hth
  clear hth
  replace BK4 := Aside0.mk (blk_below (g := w.heap.size) (o := .cells #[(.int .i64 0), (.int .i64 0), (.float .f64 0), (.float .f64 0)] 61 (0, 0)) (by repeat (first | (with_reducible exact BK4.out) | (with_reducible refine blk_drewN ?_ _) | (with_reducible refine blk_drew ?_))) hb)
  replace BK5 := Aside0.mk (blk_below (g := w.heap.size + 1) (o := .cells #[(.int .i64 14), (.int .i64 0), (.float .f64 0), (.float .f64 0)] 61 (0, 0)) (by repeat (first | (with_reducible exact BK5.out) | (with_reducible refine blk_drewN ?_ _) | (with_reducible refine blk_drew ?_))) hb)
  replace BB := Aside0.mk (bb_step hb (by repeat (first | (with_reducible exact BB.out) | (with_reducible apply Vc.below_drewN) | (with_reducible apply Below.drew) | ((with_reducible refine Below.setCell ?_ ?hs _); (case hs => first | omega | (simp; try omega))))))
  clear hb
  have k0 : w3.cell? ⟨w.heap.size, 0, none⟩ = some (.int .i64 0) := (blk_cell BK4.out 0).trans rfl
  have fk0 : w3.frozen? ⟨w.heap.size, 0, none⟩ = false := blk_frozen BK4.out 0
  have k1 : w3.cell? ⟨w.heap.size, 1, none⟩ = some (.int .i64 0) := (blk_cell BK4.out 1).trans rfl
  have fk1 : w3.frozen? ⟨w.heap.size, 1, none⟩ = false := blk_frozen BK4.out 1
  have k2 : w3.cell? ⟨w.heap.size, 2, none⟩ = some (.float .f64 0) := (blk_cell BK4.out 2).trans rfl
  have fk2 : w3.frozen? ⟨w.heap.size, 2, none⟩ = false := blk_frozen BK4.out 2
  have k3 : w3.cell? ⟨w.heap.size, 3, none⟩ = some (.float .f64 0) := (blk_cell BK4.out 3).trans rfl
  have fk3 : w3.frozen? ⟨w.heap.size, 3, none⟩ = false := blk_frozen BK4.out 3
  have d0 : w3.cell? ⟨w.heap.size + 1, 0, none⟩ = some (.int .i64 14) := (blk_cell BK5.out 0).trans rfl
  have fd0 : w3.frozen? ⟨w.heap.size + 1, 0, none⟩ = false := blk_frozen BK5.out 0
  have d1 : w3.cell? ⟨w.heap.size + 1, 1, none⟩ = some (.int .i64 0) := (blk_cell BK5.out 1).trans rfl
  have fd1 : w3.frozen? ⟨w.heap.size + 1, 1, none⟩ = false := blk_frozen BK5.out 1
  have d2 : w3.cell? ⟨w.heap.size + 1, 2, none⟩ = some (.float .f64 0) := (blk_cell BK5.out 2).trans rfl
  have fd2 : w3.frozen? ⟨w.heap.size + 1, 2, none⟩ = false := blk_frozen BK5.out 2
  have d3 : w3.cell? ⟨w.heap.size + 1, 3, none⟩ = some (.float .f64 0) := (blk_cell BK5.out 3).trans rfl
  have fd3 : w3.frozen? ⟨w.heap.size + 1, 3, none⟩ = false := blk_frozen BK5.out 3
  go_wp2_with fail
  all_goals refine bodyPost_ret (results_cell_row rfl _ _ (w.heap.size) 61 #[_, _, _, _] (0, 0) _ rfl (cell4 (by repeat (first | (with_reducible exact BK4.out) | (with_reducible refine blk_drewN ?_ _) | (with_reducible refine blk_drew ?_))) _ _ _ _) Tryz.underlying61 rfl (by kernel_rfl)) rfl ?_
  all_goals exact ⟨y, TH.out, rfl, (by repeat (first | (with_reducible exact BB.out) | (with_reducible apply Vc.below_drewN) | (with_reducible apply Below.drew) | ((with_reducible refine Below.setCell ?_ ?hs _); (case hs => first | omega | (simp; try omega)))))⟩
set_option maxRecDepth 20000 in
set_option maxHeartbeats 4000000 in
theorem parse_fbad (n : Nat) (hn : n < 9) (v : Value) (l : List UInt8) (w : World) (hT : Table.Holds w) (hM : MLen w) (hc : CVT w v l) (hk : kindI ((n : Int) + 1) = 2) (hl : l = []) : Calls Tryz.prog 25 #[.int .i64 ((n : Int) + 1), v] w (PR 14 0 0 0 w) := by
  unfold PR
  have h0 : 0 < w.heap.size := World.block_lt_of_cell? w _ (hT 0 0 (by omega) (by omega))
  have HT := Lib.hid hT
  have HM := Lib.hid hM
  have HC := Lib.hid hc
  have I := Lib.hid (fun u => impl_isd ((n : Int) + 1) u)
  rw [isd_of n hn] at I
  have hns : ((n : Int) + 1).toNat = n + 1 := by omega
  have hlt : (n : Int) + 1 < 10 := by omega
  subst hl
  have HK := Lib.hid hk
  clear hk
  clear hT hM hc
  go_enter Tryz.func25, Tryz.ntmps25
  go_wp2_with fail
  refine (I.out _).mono ?_
  rintro e w1 ⟨rfl, hw⟩
  have BK4 : Aside0 (w1.heap[w.heap.size]? = some (.cells #[(.int .i64 0), (.int .i64 0), (.float .f64 0), (.float .f64 0)] 61 (0, 0))) := ⟨by rw [← hw]; first | (rw [heap_alloc_get, heap_alloc_get]; simp; done) | (simp [World.setCell, World.alloc, -World.alloc_eq, Array.getElem?_modify, Array.getElem?_push]; done)⟩
  have BK5 : Aside0 (w1.heap[w.heap.size + 1]? = some (.cells #[(.int .i64 14), (.int .i64 0), (.float .f64 0), (.float .f64 0)] 61 (0, 0))) := ⟨by rw [← hw]; first | (rw [heap_alloc_get, heap_alloc_get]; simp; done) | (simp [World.setCell, World.alloc, -World.alloc_eq, Array.getElem?_modify, Array.getElem?_push]; done)⟩
  have BB : Aside0 (Below w.heap.size w w1) := ⟨by rw [← hw]; repeat (first | exact Below.refl _ _ | ((with_reducible refine Below.alloc ?_ ?ha _); (case ha => (simp; try omega))) | ((with_reducible refine Below.setCell ?_ ?hs _); (case hs => (simp; try omega))))⟩
  clear hw
  have k0 : w1.cell? ⟨w.heap.size, 0, none⟩ = some (.int .i64 0) := (blk_cell BK4.out 0).trans rfl
  have fk0 : w1.frozen? ⟨w.heap.size, 0, none⟩ = false := blk_frozen BK4.out 0
  have k1 : w1.cell? ⟨w.heap.size, 1, none⟩ = some (.int .i64 0) := (blk_cell BK4.out 1).trans rfl
  have fk1 : w1.frozen? ⟨w.heap.size, 1, none⟩ = false := blk_frozen BK4.out 1
  have k2 : w1.cell? ⟨w.heap.size, 2, none⟩ = some (.float .f64 0) := (blk_cell BK4.out 2).trans rfl
  have fk2 : w1.frozen? ⟨w.heap.size, 2, none⟩ = false := blk_frozen BK4.out 2
  have k3 : w1.cell? ⟨w.heap.size, 3, none⟩ = some (.float .f64 0) := (blk_cell BK4.out 3).trans rfl
  have fk3 : w1.frozen? ⟨w.heap.size, 3, none⟩ = false := blk_frozen BK4.out 3
  have d0 : w1.cell? ⟨w.heap.size + 1, 0, none⟩ = some (.int .i64 14) := (blk_cell BK5.out 0).trans rfl
  have fd0 : w1.frozen? ⟨w.heap.size + 1, 0, none⟩ = false := blk_frozen BK5.out 0
  have d1 : w1.cell? ⟨w.heap.size + 1, 1, none⟩ = some (.int .i64 0) := (blk_cell BK5.out 1).trans rfl
  have fd1 : w1.frozen? ⟨w.heap.size + 1, 1, none⟩ = false := blk_frozen BK5.out 1
  have d2 : w1.cell? ⟨w.heap.size + 1, 2, none⟩ = some (.float .f64 0) := (blk_cell BK5.out 2).trans rfl
  have fd2 : w1.frozen? ⟨w.heap.size + 1, 2, none⟩ = false := blk_frozen BK5.out 2
  have d3 : w1.cell? ⟨w.heap.size + 1, 3, none⟩ = some (.float .f64 0) := (blk_cell BK5.out 3).trans rfl
  have fd3 : w1.frozen? ⟨w.heap.size + 1, 3, none⟩ = false := blk_frozen BK5.out 3
  have hcv := HC.out w1 BB.out
  have r0 : w1.cell? ⟨0, (n + 1) * 5, none⟩ = some (.int .i64 (kindI ((n : Int) + 1))) := (row_of (Table.holds_below HT.out BB.out h0) n hn).1
  rw [HK.out] at r0
  go_wp2_with fail
  refine (pf_empty _ (mlen_below HM.out (by repeat (first | (with_reducible exact BB.out) | (with_reducible apply Vc.below_drewN) | (with_reducible apply Below.drew) | ((with_reducible refine Below.setCell ?_ ?hs _); (case hs => first | omega | (simp; try omega))))))).mono ?_
  rintro e w2 ⟨rfl, hb⟩
  replace BK4 := Aside0.mk (blk_below (g := w.heap.size) (o := .cells #[(.int .i64 0), (.int .i64 0), (.float .f64 0), (.float .f64 0)] 61 (0, 0)) (by repeat (first | (with_reducible exact BK4.out) | (with_reducible refine blk_drewN ?_ _) | (with_reducible refine blk_drew ?_))) hb)
  replace BK5 := Aside0.mk (blk_below (g := w.heap.size + 1) (o := .cells #[(.int .i64 14), (.int .i64 0), (.float .f64 0), (.float .f64 0)] 61 (0, 0)) (by repeat (first | (with_reducible exact BK5.out) | (with_reducible refine blk_drewN ?_ _) | (with_reducible refine blk_drew ?_))) hb)
  replace BB := Aside0.mk (bb_step hb (by repeat (first | (with_reducible exact BB.out) | (with_reducible apply Vc.below_drewN) | (with_reducible apply Below.drew) | ((with_reducible refine Below.setCell ?_ ?hs _); (case hs => first | omega | (simp; try omega))))))
  clear hb
  have k0 : w2.cell? ⟨w.heap.size, 0, none⟩ = some (.int .i64 0) := (blk_cell BK4.out 0).trans rfl
  have fk0 : w2.frozen? ⟨w.heap.size, 0, none⟩ = false := blk_frozen BK4.out 0
  have k1 : w2.cell? ⟨w.heap.size, 1, none⟩ = some (.int .i64 0) := (blk_cell BK4.out 1).trans rfl
  have fk1 : w2.frozen? ⟨w.heap.size, 1, none⟩ = false := blk_frozen BK4.out 1
  have k2 : w2.cell? ⟨w.heap.size, 2, none⟩ = some (.float .f64 0) := (blk_cell BK4.out 2).trans rfl
  have fk2 : w2.frozen? ⟨w.heap.size, 2, none⟩ = false := blk_frozen BK4.out 2
  have k3 : w2.cell? ⟨w.heap.size, 3, none⟩ = some (.float .f64 0) := (blk_cell BK4.out 3).trans rfl
  have fk3 : w2.frozen? ⟨w.heap.size, 3, none⟩ = false := blk_frozen BK4.out 3
  have d0 : w2.cell? ⟨w.heap.size + 1, 0, none⟩ = some (.int .i64 14) := (blk_cell BK5.out 0).trans rfl
  have fd0 : w2.frozen? ⟨w.heap.size + 1, 0, none⟩ = false := blk_frozen BK5.out 0
  have d1 : w2.cell? ⟨w.heap.size + 1, 1, none⟩ = some (.int .i64 0) := (blk_cell BK5.out 1).trans rfl
  have fd1 : w2.frozen? ⟨w.heap.size + 1, 1, none⟩ = false := blk_frozen BK5.out 1
  have d2 : w2.cell? ⟨w.heap.size + 1, 2, none⟩ = some (.float .f64 0) := (blk_cell BK5.out 2).trans rfl
  have fd2 : w2.frozen? ⟨w.heap.size + 1, 2, none⟩ = false := blk_frozen BK5.out 2
  have d3 : w2.cell? ⟨w.heap.size + 1, 3, none⟩ = some (.float .f64 0) := (blk_cell BK5.out 3).trans rfl
  have fd3 : w2.frozen? ⟨w.heap.size + 1, 3, none⟩ = false := blk_frozen BK5.out 3
  go_wp2_with fail
  all_goals refine bodyPost_ret (results_cell_row rfl _ _ (w.heap.size) 61 #[_, _, _, _] (0, 0) _ rfl (cell4 (by repeat (first | (with_reducible exact BK4.out) | (with_reducible refine blk_drewN ?_ _) | (with_reducible refine blk_drew ?_))) _ _ _ _) Tryz.underlying61 rfl (by kernel_rfl)) rfl ?_
  all_goals exact ⟨rfl, (by repeat (first | (with_reducible exact BB.out) | (with_reducible apply Vc.below_drewN) | (with_reducible apply Below.drew) | ((with_reducible refine Below.setCell ?_ ?hs _); (case hs => first | omega | (simp; try omega)))))⟩
set_option maxRecDepth 20000 in
set_option maxHeartbeats 4000000 in
theorem parse_int (n : Nat) (hn : n < 9) (v : Value) (l : List UInt8) (w : World) (hT : Table.Holds w) (hM : MLen w) (hc : CVT w v l) (hk : kindI ((n : Int) + 1) < 2) (i : Int) (hI : INT l i true) (hlo : Table.tabAt (n + 1) 3 ≤ i) (hhi : i ≤ Table.tabAt (n + 1) 4) : Calls Tryz.prog 25 #[.int .i64 ((n : Int) + 1), v] w (PR 0 i 0 0 w) := by
  unfold PR
  have h0 : 0 < w.heap.size := World.block_lt_of_cell? w _ (hT 0 0 (by omega) (by omega))
  have HT := Lib.hid hT
  have HM := Lib.hid hM
  have HC := Lib.hid hc
  have I := Lib.hid (fun u => impl_isd ((n : Int) + 1) u)
  rw [isd_of n hn] at I
  have hns : ((n : Int) + 1).toNat = n + 1 := by omega
  have hlt : (n : Int) + 1 < 10 := by omega
  have P := Lib.hid hI
  obtain ⟨kd, hkd⟩ : ∃ kd, kindI ((n : Int) + 1) = kd := ⟨_, rfl⟩
  rw [hkd] at hk
  have HK := Lib.hid hkd
  have k2 : (kd == 2) = false := by simp; omega
  have k3 : (kd == 3) = false := by simp; omega
  obtain ⟨lo, hlo'⟩ : ∃ lo, Table.tabAt (n + 1) 3 = lo := ⟨_, rfl⟩
  obtain ⟨hi, hhi'⟩ : ∃ hi, Table.tabAt (n + 1) 4 = hi := ⟨_, rfl⟩
  rw [hlo'] at hlo
  rw [hhi'] at hhi
  have HLO := Lib.hid hlo'
  have HHI := Lib.hid hhi'
  have b1 : ¬ i < lo := by omega
  have b2 : ¬ hi < i := by omega
  clear hI hkd hk hlo hhi hlo' hhi'
  clear hT hM hc
  go_enter Tryz.func25, Tryz.ntmps25
  go_wp2_with fail
  refine (I.out _).mono ?_
  rintro e w1 ⟨rfl, hw⟩
  have BK4 : Aside0 (w1.heap[w.heap.size]? = some (.cells #[(.int .i64 0), (.int .i64 0), (.float .f64 0), (.float .f64 0)] 61 (0, 0))) := ⟨by rw [← hw]; first | (rw [heap_alloc_get, heap_alloc_get]; simp; done) | (simp [World.setCell, World.alloc, -World.alloc_eq, Array.getElem?_modify, Array.getElem?_push]; done)⟩
  have BK5 : Aside0 (w1.heap[w.heap.size + 1]? = some (.cells #[(.int .i64 14), (.int .i64 0), (.float .f64 0), (.float .f64 0)] 61 (0, 0))) := ⟨by rw [← hw]; first | (rw [heap_alloc_get, heap_alloc_get]; simp; done) | (simp [World.setCell, World.alloc, -World.alloc_eq, Array.getElem?_modify, Array.getElem?_push]; done)⟩
  have BB : Aside0 (Below w.heap.size w w1) := ⟨by rw [← hw]; repeat (first | exact Below.refl _ _ | ((with_reducible refine Below.alloc ?_ ?ha _); (case ha => (simp; try omega))) | ((with_reducible refine Below.setCell ?_ ?hs _); (case hs => (simp; try omega))))⟩
  clear hw
  have k0 : w1.cell? ⟨w.heap.size, 0, none⟩ = some (.int .i64 0) := (blk_cell BK4.out 0).trans rfl
  have fk0 : w1.frozen? ⟨w.heap.size, 0, none⟩ = false := blk_frozen BK4.out 0
  have k1 : w1.cell? ⟨w.heap.size, 1, none⟩ = some (.int .i64 0) := (blk_cell BK4.out 1).trans rfl
  have fk1 : w1.frozen? ⟨w.heap.size, 1, none⟩ = false := blk_frozen BK4.out 1
  have k2 : w1.cell? ⟨w.heap.size, 2, none⟩ = some (.float .f64 0) := (blk_cell BK4.out 2).trans rfl
  have fk2 : w1.frozen? ⟨w.heap.size, 2, none⟩ = false := blk_frozen BK4.out 2
  have k3 : w1.cell? ⟨w.heap.size, 3, none⟩ = some (.float .f64 0) := (blk_cell BK4.out 3).trans rfl
  have fk3 : w1.frozen? ⟨w.heap.size, 3, none⟩ = false := blk_frozen BK4.out 3
  have d0 : w1.cell? ⟨w.heap.size + 1, 0, none⟩ = some (.int .i64 14) := (blk_cell BK5.out 0).trans rfl
  have fd0 : w1.frozen? ⟨w.heap.size + 1, 0, none⟩ = false := blk_frozen BK5.out 0
  have d1 : w1.cell? ⟨w.heap.size + 1, 1, none⟩ = some (.int .i64 0) := (blk_cell BK5.out 1).trans rfl
  have fd1 : w1.frozen? ⟨w.heap.size + 1, 1, none⟩ = false := blk_frozen BK5.out 1
  have d2 : w1.cell? ⟨w.heap.size + 1, 2, none⟩ = some (.float .f64 0) := (blk_cell BK5.out 2).trans rfl
  have fd2 : w1.frozen? ⟨w.heap.size + 1, 2, none⟩ = false := blk_frozen BK5.out 2
  have d3 : w1.cell? ⟨w.heap.size + 1, 3, none⟩ = some (.float .f64 0) := (blk_cell BK5.out 3).trans rfl
  have fd3 : w1.frozen? ⟨w.heap.size + 1, 3, none⟩ = false := blk_frozen BK5.out 3
  have hcv := HC.out w1 BB.out
  have r0 : w1.cell? ⟨0, (n + 1) * 5, none⟩ = some (.int .i64 (kindI ((n : Int) + 1))) := (row_of (Table.holds_below HT.out BB.out h0) n hn).1
  rw [HK.out] at r0
  go_wp2_with fail
  refine (P.out _).mono ?_
  rintro e w2 ⟨rfl, hb⟩
  replace BK4 := Aside0.mk (blk_below (g := w.heap.size) (o := .cells #[(.int .i64 0), (.int .i64 0), (.float .f64 0), (.float .f64 0)] 61 (0, 0)) (by repeat (first | (with_reducible exact BK4.out) | (with_reducible refine blk_drewN ?_ _) | (with_reducible refine blk_drew ?_))) hb)
  replace BK5 := Aside0.mk (blk_below (g := w.heap.size + 1) (o := .cells #[(.int .i64 14), (.int .i64 0), (.float .f64 0), (.float .f64 0)] 61 (0, 0)) (by repeat (first | (with_reducible exact BK5.out) | (with_reducible refine blk_drewN ?_ _) | (with_reducible refine blk_drew ?_))) hb)
  replace BB := Aside0.mk (bb_step hb (by repeat (first | (with_reducible exact BB.out) | (with_reducible apply Vc.below_drewN) | (with_reducible apply Below.drew) | ((with_reducible refine Below.setCell ?_ ?hs _); (case hs => first | omega | (simp; try omega))))))
  clear hb
  have k0 : w2.cell? ⟨w.heap.size, 0, none⟩ = some (.int .i64 0) := (blk_cell BK4.out 0).trans rfl
  have fk0 : w2.frozen? ⟨w.heap.size, 0, none⟩ = false := blk_frozen BK4.out 0
  have k1 : w2.cell? ⟨w.heap.size, 1, none⟩ = some (.int .i64 0) := (blk_cell BK4.out 1).trans rfl
  have fk1 : w2.frozen? ⟨w.heap.size, 1, none⟩ = false := blk_frozen BK4.out 1
  have k2 : w2.cell? ⟨w.heap.size, 2, none⟩ = some (.float .f64 0) := (blk_cell BK4.out 2).trans rfl
  have fk2 : w2.frozen? ⟨w.heap.size, 2, none⟩ = false := blk_frozen BK4.out 2
  have k3 : w2.cell? ⟨w.heap.size, 3, none⟩ = some (.float .f64 0) := (blk_cell BK4.out 3).trans rfl
  have fk3 : w2.frozen? ⟨w.heap.size, 3, none⟩ = false := blk_frozen BK4.out 3
  have d0 : w2.cell? ⟨w.heap.size + 1, 0, none⟩ = some (.int .i64 14) := (blk_cell BK5.out 0).trans rfl
  have fd0 : w2.frozen? ⟨w.heap.size + 1, 0, none⟩ = false := blk_frozen BK5.out 0
  have d1 : w2.cell? ⟨w.heap.size + 1, 1, none⟩ = some (.int .i64 0) := (blk_cell BK5.out 1).trans rfl
  have fd1 : w2.frozen? ⟨w.heap.size + 1, 1, none⟩ = false := blk_frozen BK5.out 1
  have d2 : w2.cell? ⟨w.heap.size + 1, 2, none⟩ = some (.float .f64 0) := (blk_cell BK5.out 2).trans rfl
  have fd2 : w2.frozen? ⟨w.heap.size + 1, 2, none⟩ = false := blk_frozen BK5.out 2
  have d3 : w2.cell? ⟨w.heap.size + 1, 3, none⟩ = some (.float .f64 0) := (blk_cell BK5.out 3).trans rfl
  have fd3 : w2.frozen? ⟨w.heap.size + 1, 3, none⟩ = false := blk_frozen BK5.out 3
  have r3 : w2.cell? ⟨0, (n + 1) * 5 + 3, none⟩ = some (.int .i64 lo) := (row_of (Table.holds_below HT.out BB.out h0) n hn).2.2.2.1.trans (by rw [HLO.out])
  have r4 : w2.cell? ⟨0, (n + 1) * 5 + 4, none⟩ = some (.int .i64 hi) := (row_of (Table.holds_below HT.out BB.out h0) n hn).2.2.2.2.trans (by rw [HHI.out])
  go_wp2_with fail
  refine (int_cell _ _).mono ?_
  rintro e w3 ⟨rfl, hb⟩
  replace BK4 := Aside0.mk (blk_below (g := w.heap.size) (o := .cells #[(.int .i64 0), (.int .i64 0), (.float .f64 0), (.float .f64 0)] 61 (0, 0)) (by repeat (first | (with_reducible exact BK4.out) | (with_reducible refine blk_drewN ?_ _) | (with_reducible refine blk_drew ?_))) hb)
  replace BK5 := Aside0.mk (blk_below (g := w.heap.size + 1) (o := .cells #[(.int .i64 14), (.int .i64 0), (.float .f64 0), (.float .f64 0)] 61 (0, 0)) (by repeat (first | (with_reducible exact BK5.out) | (with_reducible refine blk_drewN ?_ _) | (with_reducible refine blk_drew ?_))) hb)
  replace BB := Aside0.mk (bb_step hb (by repeat (first | (with_reducible exact BB.out) | (with_reducible apply Vc.below_drewN) | (with_reducible apply Below.drew) | ((with_reducible refine Below.setCell ?_ ?hs _); (case hs => first | omega | (simp; try omega))))))
  clear hb
  have k0 : w3.cell? ⟨w.heap.size, 0, none⟩ = some (.int .i64 0) := (blk_cell BK4.out 0).trans rfl
  have fk0 : w3.frozen? ⟨w.heap.size, 0, none⟩ = false := blk_frozen BK4.out 0
  have k1 : w3.cell? ⟨w.heap.size, 1, none⟩ = some (.int .i64 0) := (blk_cell BK4.out 1).trans rfl
  have fk1 : w3.frozen? ⟨w.heap.size, 1, none⟩ = false := blk_frozen BK4.out 1
  have k2 : w3.cell? ⟨w.heap.size, 2, none⟩ = some (.float .f64 0) := (blk_cell BK4.out 2).trans rfl
  have fk2 : w3.frozen? ⟨w.heap.size, 2, none⟩ = false := blk_frozen BK4.out 2
  have k3 : w3.cell? ⟨w.heap.size, 3, none⟩ = some (.float .f64 0) := (blk_cell BK4.out 3).trans rfl
  have fk3 : w3.frozen? ⟨w.heap.size, 3, none⟩ = false := blk_frozen BK4.out 3
  have d0 : w3.cell? ⟨w.heap.size + 1, 0, none⟩ = some (.int .i64 14) := (blk_cell BK5.out 0).trans rfl
  have fd0 : w3.frozen? ⟨w.heap.size + 1, 0, none⟩ = false := blk_frozen BK5.out 0
  have d1 : w3.cell? ⟨w.heap.size + 1, 1, none⟩ = some (.int .i64 0) := (blk_cell BK5.out 1).trans rfl
  have fd1 : w3.frozen? ⟨w.heap.size + 1, 1, none⟩ = false := blk_frozen BK5.out 1
  have d2 : w3.cell? ⟨w.heap.size + 1, 2, none⟩ = some (.float .f64 0) := (blk_cell BK5.out 2).trans rfl
  have fd2 : w3.frozen? ⟨w.heap.size + 1, 2, none⟩ = false := blk_frozen BK5.out 2
  have d3 : w3.cell? ⟨w.heap.size + 1, 3, none⟩ = some (.float .f64 0) := (blk_cell BK5.out 3).trans rfl
  have fd3 : w3.frozen? ⟨w.heap.size + 1, 3, none⟩ = false := blk_frozen BK5.out 3
  go_wp2_with fail
  all_goals refine bodyPost_ret (results_cell_row rfl _ _ (w.heap.size) 61 #[_, _, _, _] (0, 0) _ rfl (cell4 (by repeat (first | (with_reducible exact BK4.out) | (with_reducible refine blk_drewN ?_ _) | (with_reducible refine blk_drew ?_))) _ _ _ _) Tryz.underlying61 rfl (by kernel_rfl)) rfl ?_
  all_goals exact ⟨rfl, (by repeat (first | (with_reducible exact BB.out) | (with_reducible apply Vc.below_drewN) | (with_reducible apply Below.drew) | ((with_reducible refine Below.setCell ?_ ?hs _); (case hs => first | omega | (simp; try omega)))))⟩
set_option maxRecDepth 20000 in
set_option maxHeartbeats 4000000 in
theorem parse_ibad (n : Nat) (hn : n < 9) (v : Value) (l : List UInt8) (w : World) (hT : Table.Holds w) (hM : MLen w) (hc : CVT w v l) (hk : kindI ((n : Int) + 1) < 2) (hl : l = []) : Calls Tryz.prog 25 #[.int .i64 ((n : Int) + 1), v] w (PR 14 0 0 0 w) := by
  unfold PR
  have h0 : 0 < w.heap.size := World.block_lt_of_cell? w _ (hT 0 0 (by omega) (by omega))
  have HT := Lib.hid hT
  have HM := Lib.hid hM
  have HC := Lib.hid hc
  have I := Lib.hid (fun u => impl_isd ((n : Int) + 1) u)
  rw [isd_of n hn] at I
  have hns : ((n : Int) + 1).toNat = n + 1 := by omega
  have hlt : (n : Int) + 1 < 10 := by omega
  subst hl
  obtain ⟨kd, hkd⟩ : ∃ kd, kindI ((n : Int) + 1) = kd := ⟨_, rfl⟩
  rw [hkd] at hk
  have HK := Lib.hid hkd
  have k2 : (kd == 2) = false := by simp; omega
  have k3 : (kd == 3) = false := by simp; omega
  clear hkd hk
  clear hT hM hc
  go_enter Tryz.func25, Tryz.ntmps25
  go_wp2_with fail
  refine (I.out _).mono ?_
  rintro e w1 ⟨rfl, hw⟩
  have BK4 : Aside0 (w1.heap[w.heap.size]? = some (.cells #[(.int .i64 0), (.int .i64 0), (.float .f64 0), (.float .f64 0)] 61 (0, 0))) := ⟨by rw [← hw]; first | (rw [heap_alloc_get, heap_alloc_get]; simp; done) | (simp [World.setCell, World.alloc, -World.alloc_eq, Array.getElem?_modify, Array.getElem?_push]; done)⟩
  have BK5 : Aside0 (w1.heap[w.heap.size + 1]? = some (.cells #[(.int .i64 14), (.int .i64 0), (.float .f64 0), (.float .f64 0)] 61 (0, 0))) := ⟨by rw [← hw]; first | (rw [heap_alloc_get, heap_alloc_get]; simp; done) | (simp [World.setCell, World.alloc, -World.alloc_eq, Array.getElem?_modify, Array.getElem?_push]; done)⟩
  have BB : Aside0 (Below w.heap.size w w1) := ⟨by rw [← hw]; repeat (first | exact Below.refl _ _ | ((with_reducible refine Below.alloc ?_ ?ha _); (case ha => (simp; try omega))) | ((with_reducible refine Below.setCell ?_ ?hs _); (case hs => (simp; try omega))))⟩
  clear hw
  have k0 : w1.cell? ⟨w.heap.size, 0, none⟩ = some (.int .i64 0) := (blk_cell BK4.out 0).trans rfl
  have fk0 : w1.frozen? ⟨w.heap.size, 0, none⟩ = false := blk_frozen BK4.out 0
  have k1 : w1.cell? ⟨w.heap.size, 1, none⟩ = some (.int .i64 0) := (blk_cell BK4.out 1).trans rfl
  have fk1 : w1.frozen? ⟨w.heap.size, 1, none⟩ = false := blk_frozen BK4.out 1
  have k2 : w1.cell? ⟨w.heap.size, 2, none⟩ = some (.float .f64 0) := (blk_cell BK4.out 2).trans rfl
  have fk2 : w1.frozen? ⟨w.heap.size, 2, none⟩ = false := blk_frozen BK4.out 2
  have k3 : w1.cell? ⟨w.heap.size, 3, none⟩ = some (.float .f64 0) := (blk_cell BK4.out 3).trans rfl
  have fk3 : w1.frozen? ⟨w.heap.size, 3, none⟩ = false := blk_frozen BK4.out 3
  have d0 : w1.cell? ⟨w.heap.size + 1, 0, none⟩ = some (.int .i64 14) := (blk_cell BK5.out 0).trans rfl
  have fd0 : w1.frozen? ⟨w.heap.size + 1, 0, none⟩ = false := blk_frozen BK5.out 0
  have d1 : w1.cell? ⟨w.heap.size + 1, 1, none⟩ = some (.int .i64 0) := (blk_cell BK5.out 1).trans rfl
  have fd1 : w1.frozen? ⟨w.heap.size + 1, 1, none⟩ = false := blk_frozen BK5.out 1
  have d2 : w1.cell? ⟨w.heap.size + 1, 2, none⟩ = some (.float .f64 0) := (blk_cell BK5.out 2).trans rfl
  have fd2 : w1.frozen? ⟨w.heap.size + 1, 2, none⟩ = false := blk_frozen BK5.out 2
  have d3 : w1.cell? ⟨w.heap.size + 1, 3, none⟩ = some (.float .f64 0) := (blk_cell BK5.out 3).trans rfl
  have fd3 : w1.frozen? ⟨w.heap.size + 1, 3, none⟩ = false := blk_frozen BK5.out 3
  have hcv := HC.out w1 BB.out
  have r0 : w1.cell? ⟨0, (n + 1) * 5, none⟩ = some (.int .i64 (kindI ((n : Int) + 1))) := (row_of (Table.holds_below HT.out BB.out h0) n hn).1
  rw [HK.out] at r0
  go_wp2_with fail
  refine (int_run_nil _).mono ?_
  rintro e w2 ⟨rfl, hb⟩
  replace BK4 := Aside0.mk (blk_below (g := w.heap.size) (o := .cells #[(.int .i64 0), (.int .i64 0), (.float .f64 0), (.float .f64 0)] 61 (0, 0)) (by repeat (first | (with_reducible exact BK4.out) | (with_reducible refine blk_drewN ?_ _) | (with_reducible refine blk_drew ?_))) hb)
  replace BK5 := Aside0.mk (blk_below (g := w.heap.size + 1) (o := .cells #[(.int .i64 14), (.int .i64 0), (.float .f64 0), (.float .f64 0)] 61 (0, 0)) (by repeat (first | (with_reducible exact BK5.out) | (with_reducible refine blk_drewN ?_ _) | (with_reducible refine blk_drew ?_))) hb)
  replace BB := Aside0.mk (bb_step hb (by repeat (first | (with_reducible exact BB.out) | (with_reducible apply Vc.below_drewN) | (with_reducible apply Below.drew) | ((with_reducible refine Below.setCell ?_ ?hs _); (case hs => first | omega | (simp; try omega))))))
  clear hb
  have k0 : w2.cell? ⟨w.heap.size, 0, none⟩ = some (.int .i64 0) := (blk_cell BK4.out 0).trans rfl
  have fk0 : w2.frozen? ⟨w.heap.size, 0, none⟩ = false := blk_frozen BK4.out 0
  have k1 : w2.cell? ⟨w.heap.size, 1, none⟩ = some (.int .i64 0) := (blk_cell BK4.out 1).trans rfl
  have fk1 : w2.frozen? ⟨w.heap.size, 1, none⟩ = false := blk_frozen BK4.out 1
  have k2 : w2.cell? ⟨w.heap.size, 2, none⟩ = some (.float .f64 0) := (blk_cell BK4.out 2).trans rfl
  have fk2 : w2.frozen? ⟨w.heap.size, 2, none⟩ = false := blk_frozen BK4.out 2
  have k3 : w2.cell? ⟨w.heap.size, 3, none⟩ = some (.float .f64 0) := (blk_cell BK4.out 3).trans rfl
  have fk3 : w2.frozen? ⟨w.heap.size, 3, none⟩ = false := blk_frozen BK4.out 3
  have d0 : w2.cell? ⟨w.heap.size + 1, 0, none⟩ = some (.int .i64 14) := (blk_cell BK5.out 0).trans rfl
  have fd0 : w2.frozen? ⟨w.heap.size + 1, 0, none⟩ = false := blk_frozen BK5.out 0
  have d1 : w2.cell? ⟨w.heap.size + 1, 1, none⟩ = some (.int .i64 0) := (blk_cell BK5.out 1).trans rfl
  have fd1 : w2.frozen? ⟨w.heap.size + 1, 1, none⟩ = false := blk_frozen BK5.out 1
  have d2 : w2.cell? ⟨w.heap.size + 1, 2, none⟩ = some (.float .f64 0) := (blk_cell BK5.out 2).trans rfl
  have fd2 : w2.frozen? ⟨w.heap.size + 1, 2, none⟩ = false := blk_frozen BK5.out 2
  have d3 : w2.cell? ⟨w.heap.size + 1, 3, none⟩ = some (.float .f64 0) := (blk_cell BK5.out 3).trans rfl
  have fd3 : w2.frozen? ⟨w.heap.size + 1, 3, none⟩ = false := blk_frozen BK5.out 3
  go_wp2_with fail
  all_goals refine bodyPost_ret (results_cell_row rfl _ _ (w.heap.size) 61 #[_, _, _, _] (0, 0) _ rfl (cell4 (by repeat (first | (with_reducible exact BK4.out) | (with_reducible refine blk_drewN ?_ _) | (with_reducible refine blk_drew ?_))) _ _ _ _) Tryz.underlying61 rfl (by kernel_rfl)) rfl ?_
  all_goals exact ⟨rfl, (by repeat (first | (with_reducible exact BB.out) | (with_reducible apply Vc.below_drewN) | (with_reducible apply Below.drew) | ((with_reducible refine Below.setCell ?_ ?hs _); (case hs => first | omega | (simp; try omega)))))⟩
set_option maxRecDepth 20000 in
set_option maxHeartbeats 4000000 in
theorem parse_cx (n : Nat) (hn : n < 9) (v : Value) (l : List UInt8) (w : World) (hT : Table.Holds w) (hM : MLen w) (hc : CVT w v l) (hk : kindI ((n : Int) + 1) = 3) (l1 l2 : List UInt8) (hcut : Lib.cut l [44] = (l1, l2, true)) (hlen : l.length ≤ 1000) (x y : Nat) (hp1 : PF l1 x) (hp2 : PF l2 y) : Calls Tryz.prog 25 #[.int .i64 ((n : Int) + 1), v] w (PR 0 0 x y w) := by
  unfold PR
  have h0 : 0 < w.heap.size := World.block_lt_of_cell? w _ (hT 0 0 (by omega) (by omega))
  have HT := Lib.hid hT
  have HM := Lib.hid hM
  have HC := Lib.hid hc
  have I := Lib.hid (fun u => impl_isd ((n : Int) + 1) u)
  rw [isd_of n hn] at I
  have hns : ((n : Int) + 1).toNat = n + 1 := by omega
  have hlt : (n : Int) + 1 < 10 := by omega
  have P1 := Lib.hid hp1
  have P2 := Lib.hid hp2
  have C := Lib.hid (fun u hu => cut_run l hlen 44 l1 l2 true hcut u hu)
  have HK := Lib.hid hk
  clear hp1 hp2 hk hcut hlen
  clear hT hM hc
  go_enter Tryz.func25, Tryz.ntmps25
  go_wp2_with fail
  refine (I.out _).mono ?_
  rintro e w1 ⟨rfl, hw⟩
  have BK4 : Aside0 (w1.heap[w.heap.size]? = some (.cells #[(.int .i64 0), (.int .i64 0), (.float .f64 0), (.float .f64 0)] 61 (0, 0))) := ⟨by rw [← hw]; first | (rw [heap_alloc_get, heap_alloc_get]; simp; done) | (simp [World.setCell, World.alloc, -World.alloc_eq, Array.getElem?_modify, Array.getElem?_push]; done)⟩
  have BK5 : Aside0 (w1.heap[w.heap.size + 1]? = some (.cells #[(.int .i64 14), (.int .i64 0), (.float .f64 0), (.float .f64 0)] 61 (0, 0))) := ⟨by rw [← hw]; first | (rw [heap_alloc_get, heap_alloc_get]; simp; done) | (simp [World.setCell, World.alloc, -World.alloc_eq, Array.getElem?_modify, Array.getElem?_push]; done)⟩
  have BB : Aside0 (Below w.heap.size w w1) := ⟨by rw [← hw]; repeat (first | exact Below.refl _ _ | ((with_reducible refine Below.alloc ?_ ?ha _); (case ha => (simp; try omega))) | ((with_reducible refine Below.setCell ?_ ?hs _); (case hs => (simp; try omega))))⟩
  clear hw
  have k0 : w1.cell? ⟨w.heap.size, 0, none⟩ = some (.int .i64 0) := (blk_cell BK4.out 0).trans rfl
  have fk0 : w1.frozen? ⟨w.heap.size, 0, none⟩ = false := blk_frozen BK4.out 0
  have k1 : w1.cell? ⟨w.heap.size, 1, none⟩ = some (.int .i64 0) := (blk_cell BK4.out 1).trans rfl
  have fk1 : w1.frozen? ⟨w.heap.size, 1, none⟩ = false := blk_frozen BK4.out 1
  have k2 : w1.cell? ⟨w.heap.size, 2, none⟩ = some (.float .f64 0) := (blk_cell BK4.out 2).trans rfl
  have fk2 : w1.frozen? ⟨w.heap.size, 2, none⟩ = false := blk_frozen BK4.out 2
  have k3 : w1.cell? ⟨w.heap.size, 3, none⟩ = some (.float .f64 0) := (blk_cell BK4.out 3).trans rfl
  have fk3 : w1.frozen? ⟨w.heap.size, 3, none⟩ = false := blk_frozen BK4.out 3
  have d0 : w1.cell? ⟨w.heap.size + 1, 0, none⟩ = some (.int .i64 14) := (blk_cell BK5.out 0).trans rfl
  have fd0 : w1.frozen? ⟨w.heap.size + 1, 0, none⟩ = false := blk_frozen BK5.out 0
  have d1 : w1.cell? ⟨w.heap.size + 1, 1, none⟩ = some (.int .i64 0) := (blk_cell BK5.out 1).trans rfl
  have fd1 : w1.frozen? ⟨w.heap.size + 1, 1, none⟩ = false := blk_frozen BK5.out 1
  have d2 : w1.cell? ⟨w.heap.size + 1, 2, none⟩ = some (.float .f64 0) := (blk_cell BK5.out 2).trans rfl
  have fd2 : w1.frozen? ⟨w.heap.size + 1, 2, none⟩ = false := blk_frozen BK5.out 2
  have d3 : w1.cell? ⟨w.heap.size + 1, 3, none⟩ = some (.float .f64 0) := (blk_cell BK5.out 3).trans rfl
  have fd3 : w1.frozen? ⟨w.heap.size + 1, 3, none⟩ = false := blk_frozen BK5.out 3
  have hcv := HC.out w1 BB.out
  have r0 : w1.cell? ⟨0, (n + 1) * 5, none⟩ = some (.int .i64 (kindI ((n : Int) + 1))) := (row_of (Table.holds_below HT.out BB.out h0) n hn).1
  rw [HK.out] at r0
  go_wp2_with fail
  refine (C.out _ (mlen_below HM.out (by repeat (first | (with_reducible exact BB.out) | (with_reducible apply Vc.below_drewN) | (with_reducible apply Below.drew) | ((with_reducible refine Below.setCell ?_ ?hs _); (case hs => first | omega | (simp; try omega))))))).mono ?_
  rintro e w2 ⟨rfl, hb⟩
  replace BK4 := Aside0.mk (blk_below (g := w.heap.size) (o := .cells #[(.int .i64 0), (.int .i64 0), (.float .f64 0), (.float .f64 0)] 61 (0, 0)) (by repeat (first | (with_reducible exact BK4.out) | (with_reducible refine blk_drewN ?_ _) | (with_reducible refine blk_drew ?_))) hb)
  replace BK5 := Aside0.mk (blk_below (g := w.heap.size + 1) (o := .cells #[(.int .i64 14), (.int .i64 0), (.float .f64 0), (.float .f64 0)] 61 (0, 0)) (by repeat (first | (with_reducible exact BK5.out) | (with_reducible refine blk_drewN ?_ _) | (with_reducible refine blk_drew ?_))) hb)
  replace BB := Aside0.mk (bb_step hb (by repeat (first | (with_reducible exact BB.out) | (with_reducible apply Vc.below_drewN) | (with_reducible apply Below.drew) | ((with_reducible refine Below.setCell ?_ ?hs _); (case hs => first | omega | (simp; try omega))))))
  clear hb
  have k0 : w2.cell? ⟨w.heap.size, 0, none⟩ = some (.int .i64 0) := (blk_cell BK4.out 0).trans rfl
  have fk0 : w2.frozen? ⟨w.heap.size, 0, none⟩ = false := blk_frozen BK4.out 0
  have k1 : w2.cell? ⟨w.heap.size, 1, none⟩ = some (.int .i64 0) := (blk_cell BK4.out 1).trans rfl
  have fk1 : w2.frozen? ⟨w.heap.size, 1, none⟩ = false := blk_frozen BK4.out 1
  have k2 : w2.cell? ⟨w.heap.size, 2, none⟩ = some (.float .f64 0) := (blk_cell BK4.out 2).trans rfl
  have fk2 : w2.frozen? ⟨w.heap.size, 2, none⟩ = false := blk_frozen BK4.out 2
  have k3 : w2.cell? ⟨w.heap.size, 3, none⟩ = some (.float .f64 0) := (blk_cell BK4.out 3).trans rfl
  have fk3 : w2.frozen? ⟨w.heap.size, 3, none⟩ = false := blk_frozen BK4.out 3
  have d0 : w2.cell? ⟨w.heap.size + 1, 0, none⟩ = some (.int .i64 14) := (blk_cell BK5.out 0).trans rfl
  have fd0 : w2.frozen? ⟨w.heap.size + 1, 0, none⟩ = false := blk_frozen BK5.out 0
  have d1 : w2.cell? ⟨w.heap.size + 1, 1, none⟩ = some (.int .i64 0) := (blk_cell BK5.out 1).trans rfl
  have fd1 : w2.frozen? ⟨w.heap.size + 1, 1, none⟩ = false := blk_frozen BK5.out 1
  have d2 : w2.cell? ⟨w.heap.size + 1, 2, none⟩ = some (.float .f64 0) := (blk_cell BK5.out 2).trans rfl
  have fd2 : w2.frozen? ⟨w.heap.size + 1, 2, none⟩ = false := blk_frozen BK5.out 2
  have d3 : w2.cell? ⟨w.heap.size + 1, 3, none⟩ = some (.float .f64 0) := (blk_cell BK5.out 3).trans rfl
  have fd3 : w2.frozen? ⟨w.heap.size + 1, 3, none⟩ = false := blk_frozen BK5.out 3
  go_wp2_with fail
  refine (P1.out _ (mlen_below HM.out (by repeat (first | (with_reducible exact BB.out) | (with_reducible apply Vc.below_drewN) | (with_reducible apply Below.drew) | ((with_reducible refine Below.setCell ?_ ?hs _); (case hs => first | omega | (simp; try omega))))))).mono ?_
  rintro e w3 ⟨rfl, hb⟩
  replace BK4 := Aside0.mk (blk_below (g := w.heap.size) (o := .cells #[(.int .i64 0), (.int .i64 0), (.float .f64 0), (.float .f64 0)] 61 (0, 0)) (by repeat (first | (with_reducible exact BK4.out) | (with_reducible refine blk_drewN ?_ _) | (with_reducible refine blk_drew ?_))) hb)
  replace BK5 := Aside0.mk (blk_below (g := w.heap.size + 1) (o := .cells #[(.int .i64 14), (.int .i64 0), (.float .f64 0), (.float .f64 0)] 61 (0, 0)) (by repeat (first | (with_reducible exact BK5.out) | (with_reducible refine blk_drewN ?_ _) | (with_reducible refine blk_drew ?_))) hb)
  replace BB := Aside0.mk (bb_step hb (by repeat (first | (with_reducible exact BB.out) | (with_reducible apply Vc.below_drewN) | (with_reducible apply Below.drew) | ((with_reducible refine Below.setCell ?_ ?hs _); (case hs => first | omega | (simp; try omega))))))
  clear hb
  have k0 : w3.cell? ⟨w.heap.size, 0, none⟩ = some (.int .i64 0) := (blk_cell BK4.out 0).trans rfl
  have fk0 : w3.frozen? ⟨w.heap.size, 0, none⟩ = false := blk_frozen BK4.out 0
  have k1 : w3.cell? ⟨w.heap.size, 1, none⟩ = some (.int .i64 0) := (blk_cell BK4.out 1).trans rfl
  have fk1 : w3.frozen? ⟨w.heap.size, 1, none⟩ = false := blk_frozen BK4.out 1
  have k2 : w3.cell? ⟨w.heap.size, 2, none⟩ = some (.float .f64 0) := (blk_cell BK4.out 2).trans rfl
  have fk2 : w3.frozen? ⟨w.heap.size, 2, none⟩ = false := blk_frozen BK4.out 2
  have k3 : w3.cell? ⟨w.heap.size, 3, none⟩ = some (.float .f64 0) := (blk_cell BK4.out 3).trans rfl
  have fk3 : w3.frozen? ⟨w.heap.size, 3, none⟩ = false := blk_frozen BK4.out 3
  have d0 : w3.cell? ⟨w.heap.size + 1, 0, none⟩ = some (.int .i64 14) := (blk_cell BK5.out 0).trans rfl
  have fd0 : w3.frozen? ⟨w.heap.size + 1, 0, none⟩ = false := blk_frozen BK5.out 0
  have d1 : w3.cell? ⟨w.heap.size + 1, 1, none⟩ = some (.int .i64 0) := (blk_cell BK5.out 1).trans rfl
  have fd1 : w3.frozen? ⟨w.heap.size + 1, 1, none⟩ = false := blk_frozen BK5.out 1
  have d2 : w3.cell? ⟨w.heap.size + 1, 2, none⟩ = some (.float .f64 0) := (blk_cell BK5.out 2).trans rfl
  have fd2 : w3.frozen? ⟨w.heap.size + 1, 2, none⟩ = false := blk_frozen BK5.out 2
  have d3 : w3.cell? ⟨w.heap.size + 1, 3, none⟩ = some (.float .f64 0) := (blk_cell BK5.out 3).trans rfl
  have fd3 : w3.frozen? ⟨w.heap.size + 1, 3, none⟩ = false := blk_frozen BK5.out 3
  go_wp2_with fail
  refine (P2.out _ (mlen_below HM.out (by repeat (first | (with_reducible exact BB.out) | (with_reducible apply Vc.below_drewN) | (with_reducible apply Below.drew) | ((with_reducible refine Below.setCell ?_ ?hs _); (case hs => first | omega | (simp; try omega))))))).mono ?_
  rintro e w4 ⟨rfl, hb⟩
  replace BK4 := Aside0.mk (blk_below (g := w.heap.size) (o := .cells #[(.int .i64 0), (.int .i64 0), (.float .f64 0), (.float .f64 0)] 61 (0, 0)) (by repeat (first | (with_reducible exact BK4.out) | (with_reducible refine blk_drewN ?_ _) | (with_reducible refine blk_drew ?_))) hb)
  replace BK5 := Aside0.mk (blk_below (g := w.heap.size + 1) (o := .cells #[(.int .i64 14), (.int .i64 0), (.float .f64 0), (.float .f64 0)] 61 (0, 0)) (by repeat (first | (with_reducible exact BK5.out) | (with_reducible refine blk_drewN ?_ _) | (with_reducible refine blk_drew ?_))) hb)
  replace BB := Aside0.mk (bb_step hb (by repeat (first | (with_reducible exact BB.out) | (with_reducible apply Vc.below_drewN) | (with_reducible apply Below.drew) | ((with_reducible refine Below.setCell ?_ ?hs _); (case hs => first | omega | (simp; try omega))))))
  clear hb
  have k0 : w4.cell? ⟨w.heap.size, 0, none⟩ = some (.int .i64 0) := (blk_cell BK4.out 0).trans rfl
  have fk0 : w4.frozen? ⟨w.heap.size, 0, none⟩ = false := blk_frozen BK4.out 0
  have k1 : w4.cell? ⟨w.heap.size, 1, none⟩ = some (.int .i64 0) := (blk_cell BK4.out 1).trans rfl
  have fk1 : w4.frozen? ⟨w.heap.size, 1, none⟩ = false := blk_frozen BK4.out 1
  have k2 : w4.cell? ⟨w.heap.size, 2, none⟩ = some (.float .f64 0) := (blk_cell BK4.out 2).trans rfl
  have fk2 : w4.frozen? ⟨w.heap.size, 2, none⟩ = false := blk_frozen BK4.out 2
  have k3 : w4.cell? ⟨w.heap.size, 3, none⟩ = some (.float .f64 0) := (blk_cell BK4.out 3).trans rfl
  have fk3 : w4.frozen? ⟨w.heap.size, 3, none⟩ = false := blk_frozen BK4.out 3
  have d0 : w4.cell? ⟨w.heap.size + 1, 0, none⟩ = some (.int .i64 14) := (blk_cell BK5.out 0).trans rfl
  have fd0 : w4.frozen? ⟨w.heap.size + 1, 0, none⟩ = false := blk_frozen BK5.out 0
  have d1 : w4.cell? ⟨w.heap.size + 1, 1, none⟩ = some (.int .i64 0) := (blk_cell BK5.out 1).trans rfl
  have fd1 : w4.frozen? ⟨w.heap.size + 1, 1, none⟩ = false := blk_frozen BK5.out 1
  have d2 : w4.cell? ⟨w.heap.size + 1, 2, none⟩ = some (.float .f64 0) := (blk_cell BK5.out 2).trans rfl
  have fd2 : w4.frozen? ⟨w.heap.size + 1, 2, none⟩ = false := blk_frozen BK5.out 2
  have d3 : w4.cell? ⟨w.heap.size + 1, 3, none⟩ = some (.float .f64 0) := (blk_cell BK5.out 3).trans rfl
  have fd3 : w4.frozen? ⟨w.heap.size + 1, 3, none⟩ = false := blk_frozen BK5.out 3
  go_wp2_with fail
  all_goals refine bodyPost_ret (results_cell_row rfl _ _ (w.heap.size) 61 #[_, _, _, _] (0, 0) _ rfl (cell4 (by repeat (first | (with_reducible exact BK4.out) | (with_reducible refine blk_drewN ?_ _) | (with_reducible refine blk_drew ?_))) _ _ _ _) Tryz.underlying61 rfl (by kernel_rfl)) rfl ?_
  all_goals exact ⟨rfl, (by repeat (first | (with_reducible exact BB.out) | (with_reducible apply Vc.below_drewN) | (with_reducible apply Below.drew) | ((with_reducible refine Below.setCell ?_ ?hs _); (case hs => first | omega | (simp; try omega)))))⟩
set_option maxRecDepth 20000 in
set_option maxHeartbeats 4000000 in
theorem parse_cxbad (n : Nat) (hn : n < 9) (v : Value) (l : List UInt8) (w : World) (hT : Table.Holds w) (hM : MLen w) (hc : CVT w v l) (hk : kindI ((n : Int) + 1) = 3) (hl : l = []) : Calls Tryz.prog 25 #[.int .i64 ((n : Int) + 1), v] w (PR 14 0 0 0 w) := by
  unfold PR
  have h0 : 0 < w.heap.size := World.block_lt_of_cell? w _ (hT 0 0 (by omega) (by omega))
  have HT := Lib.hid hT
  have HM := Lib.hid hM
  have HC := Lib.hid hc
  have I := Lib.hid (fun u => impl_isd ((n : Int) + 1) u)
  rw [isd_of n hn] at I
  have hns : ((n : Int) + 1).toNat = n + 1 := by omega
  have hlt : (n : Int) + 1 < 10 := by omega
  subst hl
  have C := Lib.hid (fun u hu => cut_run [] (by simp) 44 [] [] false (Num.cut_nil 44) u hu)
  have HK := Lib.hid hk
  clear hk
  clear hT hM hc
  go_enter Tryz.func25, Tryz.ntmps25
  go_wp2_with fail
  refine (I.out _).mono ?_
  rintro e w1 ⟨rfl, hw⟩
  have BK4 : Aside0 (w1.heap[w.heap.size]? = some (.cells #[(.int .i64 0), (.int .i64 0), (.float .f64 0), (.float .f64 0)] 61 (0, 0))) := ⟨by rw [← hw]; first | (rw [heap_alloc_get, heap_alloc_get]; simp; done) | (simp [World.setCell, World.alloc, -World.alloc_eq, Array.getElem?_modify, Array.getElem?_push]; done)⟩
  have BK5 : Aside0 (w1.heap[w.heap.size + 1]? = some (.cells #[(.int .i64 14), (.int .i64 0), (.float .f64 0), (.float .f64 0)] 61 (0, 0))) := ⟨by rw [← hw]; first | (rw [heap_alloc_get, heap_alloc_get]; simp; done) | (simp [World.setCell, World.alloc, -World.alloc_eq, Array.getElem?_modify, Array.getElem?_push]; done)⟩
  have BB : Aside0 (Below w.heap.size w w1) := ⟨by rw [← hw]; repeat (first | exact Below.refl _ _ | ((with_reducible refine Below.alloc ?_ ?ha _); (case ha => (simp; try omega))) | ((with_reducible refine Below.setCell ?_ ?hs _); (case hs => (simp; try omega))))⟩
  clear hw
  have k0 : w1.cell? ⟨w.heap.size, 0, none⟩ = some (.int .i64 0) := (blk_cell BK4.out 0).trans rfl
  have fk0 : w1.frozen? ⟨w.heap.size, 0, none⟩ = false := blk_frozen BK4.out 0
  have k1 : w1.cell? ⟨w.heap.size, 1, none⟩ = some (.int .i64 0) := (blk_cell BK4.out 1).trans rfl
  have fk1 : w1.frozen? ⟨w.heap.size, 1, none⟩ = false := blk_frozen BK4.out 1
  have k2 : w1.cell? ⟨w.heap.size, 2, none⟩ = some (.float .f64 0) := (blk_cell BK4.out 2).trans rfl
  have fk2 : w1.frozen? ⟨w.heap.size, 2, none⟩ = false := blk_frozen BK4.out 2
  have k3 : w1.cell? ⟨w.heap.size, 3, none⟩ = some (.float .f64 0) := (blk_cell BK4.out 3).trans rfl
  have fk3 : w1.frozen? ⟨w.heap.size, 3, none⟩ = false := blk_frozen BK4.out 3
  have d0 : w1.cell? ⟨w.heap.size + 1, 0, none⟩ = some (.int .i64 14) := (blk_cell BK5.out 0).trans rfl
  have fd0 : w1.frozen? ⟨w.heap.size + 1, 0, none⟩ = false := blk_frozen BK5.out 0
  have d1 : w1.cell? ⟨w.heap.size + 1, 1, none⟩ = some (.int .i64 0) := (blk_cell BK5.out 1).trans rfl
  have fd1 : w1.frozen? ⟨w.heap.size + 1, 1, none⟩ = false := blk_frozen BK5.out 1
  have d2 : w1.cell? ⟨w.heap.size + 1, 2, none⟩ = some (.float .f64 0) := (blk_cell BK5.out 2).trans rfl
  have fd2 : w1.frozen? ⟨w.heap.size + 1, 2, none⟩ = false := blk_frozen BK5.out 2
  have d3 : w1.cell? ⟨w.heap.size + 1, 3, none⟩ = some (.float .f64 0) := (blk_cell BK5.out 3).trans rfl
  have fd3 : w1.frozen? ⟨w.heap.size + 1, 3, none⟩ = false := blk_frozen BK5.out 3
  have hcv := HC.out w1 BB.out
  have r0 : w1.cell? ⟨0, (n + 1) * 5, none⟩ = some (.int .i64 (kindI ((n : Int) + 1))) := (row_of (Table.holds_below HT.out BB.out h0) n hn).1
  rw [HK.out] at r0
  go_wp2_with fail
  refine (C.out _ (mlen_below HM.out (by repeat (first | (with_reducible exact BB.out) | (with_reducible apply Vc.below_drewN) | (with_reducible apply Below.drew) | ((with_reducible refine Below.setCell ?_ ?hs _); (case hs => first | omega | (simp; try omega))))))).mono ?_
  rintro e w2 ⟨rfl, hb⟩
  replace BK4 := Aside0.mk (blk_below (g := w.heap.size) (o := .cells #[(.int .i64 0), (.int .i64 0), (.float .f64 0), (.float .f64 0)] 61 (0, 0)) (by repeat (first | (with_reducible exact BK4.out) | (with_reducible refine blk_drewN ?_ _) | (with_reducible refine blk_drew ?_))) hb)
  replace BK5 := Aside0.mk (blk_below (g := w.heap.size + 1) (o := .cells #[(.int .i64 14), (.int .i64 0), (.float .f64 0), (.float .f64 0)] 61 (0, 0)) (by repeat (first | (with_reducible exact BK5.out) | (with_reducible refine blk_drewN ?_ _) | (with_reducible refine blk_drew ?_))) hb)
  replace BB := Aside0.mk (bb_step hb (by repeat (first | (with_reducible exact BB.out) | (with_reducible apply Vc.below_drewN) | (with_reducible apply Below.drew) | ((with_reducible refine Below.setCell ?_ ?hs _); (case hs => first | omega | (simp; try omega))))))
  clear hb
  have k0 : w2.cell? ⟨w.heap.size, 0, none⟩ = some (.int .i64 0) := (blk_cell BK4.out 0).trans rfl
  have fk0 : w2.frozen? ⟨w.heap.size, 0, none⟩ = false := blk_frozen BK4.out 0
  have k1 : w2.cell? ⟨w.heap.size, 1, none⟩ = some (.int .i64 0) := (blk_cell BK4.out 1).trans rfl
  have fk1 : w2.frozen? ⟨w.heap.size, 1, none⟩ = false := blk_frozen BK4.out 1
  have k2 : w2.cell? ⟨w.heap.size, 2, none⟩ = some (.float .f64 0) := (blk_cell BK4.out 2).trans rfl
  have fk2 : w2.frozen? ⟨w.heap.size, 2, none⟩ = false := blk_frozen BK4.out 2
  have k3 : w2.cell? ⟨w.heap.size, 3, none⟩ = some (.float .f64 0) := (blk_cell BK4.out 3).trans rfl
  have fk3 : w2.frozen? ⟨w.heap.size, 3, none⟩ = false := blk_frozen BK4.out 3
  have d0 : w2.cell? ⟨w.heap.size + 1, 0, none⟩ = some (.int .i64 14) := (blk_cell BK5.out 0).trans rfl
  have fd0 : w2.frozen? ⟨w.heap.size + 1, 0, none⟩ = false := blk_frozen BK5.out 0
  have d1 : w2.cell? ⟨w.heap.size + 1, 1, none⟩ = some (.int .i64 0) := (blk_cell BK5.out 1).trans rfl
  have fd1 : w2.frozen? ⟨w.heap.size + 1, 1, none⟩ = false := blk_frozen BK5.out 1
  have d2 : w2.cell? ⟨w.heap.size + 1, 2, none⟩ = some (.float .f64 0) := (blk_cell BK5.out 2).trans rfl
  have fd2 : w2.frozen? ⟨w.heap.size + 1, 2, none⟩ = false := blk_frozen BK5.out 2
  have d3 : w2.cell? ⟨w.heap.size + 1, 3, none⟩ = some (.float .f64 0) := (blk_cell BK5.out 3).trans rfl
  have fd3 : w2.frozen? ⟨w.heap.size + 1, 3, none⟩ = false := blk_frozen BK5.out 3
  go_wp2_with fail
  refine (pf_empty _ (mlen_below HM.out (by repeat (first | (with_reducible exact BB.out) | (with_reducible apply Vc.below_drewN) | (with_reducible apply Below.drew) | ((with_reducible refine Below.setCell ?_ ?hs _); (case hs => first | omega | (simp; try omega))))))).mono ?_
  rintro e w3 ⟨rfl, hb⟩
  replace BK4 := Aside0.mk (blk_below (g := w.heap.size) (o := .cells #[(.int .i64 0), (.int .i64 0), (.float .f64 0), (.float .f64 0)] 61 (0, 0)) (by repeat (first | (with_reducible exact BK4.out) | (with_reducible refine blk_drewN ?_ _) | (with_reducible refine blk_drew ?_))) hb)
  replace BK5 := Aside0.mk (blk_below (g := w.heap.size + 1) (o := .cells #[(.int .i64 14), (.int .i64 0), (.float .f64 0), (.float .f64 0)] 61 (0, 0)) (by repeat (first | (with_reducible exact BK5.out) | (with_reducible refine blk_drewN ?_ _) | (with_reducible refine blk_drew ?_))) hb)
  replace BB := Aside0.mk (bb_step hb (by repeat (first | (with_reducible exact BB.out) | (with_reducible apply Vc.below_drewN) | (with_reducible apply Below.drew) | ((with_reducible refine Below.setCell ?_ ?hs _); (case hs => first | omega | (simp; try omega))))))
  clear hb
  have k0 : w3.cell? ⟨w.heap.size, 0, none⟩ = some (.int .i64 0) := (blk_cell BK4.out 0).trans rfl
  have fk0 : w3.frozen? ⟨w.heap.size, 0, none⟩ = false := blk_frozen BK4.out 0
  have k1 : w3.cell? ⟨w.heap.size, 1, none⟩ = some (.int .i64 0) := (blk_cell BK4.out 1).trans rfl
  have fk1 : w3.frozen? ⟨w.heap.size, 1, none⟩ = false := blk_frozen BK4.out 1
  have k2 : w3.cell? ⟨w.heap.size, 2, none⟩ = some (.float .f64 0) := (blk_cell BK4.out 2).trans rfl
  have fk2 : w3.frozen? ⟨w.heap.size, 2, none⟩ = false := blk_frozen BK4.out 2
  have k3 : w3.cell? ⟨w.heap.size, 3, none⟩ = some (.float .f64 0) := (blk_cell BK4.out 3).trans rfl
  have fk3 : w3.frozen? ⟨w.heap.size, 3, none⟩ = false := blk_frozen BK4.out 3
  have d0 : w3.cell? ⟨w.heap.size + 1, 0, none⟩ = some (.int .i64 14) := (blk_cell BK5.out 0).trans rfl
  have fd0 : w3.frozen? ⟨w.heap.size + 1, 0, none⟩ = false := blk_frozen BK5.out 0
  have d1 : w3.cell? ⟨w.heap.size + 1, 1, none⟩ = some (.int .i64 0) := (blk_cell BK5.out 1).trans rfl
  have fd1 : w3.frozen? ⟨w.heap.size + 1, 1, none⟩ = false := blk_frozen BK5.out 1
  have d2 : w3.cell? ⟨w.heap.size + 1, 2, none⟩ = some (.float .f64 0) := (blk_cell BK5.out 2).trans rfl
  have fd2 : w3.frozen? ⟨w.heap.size + 1, 2, none⟩ = false := blk_frozen BK5.out 2
  have d3 : w3.cell? ⟨w.heap.size + 1, 3, none⟩ = some (.float .f64 0) := (blk_cell BK5.out 3).trans rfl
  have fd3 : w3.frozen? ⟨w.heap.size + 1, 3, none⟩ = false := blk_frozen BK5.out 3
  go_wp2_with fail
  refine (pf_empty _ (mlen_below HM.out (by repeat (first | (with_reducible exact BB.out) | (with_reducible apply Vc.below_drewN) | (with_reducible apply Below.drew) | ((with_reducible refine Below.setCell ?_ ?hs _); (case hs => first | omega | (simp; try omega))))))).mono ?_
  rintro e w4 ⟨rfl, hb⟩
  replace BK4 := Aside0.mk (blk_below (g := w.heap.size) (o := .cells #[(.int .i64 0), (.int .i64 0), (.float .f64 0), (.float .f64 0)] 61 (0, 0)) (by repeat (first | (with_reducible exact BK4.out) | (with_reducible refine blk_drewN ?_ _) | (with_reducible refine blk_drew ?_))) hb)
  replace BK5 := Aside0.mk (blk_below (g := w.heap.size + 1) (o := .cells #[(.int .i64 14), (.int .i64 0), (.float .f64 0), (.float .f64 0)] 61 (0, 0)) (by repeat (first | (with_reducible exact BK5.out) | (with_reducible refine blk_drewN ?_ _) | (with_reducible refine blk_drew ?_))) hb)
  replace BB := Aside0.mk (bb_step hb (by repeat (first | (with_reducible exact BB.out) | (with_reducible apply Vc.below_drewN) | (with_reducible apply Below.drew) | ((with_reducible refine Below.setCell ?_ ?hs _); (case hs => first | omega | (simp; try omega))))))
  clear hb
  have k0 : w4.cell? ⟨w.heap.size, 0, none⟩ = some (.int .i64 0) := (blk_cell BK4.out 0).trans rfl
  have fk0 : w4.frozen? ⟨w.heap.size, 0, none⟩ = false := blk_frozen BK4.out 0
  have k1 : w4.cell? ⟨w.heap.size, 1, none⟩ = some (.int .i64 0) := (blk_cell BK4.out 1).trans rfl
  have fk1 : w4.frozen? ⟨w.heap.size, 1, none⟩ = false := blk_frozen BK4.out 1
  have k2 : w4.cell? ⟨w.heap.size, 2, none⟩ = some (.float .f64 0) := (blk_cell BK4.out 2).trans rfl
  have fk2 : w4.frozen? ⟨w.heap.size, 2, none⟩ = false := blk_frozen BK4.out 2
  have k3 : w4.cell? ⟨w.heap.size, 3, none⟩ = some (.float .f64 0) := (blk_cell BK4.out 3).trans rfl
  have fk3 : w4.frozen? ⟨w.heap.size, 3, none⟩ = false := blk_frozen BK4.out 3
  have d0 : w4.cell? ⟨w.heap.size + 1, 0, none⟩ = some (.int .i64 14) := (blk_cell BK5.out 0).trans rfl
  have fd0 : w4.frozen? ⟨w.heap.size + 1, 0, none⟩ = false := blk_frozen BK5.out 0
  have d1 : w4.cell? ⟨w.heap.size + 1, 1, none⟩ = some (.int .i64 0) := (blk_cell BK5.out 1).trans rfl
  have fd1 : w4.frozen? ⟨w.heap.size + 1, 1, none⟩ = false := blk_frozen BK5.out 1
  have d2 : w4.cell? ⟨w.heap.size + 1, 2, none⟩ = some (.float .f64 0) := (blk_cell BK5.out 2).trans rfl
  have fd2 : w4.frozen? ⟨w.heap.size + 1, 2, none⟩ = false := blk_frozen BK5.out 2
  have d3 : w4.cell? ⟨w.heap.size + 1, 3, none⟩ = some (.float .f64 0) := (blk_cell BK5.out 3).trans rfl
  have fd3 : w4.frozen? ⟨w.heap.size + 1, 3, none⟩ = false := blk_frozen BK5.out 3
  go_wp2_with fail
  all_goals refine bodyPost_ret (results_cell_row rfl _ _ (w.heap.size) 61 #[_, _, _, _] (0, 0) _ rfl (cell4 (by repeat (first | (with_reducible exact BK4.out) | (with_reducible refine blk_drewN ?_ _) | (with_reducible refine blk_drew ?_))) _ _ _ _) Tryz.underlying61 rfl (by kernel_rfl)) rfl ?_
  all_goals exact ⟨rfl, (by repeat (first | (with_reducible exact BB.out) | (with_reducible apply Vc.below_drewN) | (with_reducible apply Below.drew) | ((with_reducible refine Below.setCell ?_ ?hs _); (case hs => first | omega | (simp; try omega)))))⟩
end Go.Proofs.YtpmdgmnpkdoamabGreatDoor.Vc
