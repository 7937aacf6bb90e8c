/- Proved here: what impl.Convert answers. Conditions: the words are of their kind; the table of dtypes holds what the program lays in it. -/
import Derived.Test.YtpmdgmnpkdoamabDoorCwa
import Derived.Test.YtpmdgmnpkdoamabDoorDrw2
import Derived.Deep.QuietTactic
import Derived.BigQuiet
namespace Go.Proofs.YtpmdgmnpkdoamabDoor.Vc
open Go.RowKit Fl Prom Drw Go.Proofs.YtpmdgmnpkdoamabDoorW.PrintWords
open Ieee (single double)
set_option linter.unusedVariables false
set_option linter.unusedSimpArgs false
attribute [local go_sem] run_store_float'
theorem bb_step {w c u : World} (hb : Below c.heap.size c u) (h : Below w.heap.size w c) : Below w.heap.size w u := h.trans (hb.mono h.size)
theorem feq_no2 {a b : Nat} (h : (FloatKind.f64.format.order a b != some Ordering.eq) = true) : feq a b = false := feq_of_not (by simpa using h)
theorem feq_yes2 {a b : Nat} (h : (FloatKind.f64.format.order a b != some Ordering.eq) = false) : feq a b = true := feq_of (by simpa using h)
theorem isd_of (n : Nat) (hn : n < 9) : isdt ((n : Int) + 1) = true := by simp [isdt]; omega
theorem conv_if (i : Int) (w : World) : (convert 2 105 (.int .i64 i)).run Tryd.prog w = .ok (.float .f32 (FloatKind.f32.nearest i)) w := by
  simp [convert, run_underlying Tryd.underlying105, run_underlying Tryd.underlying2, Conv.intToFloat]
theorem conv_id (i : Int) (w : World) : (convert 2 23 (.int .i64 i)).run Tryd.prog w = .ok (.float .f64 (FloatKind.f64.nearest i)) w := by
  simp [convert, run_underlying Tryd.underlying23, run_underlying Tryd.underlying2, Conv.intToFloat]
theorem cv1 {a i : Int} {f g : Nat} : Cv a a i f g i f g := by unfold Cv; rw [if_pos rfl]; exact ⟨rfl, rfl, rfl⟩
theorem cv2 {a i j : Int} {f g : Nat} (h0 : ¬ a = 1) (hj : j = (if i = 0 ∧ feq f 0 = true ∧ feq g 0 = true then 0 else 1)) : Cv a 1 i f g j 0 0 := by unfold Cv; rw [if_neg h0, if_pos rfl]; exact ⟨hj, rfl, rfl⟩
theorem cv3 {a b i : Int} {f g : Nat} (h0 : ¬ a = b) (h1 : ¬ b = 1) (h2 : kindI a ≤ 1) (h3 : kindI b = 1) : Cv a b i f g (cutI b i) 0 0 := by unfold Cv; rw [if_neg h0, if_neg h1, if_pos ⟨h2, h3⟩]; exact ⟨rfl, rfl, rfl⟩
theorem cv4 {a i : Int} {f g x : Nat} (h0 : ¬ a = 7) (h2 : kindI a ≤ 1) (hx : x < 18446744073709551616 ∧ f32ok x = true ∧ (i.natAbs < 2 ^ 24 → IntOf i x)) : Cv a 7 i f g 0 x 0 := by unfold Cv; rw [if_neg h0, if_neg (by decide), if_neg (fun h => absurd h.2 (by decide)), if_pos ⟨h2, rfl⟩]; exact ⟨rfl, rfl, hx⟩
theorem cv5 {a b i : Int} {f g : Nat} (h0 : ¬ a = b) (h1 : ¬ b = 1) (h2 : kindI a ≤ 1) (h3 : ¬ kindI b = 1) (h7 : ¬ b = 7) : Cv a b i f g 0 (FloatKind.f64.nearest i) 0 := by unfold Cv; rw [if_neg h0, if_neg h1, if_neg (fun h => h3 h.2), if_neg (fun h => h7 h.2), if_pos h2]; exact ⟨rfl, rfl, rfl⟩
theorem cv6 {a b i j : Int} {f g : Nat} (h0 : ¬ a = b) (h1 : ¬ b = 1) (h2 : ¬ kindI a ≤ 1) (h3 : kindI b = 1) (hr : InP b f j) : Cv a b i f g j 0 0 := by unfold Cv; rw [if_neg h0, if_neg h1, if_neg (fun h => h2 h.1), if_neg (fun h => h2 h.1), if_neg h2, if_pos h3]; exact ⟨⟨hr.1.1, hr.1.2, hr.2⟩, rfl, rfl⟩
theorem cv7 {a i : Int} {f g x : Nat} (h0 : ¬ a = 7) (h2 : ¬ kindI a ≤ 1) (hx : Through f x ∧ f32ok x = true) : Cv a 7 i f g 0 x 0 := by unfold Cv; rw [if_neg h0, if_neg (by decide), if_neg (fun h => h2 h.1), if_neg (fun h => h2 h.1), if_neg h2, if_neg (by decide), if_pos rfl]; exact ⟨rfl, rfl, hx.1.1, hx.2, hx.1⟩
theorem cv8 {a b i : Int} {f g : Nat} (h0 : ¬ a = b) (h1 : ¬ b = 1) (h2 : ¬ kindI a ≤ 1) (h3 : ¬ kindI b = 1) (h7 : ¬ b = 7) : Cv a b i f g 0 f 0 := by unfold Cv; rw [if_neg h0, if_neg h1, if_neg (fun h => h2 h.1), if_neg (fun h => h2 h.1), if_neg h2, if_neg h3, if_neg h7]; exact ⟨rfl, rfl, rfl⟩
def CellR (i : Int) (f g : Nat) (w : World) (e : Ending) (w' : World) : Prop := e = .returned (.agg #[.int .i64 i, .float .f64 f, .float .f64 g]) ∧ Below w.heap.size w w'
set_option maxHeartbeats 4000000 in
theorem convert_no1 (a b : Int) (ha : isdt a = false) (i : Int) (f g : Nat) (hf : f < 18446744073709551616) (hg : g < 18446744073709551616) (w : World) (hT : Table.Holds w) :
    Calls Tryd.prog 31 #[.int .i64 a, .int .i64 b, .agg #[.int .i64 i, .float .f64 f, .float .f64 g]] w (CellR 0 0 0 w) := by
  have h0 : 0 < w.heap.size := World.block_lt_of_cell? w _ (hT 0 0 (by omega) (by omega))
  have HT := Lib.hid hT
  have I1 := Lib.hid (show ∀ w, Calls Tryd.prog 68 #[.int .i64 a] w fun e w' => e = .returned (.bool false) ∧ w = w' from fun w => by have := impl_isd a w; rw [ha] at this; exact this)
  clear ha hT hf hg
  go_enter Tryd.func31, Tryd.ntmps31
  go_wp2_with fail
  refine (I1.out _).mono ?_
  rintro e w1 ⟨rfl, hw⟩
  have BK5 : Aside0 (w1.heap[w.heap.size]? = some (.cells #[(.int .i64 i), (.float .f64 f), (.float .f64 g)] 27 (0, 0))) := ⟨by rw [← hw, heap_alloc_get, heap_alloc_get]; simp; try omega⟩
  have BK6 : Aside0 (w1.heap[w.heap.size + 1]? = some (.cells #[(.int .i64 0), (.float .f64 0), (.float .f64 0)] 27 (0, 0))) := ⟨by rw [← hw, heap_alloc_get, heap_alloc_get]; simp; try omega⟩
  have BB : Aside0 (Below w.heap.size w w1) := ⟨by rw [← hw]; repeat (first | exact Below.refl _ _ | (refine Below.alloc ?_ (by simp; try omega) _))⟩
  clear hw
  have c50 : w1.cell? ⟨w.heap.size, 0, none⟩ = some (.int .i64 i) := (blk_cell BK5.out 0).trans rfl
  have c51 : w1.cell? ⟨w.heap.size, 1, none⟩ = some (.float .f64 f) := (blk_cell BK5.out 1).trans rfl
  have c52 : w1.cell? ⟨w.heap.size, 2, none⟩ = some (.float .f64 g) := (blk_cell BK5.out 2).trans rfl
  have c60 : w1.cell? ⟨w.heap.size + 1, 0, none⟩ = some (.int .i64 0) := (blk_cell BK6.out 0).trans rfl
  have d60 : w1.frozen? ⟨w.heap.size + 1, 0, none⟩ = false := blk_frozen BK6.out 0
  have c61 : w1.cell? ⟨w.heap.size + 1, 1, none⟩ = some (.float .f64 0) := (blk_cell BK6.out 1).trans rfl
  have d61 : w1.frozen? ⟨w.heap.size + 1, 1, none⟩ = false := blk_frozen BK6.out 1
  have c62 : w1.cell? ⟨w.heap.size + 1, 2, none⟩ = some (.float .f64 0) := (blk_cell BK6.out 2).trans rfl
  have d62 : w1.frozen? ⟨w.heap.size + 1, 2, none⟩ = false := blk_frozen BK6.out 2
  go_wp2_with fail
  refine bodyPost_ret (results_cell_row rfl _ _ (w.heap.size + 1) 27 #[_, _, _] (0, 0) _ rfl (cell3 (by repeat (first | (with_reducible exact BK6.out) | (with_reducible refine blk_drewN ?_ _) | (with_reducible refine blk_drew ?_))) _ _ _) Tryd.underlying27 rfl (by kernel_rfl)) rfl ?_
  refine ⟨rfl, ?_⟩
  repeat (first | (with_reducible exact BB.out) | (with_reducible apply Vc.below_drewN) | (with_reducible apply Below.drew) | (refine Below.setCell ?_ (by simp; try omega) _))
set_option maxHeartbeats 4000000 in
theorem convert_no2 (a b : Int) (ha : isdt a = true) (hb : isdt b = false) (i : Int) (f g : Nat) (hf : f < 18446744073709551616) (hg : g < 18446744073709551616) (w : World) (hT : Table.Holds w) :
    Calls Tryd.prog 31 #[.int .i64 a, .int .i64 b, .agg #[.int .i64 i, .float .f64 f, .float .f64 g]] w (CellR 0 0 0 w) := by
  have h0 : 0 < w.heap.size := World.block_lt_of_cell? w _ (hT 0 0 (by omega) (by omega))
  have HT := Lib.hid hT
  have I1 := Lib.hid (show ∀ w, Calls Tryd.prog 68 #[.int .i64 a] w fun e w' => e = .returned (.bool true) ∧ w = w' from fun w => by have := impl_isd a w; rw [ha] at this; exact this)
  have I2 := Lib.hid (show ∀ w, Calls Tryd.prog 68 #[.int .i64 b] w fun e w' => e = .returned (.bool false) ∧ w = w' from fun w => by have := impl_isd b w; rw [hb] at this; exact this)
  clear ha hb hT hf hg
  go_enter Tryd.func31, Tryd.ntmps31
  go_wp2_with fail
  refine (I1.out _).mono ?_
  rintro e w1 ⟨rfl, hw⟩
  have BK5 : Aside0 (w1.heap[w.heap.size]? = some (.cells #[(.int .i64 i), (.float .f64 f), (.float .f64 g)] 27 (0, 0))) := ⟨by rw [← hw, heap_alloc_get, heap_alloc_get]; simp; try omega⟩
  have BK6 : Aside0 (w1.heap[w.heap.size + 1]? = some (.cells #[(.int .i64 0), (.float .f64 0), (.float .f64 0)] 27 (0, 0))) := ⟨by rw [← hw, heap_alloc_get, heap_alloc_get]; simp; try omega⟩
  have BB : Aside0 (Below w.heap.size w w1) := ⟨by rw [← hw]; repeat (first | exact Below.refl _ _ | (refine Below.alloc ?_ (by simp; try omega) _))⟩
  clear hw
  have c50 : w1.cell? ⟨w.heap.size, 0, none⟩ = some (.int .i64 i) := (blk_cell BK5.out 0).trans rfl
  have c51 : w1.cell? ⟨w.heap.size, 1, none⟩ = some (.float .f64 f) := (blk_cell BK5.out 1).trans rfl
  have c52 : w1.cell? ⟨w.heap.size, 2, none⟩ = some (.float .f64 g) := (blk_cell BK5.out 2).trans rfl
  have c60 : w1.cell? ⟨w.heap.size + 1, 0, none⟩ = some (.int .i64 0) := (blk_cell BK6.out 0).trans rfl
  have d60 : w1.frozen? ⟨w.heap.size + 1, 0, none⟩ = false := blk_frozen BK6.out 0
  have c61 : w1.cell? ⟨w.heap.size + 1, 1, none⟩ = some (.float .f64 0) := (blk_cell BK6.out 1).trans rfl
  have d61 : w1.frozen? ⟨w.heap.size + 1, 1, none⟩ = false := blk_frozen BK6.out 1
  have c62 : w1.cell? ⟨w.heap.size + 1, 2, none⟩ = some (.float .f64 0) := (blk_cell BK6.out 2).trans rfl
  have d62 : w1.frozen? ⟨w.heap.size + 1, 2, none⟩ = false := blk_frozen BK6.out 2
  go_wp2_with fail
  refine (I2.out _).mono ?_
  rintro e w2 ⟨rfl, rfl⟩
  go_wp2_with fail
  refine bodyPost_ret (results_cell_row rfl _ _ (w.heap.size + 1) 27 #[_, _, _] (0, 0) _ rfl (cell3 (by repeat (first | (with_reducible exact BK6.out) | (with_reducible refine blk_drewN ?_ _) | (with_reducible refine blk_drew ?_))) _ _ _) Tryd.underlying27 rfl (by kernel_rfl)) rfl ?_
  refine ⟨rfl, ?_⟩
  repeat (first | (with_reducible exact BB.out) | (with_reducible apply Vc.below_drewN) | (with_reducible apply Below.drew) | (refine Below.setCell ?_ (by simp; try omega) _))
set_option maxHeartbeats 4000000 in
theorem convert_no3 (a b : Int) (ha : isdt a = true) (hb : isdt b = true) (i : Int) (f g : Nat) (hf : f < 18446744073709551616) (hg : g < 18446744073709551616) (w : World) (hT : Table.Holds w) (hv : vcell a i f g = false) :
    Calls Tryd.prog 31 #[.int .i64 a, .int .i64 b, .agg #[.int .i64 i, .float .f64 f, .float .f64 g]] w (CellR 0 0 0 w) := by
  have h0 : 0 < w.heap.size := World.block_lt_of_cell? w _ (hT 0 0 (by omega) (by omega))
  have HT := Lib.hid hT
  have I1 := Lib.hid (show ∀ w, Calls Tryd.prog 68 #[.int .i64 a] w fun e w' => e = .returned (.bool true) ∧ w = w' from fun w => by have := impl_isd a w; rw [ha] at this; exact this)
  have I2 := Lib.hid (show ∀ w, Calls Tryd.prog 68 #[.int .i64 b] w fun e w' => e = .returned (.bool true) ∧ w = w' from fun w => by have := impl_isd b w; rw [hb] at this; exact this)
  have V := Lib.hid (show ∀ w, Table.Holds w → Calls Tryd.prog 19 #[.int .i64 a, .agg #[.int .i64 i, .float .f64 f, .float .f64 g]] w fun e w' => e = .returned (.bool false) ∧ Below w.heap.size w w' from fun w h => by have := impl_vcell a i f g hf hg w h; rw [hv] at this; exact this)
  clear ha hb hT hf hg hv
  go_enter Tryd.func31, Tryd.ntmps31
  go_wp2_with fail
  refine (I1.out _).mono ?_
  rintro e w1 ⟨rfl, hw⟩
  have BK5 : Aside0 (w1.heap[w.heap.size]? = some (.cells #[(.int .i64 i), (.float .f64 f), (.float .f64 g)] 27 (0, 0))) := ⟨by rw [← hw, heap_alloc_get, heap_alloc_get]; simp; try omega⟩
  have BK6 : Aside0 (w1.heap[w.heap.size + 1]? = some (.cells #[(.int .i64 0), (.float .f64 0), (.float .f64 0)] 27 (0, 0))) := ⟨by rw [← hw, heap_alloc_get, heap_alloc_get]; simp; try omega⟩
  have BB : Aside0 (Below w.heap.size w w1) := ⟨by rw [← hw]; repeat (first | exact Below.refl _ _ | (refine Below.alloc ?_ (by simp; try omega) _))⟩
  clear hw
  have c50 : w1.cell? ⟨w.heap.size, 0, none⟩ = some (.int .i64 i) := (blk_cell BK5.out 0).trans rfl
  have c51 : w1.cell? ⟨w.heap.size, 1, none⟩ = some (.float .f64 f) := (blk_cell BK5.out 1).trans rfl
  have c52 : w1.cell? ⟨w.heap.size, 2, none⟩ = some (.float .f64 g) := (blk_cell BK5.out 2).trans rfl
  have c60 : w1.cell? ⟨w.heap.size + 1, 0, none⟩ = some (.int .i64 0) := (blk_cell BK6.out 0).trans rfl
  have d60 : w1.frozen? ⟨w.heap.size + 1, 0, none⟩ = false := blk_frozen BK6.out 0
  have c61 : w1.cell? ⟨w.heap.size + 1, 1, none⟩ = some (.float .f64 0) := (blk_cell BK6.out 1).trans rfl
  have d61 : w1.frozen? ⟨w.heap.size + 1, 1, none⟩ = false := blk_frozen BK6.out 1
  have c62 : w1.cell? ⟨w.heap.size + 1, 2, none⟩ = some (.float .f64 0) := (blk_cell BK6.out 2).trans rfl
  have d62 : w1.frozen? ⟨w.heap.size + 1, 2, none⟩ = false := blk_frozen BK6.out 2
  go_wp2_with fail
  refine (I2.out _).mono ?_
  rintro e w2 ⟨rfl, rfl⟩
  go_wp2_with fail
  refine (V.out _ (Table.holds_below HT.out (by repeat (first | (with_reducible exact BB.out) | (with_reducible apply Vc.below_drewN) | (with_reducible apply Below.drew) | (refine Below.setCell ?_ (by simp; try omega) _))) h0)).mono ?_
  rintro e w3 ⟨rfl, hb⟩
  replace BK5 := Aside0.mk (blk_below (g := w.heap.size) (o := .cells #[(.int .i64 i), (.float .f64 f), (.float .f64 g)] 27 (0, 0)) (by repeat (first | (with_reducible exact BK5.out) | (with_reducible refine blk_drewN ?_ _) | (with_reducible refine blk_drew ?_))) hb)
  replace BK6 := Aside0.mk (blk_below (g := w.heap.size + 1) (o := .cells #[(.int .i64 0), (.float .f64 0), (.float .f64 0)] 27 (0, 0)) (by repeat (first | (with_reducible exact BK6.out) | (with_reducible refine blk_drewN ?_ _) | (with_reducible refine blk_drew ?_))) hb)
  replace BB := Aside0.mk (bb_step hb (by repeat (first | (with_reducible exact BB.out) | (with_reducible apply Vc.below_drewN) | (with_reducible apply Below.drew) | (refine Below.setCell ?_ (by simp; try omega) _))))
  clear hb
  have c50 : w3.cell? ⟨w.heap.size, 0, none⟩ = some (.int .i64 i) := (blk_cell BK5.out 0).trans rfl
  have c51 : w3.cell? ⟨w.heap.size, 1, none⟩ = some (.float .f64 f) := (blk_cell BK5.out 1).trans rfl
  have c52 : w3.cell? ⟨w.heap.size, 2, none⟩ = some (.float .f64 g) := (blk_cell BK5.out 2).trans rfl
  have c60 : w3.cell? ⟨w.heap.size + 1, 0, none⟩ = some (.int .i64 0) := (blk_cell BK6.out 0).trans rfl
  have d60 : w3.frozen? ⟨w.heap.size + 1, 0, none⟩ = false := blk_frozen BK6.out 0
  have c61 : w3.cell? ⟨w.heap.size + 1, 1, none⟩ = some (.float .f64 0) := (blk_cell BK6.out 1).trans rfl
  have d61 : w3.frozen? ⟨w.heap.size + 1, 1, none⟩ = false := blk_frozen BK6.out 1
  have c62 : w3.cell? ⟨w.heap.size + 1, 2, none⟩ = some (.float .f64 0) := (blk_cell BK6.out 2).trans rfl
  have d62 : w3.frozen? ⟨w.heap.size + 1, 2, none⟩ = false := blk_frozen BK6.out 2
  go_wp2_with fail
  refine bodyPost_ret (results_cell_row rfl _ _ (w.heap.size + 1) 27 #[_, _, _] (0, 0) _ rfl (cell3 (by repeat (first | (with_reducible exact BK6.out) | (with_reducible refine blk_drewN ?_ _) | (with_reducible refine blk_drew ?_))) _ _ _) Tryd.underlying27 rfl (by kernel_rfl)) rfl ?_
  refine ⟨rfl, ?_⟩
  repeat (first | (with_reducible exact BB.out) | (with_reducible apply Vc.below_drewN) | (with_reducible apply Below.drew) | (refine Below.setCell ?_ (by simp; try omega) _))
set_option maxHeartbeats 8000000 in
theorem convert_1 (n m : Nat) (hn : n < 9) (hm : m < 9) (hab : n = m)  (i : Int) (f g : Nat) (hf : f < 18446744073709551616) (hg : g < 18446744073709551616) (w : World) (hT : Table.Holds w) (hv : vcell ((n : Int) + 1) i f g = true) :
    Calls Tryd.prog 31 #[.int .i64 ((n : Int) + 1), .int .i64 ((m : Int) + 1), .agg #[.int .i64 i, .float .f64 f, .float .f64 g]] w fun e w' => ∃ j x y, (Cv ((n : Int) + 1) ((m : Int) + 1) i f g j x y ∧ x < 18446744073709551616 ∧ y < 18446744073709551616) ∧ CellR j x y w e w' := by
  have h0 : 0 < w.heap.size := World.block_lt_of_cell? w _ (hT 0 0 (by omega) (by omega))
  have HT := Lib.hid hT
  have I1 := Lib.hid (show ∀ w, Calls Tryd.prog 68 #[.int .i64 ((n : Int) + 1)] w fun e w' => e = .returned (.bool true) ∧ w = w' from fun w => by have := impl_isd ((n : Int) + 1) w; rw [isd_of n hn] at this; exact this)
  have I2 := Lib.hid (show ∀ w, Calls Tryd.prog 68 #[.int .i64 ((m : Int) + 1)] w fun e w' => e = .returned (.bool true) ∧ w = w' from fun w => by have := impl_isd ((m : Int) + 1) w; rw [isd_of m hm] at this; exact this)
  have V := Lib.hid (show ∀ w, Table.Holds w → Calls Tryd.prog 19 #[.int .i64 ((n : Int) + 1), .agg #[.int .i64 i, .float .f64 f, .float .f64 g]] w fun e w' => e = .returned (.bool true) ∧ Below w.heap.size w w' from fun w h => by have := impl_vcell ((n : Int) + 1) i f g hf hg w h; rw [hv] at this; exact this)
  have HF := Lib.hid hf
  have HG := Lib.hid hg
  obtain ⟨ka, hka⟩ : ∃ ka, kindI ((n : Int) + 1) = ka := ⟨_, rfl⟩
  obtain ⟨kb, hkb⟩ : ∃ kb, kindI ((m : Int) + 1) = kb := ⟨_, rfl⟩
  have KA := Lib.hid hka
  have KB := Lib.hid hkb
  have e1 : ((n : Int) + 1 == (m : Int) + 1) = true := by rw [hab]; simp
  have HE := Lib.hid hab
  clear hab
  clear hka hkb hT hf hg hv
  have hns : ((n : Int) + 1).toNat = n + 1 := by omega
  have hms : ((m : Int) + 1).toNat = m + 1 := by omega
  have hlt : (n : Int) + 1 < 10 := by omega
  have hmt : (m : Int) + 1 < 10 := by omega
  go_enter Tryd.func31, Tryd.ntmps31
  go_wp2_with fail
  refine (I1.out _).mono ?_
  rintro e w1 ⟨rfl, hw⟩
  have BK5 : Aside0 (w1.heap[w.heap.size]? = some (.cells #[(.int .i64 i), (.float .f64 f), (.float .f64 g)] 27 (0, 0))) := ⟨by rw [← hw, heap_alloc_get, heap_alloc_get]; simp; try omega⟩
  have BK6 : Aside0 (w1.heap[w.heap.size + 1]? = some (.cells #[(.int .i64 0), (.float .f64 0), (.float .f64 0)] 27 (0, 0))) := ⟨by rw [← hw, heap_alloc_get, heap_alloc_get]; simp; try omega⟩
  have BB : Aside0 (Below w.heap.size w w1) := ⟨by rw [← hw]; repeat (first | exact Below.refl _ _ | (refine Below.alloc ?_ (by simp; try omega) _))⟩
  clear hw
  have c50 : w1.cell? ⟨w.heap.size, 0, none⟩ = some (.int .i64 i) := (blk_cell BK5.out 0).trans rfl
  have c51 : w1.cell? ⟨w.heap.size, 1, none⟩ = some (.float .f64 f) := (blk_cell BK5.out 1).trans rfl
  have c52 : w1.cell? ⟨w.heap.size, 2, none⟩ = some (.float .f64 g) := (blk_cell BK5.out 2).trans rfl
  have c60 : w1.cell? ⟨w.heap.size + 1, 0, none⟩ = some (.int .i64 0) := (blk_cell BK6.out 0).trans rfl
  have d60 : w1.frozen? ⟨w.heap.size + 1, 0, none⟩ = false := blk_frozen BK6.out 0
  have c61 : w1.cell? ⟨w.heap.size + 1, 1, none⟩ = some (.float .f64 0) := (blk_cell BK6.out 1).trans rfl
  have d61 : w1.frozen? ⟨w.heap.size + 1, 1, none⟩ = false := blk_frozen BK6.out 1
  have c62 : w1.cell? ⟨w.heap.size + 1, 2, none⟩ = some (.float .f64 0) := (blk_cell BK6.out 2).trans rfl
  have d62 : w1.frozen? ⟨w.heap.size + 1, 2, none⟩ = false := blk_frozen BK6.out 2
  have r0 : w1.cell? ⟨0, (n + 1) * 5, none⟩ = some (.int .i64 ka) := (row_of (Table.holds_below HT.out BB.out h0) n hn).1.trans (by rw [KA.out])
  have s0 : w1.cell? ⟨0, (m + 1) * 5, none⟩ = some (.int .i64 kb) := (row_of (Table.holds_below HT.out BB.out h0) m hm).1.trans (by rw [KB.out])
  go_wp2_with fail
  refine (I2.out _).mono ?_
  rintro e w2 ⟨rfl, rfl⟩
  go_wp2_with fail
  refine (V.out _ (Table.holds_below HT.out (by repeat (first | (with_reducible exact BB.out) | (with_reducible apply Vc.below_drewN) | (with_reducible apply Below.drew) | (refine Below.setCell ?_ (by simp; try omega) _))) h0)).mono ?_
  rintro e w3 ⟨rfl, hb⟩
  replace BK5 := Aside0.mk (blk_below (g := w.heap.size) (o := .cells #[(.int .i64 i), (.float .f64 f), (.float .f64 g)] 27 (0, 0)) (by repeat (first | (with_reducible exact BK5.out) | (with_reducible refine blk_drewN ?_ _) | (with_reducible refine blk_drew ?_))) hb)
  replace BK6 := Aside0.mk (blk_below (g := w.heap.size + 1) (o := .cells #[(.int .i64 0), (.float .f64 0), (.float .f64 0)] 27 (0, 0)) (by repeat (first | (with_reducible exact BK6.out) | (with_reducible refine blk_drewN ?_ _) | (with_reducible refine blk_drew ?_))) hb)
  replace BB := Aside0.mk (bb_step hb (by repeat (first | (with_reducible exact BB.out) | (with_reducible apply Vc.below_drewN) | (with_reducible apply Below.drew) | (refine Below.setCell ?_ (by simp; try omega) _))))
  clear hb
  have c50 : w3.cell? ⟨w.heap.size, 0, none⟩ = some (.int .i64 i) := (blk_cell BK5.out 0).trans rfl
  have c51 : w3.cell? ⟨w.heap.size, 1, none⟩ = some (.float .f64 f) := (blk_cell BK5.out 1).trans rfl
  have c52 : w3.cell? ⟨w.heap.size, 2, none⟩ = some (.float .f64 g) := (blk_cell BK5.out 2).trans rfl
  have c60 : w3.cell? ⟨w.heap.size + 1, 0, none⟩ = some (.int .i64 0) := (blk_cell BK6.out 0).trans rfl
  have d60 : w3.frozen? ⟨w.heap.size + 1, 0, none⟩ = false := blk_frozen BK6.out 0
  have c61 : w3.cell? ⟨w.heap.size + 1, 1, none⟩ = some (.float .f64 0) := (blk_cell BK6.out 1).trans rfl
  have d61 : w3.frozen? ⟨w.heap.size + 1, 1, none⟩ = false := blk_frozen BK6.out 1
  have c62 : w3.cell? ⟨w.heap.size + 1, 2, none⟩ = some (.float .f64 0) := (blk_cell BK6.out 2).trans rfl
  have d62 : w3.frozen? ⟨w.heap.size + 1, 2, none⟩ = false := blk_frozen BK6.out 2
  have r0 : w3.cell? ⟨0, (n + 1) * 5, none⟩ = some (.int .i64 ka) := (row_of (Table.holds_below HT.out BB.out h0) n hn).1.trans (by rw [KA.out])
  have s0 : w3.cell? ⟨0, (m + 1) * 5, none⟩ = some (.int .i64 kb) := (row_of (Table.holds_below HT.out BB.out h0) m hm).1.trans (by rw [KB.out])
  go_wp2_with fail
  go_quiet (fail)
  go_wp2_with (first | (go_at_call 91; refine (impl_cut _ _ _).mono ?_; rintro e w' ⟨rfl, rfl⟩) | (go_at_call 90; refine (int_cell _ _).mono ?_; rintro e w4 ⟨rfl, hb⟩; replace BK5 := Aside0.mk (blk_below (g := w.heap.size) (o := .cells #[(.int .i64 i), (.float .f64 f), (.float .f64 g)] 27 (0, 0)) (by repeat (first | (with_reducible exact BK5.out) | (with_reducible refine blk_drewN ?_ _) | (with_reducible refine blk_drew ?_))) hb); replace BK6 := Aside0.mk (blk_below (g := w.heap.size + 1) (o := .cells #[(.int .i64 0), (.float .f64 0), (.float .f64 0)] 27 (0, 0)) (by repeat (first | (with_reducible exact BK6.out) | (with_reducible refine blk_drewN ?_ _) | (with_reducible refine blk_drew ?_))) hb); replace BB := Aside0.mk (bb_step hb (by repeat (first | (with_reducible exact BB.out) | (with_reducible apply Vc.below_drewN) | (with_reducible apply Below.drew) | (refine Below.setCell ?_ (by simp; try omega) _)))); clear hb; have c50 : w4.cell? ⟨w.heap.size, 0, none⟩ = some (.int .i64 i) := (blk_cell BK5.out 0).trans rfl; have c51 : w4.cell? ⟨w.heap.size, 1, none⟩ = some (.float .f64 f) := (blk_cell BK5.out 1).trans rfl; have c52 : w4.cell? ⟨w.heap.size, 2, none⟩ = some (.float .f64 g) := (blk_cell BK5.out 2).trans rfl; have c60 : w4.cell? ⟨w.heap.size + 1, 0, none⟩ = some (.int .i64 0) := (blk_cell BK6.out 0).trans rfl; have d60 : w4.frozen? ⟨w.heap.size + 1, 0, none⟩ = false := blk_frozen BK6.out 0; have c61 : w4.cell? ⟨w.heap.size + 1, 1, none⟩ = some (.float .f64 0) := (blk_cell BK6.out 1).trans rfl; have d61 : w4.frozen? ⟨w.heap.size + 1, 1, none⟩ = false := blk_frozen BK6.out 1; have c62 : w4.cell? ⟨w.heap.size + 1, 2, none⟩ = some (.float .f64 0) := (blk_cell BK6.out 2).trans rfl; have d62 : w4.frozen? ⟨w.heap.size + 1, 2, none⟩ = false := blk_frozen BK6.out 2) | (go_at_call 92; refine (TI.out _ (Table.holds_below HT.out (by repeat (first | (with_reducible exact BB.out) | (with_reducible apply Vc.below_drewN) | (with_reducible apply Below.drew) | (refine Below.setCell ?_ (by simp; try omega) _))) h0)).mono ?_; rintro e w4 ⟨j, rfl, hj, hb⟩; have HJ := Aside0.mk hj; clear hj; replace BK5 := Aside0.mk (blk_below (g := w.heap.size) (o := .cells #[(.int .i64 i), (.float .f64 f), (.float .f64 g)] 27 (0, 0)) (by repeat (first | (with_reducible exact BK5.out) | (with_reducible refine blk_drewN ?_ _) | (with_reducible refine blk_drew ?_))) hb); replace BK6 := Aside0.mk (blk_below (g := w.heap.size + 1) (o := .cells #[(.int .i64 0), (.float .f64 0), (.float .f64 0)] 27 (0, 0)) (by repeat (first | (with_reducible exact BK6.out) | (with_reducible refine blk_drewN ?_ _) | (with_reducible refine blk_drew ?_))) hb); replace BB := Aside0.mk (bb_step hb (by repeat (first | (with_reducible exact BB.out) | (with_reducible apply Vc.below_drewN) | (with_reducible apply Below.drew) | (refine Below.setCell ?_ (by simp; try omega) _)))); clear hb; have c50 : w4.cell? ⟨w.heap.size, 0, none⟩ = some (.int .i64 i) := (blk_cell BK5.out 0).trans rfl; have c51 : w4.cell? ⟨w.heap.size, 1, none⟩ = some (.float .f64 f) := (blk_cell BK5.out 1).trans rfl; have c52 : w4.cell? ⟨w.heap.size, 2, none⟩ = some (.float .f64 g) := (blk_cell BK5.out 2).trans rfl; have c60 : w4.cell? ⟨w.heap.size + 1, 0, none⟩ = some (.int .i64 0) := (blk_cell BK6.out 0).trans rfl; have d60 : w4.frozen? ⟨w.heap.size + 1, 0, none⟩ = false := blk_frozen BK6.out 0; have c61 : w4.cell? ⟨w.heap.size + 1, 1, none⟩ = some (.float .f64 0) := (blk_cell BK6.out 1).trans rfl; have d61 : w4.frozen? ⟨w.heap.size + 1, 1, none⟩ = false := blk_frozen BK6.out 1; have c62 : w4.cell? ⟨w.heap.size + 1, 2, none⟩ = some (.float .f64 0) := (blk_cell BK6.out 2).trans rfl; have d62 : w4.frozen? ⟨w.heap.size + 1, 2, none⟩ = false := blk_frozen BK6.out 2) | (go_at_call 93; refine (single_run _ HF.out _).mono ?_; rintro e w' ⟨x, q, rfl, hx, rfl⟩; have HX := Aside0.mk hx; clear hx))
  all_goals refine bodyPost_ret (results_cell_row rfl _ _ (w.heap.size + 1) 27 #[_, _, _] (0, 0) _ rfl (cell3 (by repeat (first | (with_reducible exact BK6.out) | (with_reducible refine blk_drewN ?_ _) | (with_reducible refine blk_drew ?_))) _ _ _) Tryd.underlying27 rfl (by kernel_rfl)) rfl ?_
  all_goals refine ⟨_, _, _, ?_, rfl, (by repeat (first | (with_reducible exact BB.out) | (with_reducible apply Vc.below_drewN) | (with_reducible apply Below.drew) | (refine Below.setCell ?_ (by simp; try omega) _)))⟩
  all_goals obtain rfl := HE.out
  all_goals exact ⟨cv1, HF.out, HG.out⟩
set_option maxHeartbeats 8000000 in
theorem convert_2 (n m : Nat) (hn : n < 9) (hm : m < 9) (hab : ¬ n = m) (hb : m = 0)  (i : Int) (f g : Nat) (hf : f < 18446744073709551616) (hg : g < 18446744073709551616) (w : World) (hT : Table.Holds w) (hv : vcell ((n : Int) + 1) i f g = true) :
    Calls Tryd.prog 31 #[.int .i64 ((n : Int) + 1), .int .i64 ((m : Int) + 1), .agg #[.int .i64 i, .float .f64 f, .float .f64 g]] w fun e w' => ∃ j x y, (Cv ((n : Int) + 1) ((m : Int) + 1) i f g j x y ∧ x < 18446744073709551616 ∧ y < 18446744073709551616) ∧ CellR j x y w e w' := by
  have h0 : 0 < w.heap.size := World.block_lt_of_cell? w _ (hT 0 0 (by omega) (by omega))
  have HT := Lib.hid hT
  have I1 := Lib.hid (show ∀ w, Calls Tryd.prog 68 #[.int .i64 ((n : Int) + 1)] w fun e w' => e = .returned (.bool true) ∧ w = w' from fun w => by have := impl_isd ((n : Int) + 1) w; rw [isd_of n hn] at this; exact this)
  have I2 := Lib.hid (show ∀ w, Calls Tryd.prog 68 #[.int .i64 ((m : Int) + 1)] w fun e w' => e = .returned (.bool true) ∧ w = w' from fun w => by have := impl_isd ((m : Int) + 1) w; rw [isd_of m hm] at this; exact this)
  have V := Lib.hid (show ∀ w, Table.Holds w → Calls Tryd.prog 19 #[.int .i64 ((n : Int) + 1), .agg #[.int .i64 i, .float .f64 f, .float .f64 g]] w fun e w' => e = .returned (.bool true) ∧ Below w.heap.size w w' from fun w h => by have := impl_vcell ((n : Int) + 1) i f g hf hg w h; rw [hv] at this; exact this)
  have HF := Lib.hid hf
  have HG := Lib.hid hg
  obtain ⟨ka, hka⟩ : ∃ ka, kindI ((n : Int) + 1) = ka := ⟨_, rfl⟩
  obtain ⟨kb, hkb⟩ : ∃ kb, kindI ((m : Int) + 1) = kb := ⟨_, rfl⟩
  have KA := Lib.hid hka
  have KB := Lib.hid hkb
  have e1 : ((n : Int) + 1 == (m : Int) + 1) = false := by simp; omega
  have HN := Lib.hid (show ¬ (n : Int) + 1 = (m : Int) + 1 by omega)
  have e2 : ((m : Int) + 1 == 1) = true := by rw [hb]; rfl
  have HE := Lib.hid hb
  clear hka hkb hT hf hg hv hab hb
  have hns : ((n : Int) + 1).toNat = n + 1 := by omega
  have hms : ((m : Int) + 1).toNat = m + 1 := by omega
  have hlt : (n : Int) + 1 < 10 := by omega
  have hmt : (m : Int) + 1 < 10 := by omega
  go_enter Tryd.func31, Tryd.ntmps31
  go_wp2_with fail
  refine (I1.out _).mono ?_
  rintro e w1 ⟨rfl, hw⟩
  have BK5 : Aside0 (w1.heap[w.heap.size]? = some (.cells #[(.int .i64 i), (.float .f64 f), (.float .f64 g)] 27 (0, 0))) := ⟨by rw [← hw, heap_alloc_get, heap_alloc_get]; simp; try omega⟩
  have BK6 : Aside0 (w1.heap[w.heap.size + 1]? = some (.cells #[(.int .i64 0), (.float .f64 0), (.float .f64 0)] 27 (0, 0))) := ⟨by rw [← hw, heap_alloc_get, heap_alloc_get]; simp; try omega⟩
  have BB : Aside0 (Below w.heap.size w w1) := ⟨by rw [← hw]; repeat (first | exact Below.refl _ _ | (refine Below.alloc ?_ (by simp; try omega) _))⟩
  clear hw
  have c50 : w1.cell? ⟨w.heap.size, 0, none⟩ = some (.int .i64 i) := (blk_cell BK5.out 0).trans rfl
  have c51 : w1.cell? ⟨w.heap.size, 1, none⟩ = some (.float .f64 f) := (blk_cell BK5.out 1).trans rfl
  have c52 : w1.cell? ⟨w.heap.size, 2, none⟩ = some (.float .f64 g) := (blk_cell BK5.out 2).trans rfl
  have c60 : w1.cell? ⟨w.heap.size + 1, 0, none⟩ = some (.int .i64 0) := (blk_cell BK6.out 0).trans rfl
  have d60 : w1.frozen? ⟨w.heap.size + 1, 0, none⟩ = false := blk_frozen BK6.out 0
  have c61 : w1.cell? ⟨w.heap.size + 1, 1, none⟩ = some (.float .f64 0) := (blk_cell BK6.out 1).trans rfl
  have d61 : w1.frozen? ⟨w.heap.size + 1, 1, none⟩ = false := blk_frozen BK6.out 1
  have c62 : w1.cell? ⟨w.heap.size + 1, 2, none⟩ = some (.float .f64 0) := (blk_cell BK6.out 2).trans rfl
  have d62 : w1.frozen? ⟨w.heap.size + 1, 2, none⟩ = false := blk_frozen BK6.out 2
  have r0 : w1.cell? ⟨0, (n + 1) * 5, none⟩ = some (.int .i64 ka) := (row_of (Table.holds_below HT.out BB.out h0) n hn).1.trans (by rw [KA.out])
  have s0 : w1.cell? ⟨0, (m + 1) * 5, none⟩ = some (.int .i64 kb) := (row_of (Table.holds_below HT.out BB.out h0) m hm).1.trans (by rw [KB.out])
  go_wp2_with fail
  refine (I2.out _).mono ?_
  rintro e w2 ⟨rfl, rfl⟩
  go_wp2_with fail
  refine (V.out _ (Table.holds_below HT.out (by repeat (first | (with_reducible exact BB.out) | (with_reducible apply Vc.below_drewN) | (with_reducible apply Below.drew) | (refine Below.setCell ?_ (by simp; try omega) _))) h0)).mono ?_
  rintro e w3 ⟨rfl, hb⟩
  replace BK5 := Aside0.mk (blk_below (g := w.heap.size) (o := .cells #[(.int .i64 i), (.float .f64 f), (.float .f64 g)] 27 (0, 0)) (by repeat (first | (with_reducible exact BK5.out) | (with_reducible refine blk_drewN ?_ _) | (with_reducible refine blk_drew ?_))) hb)
  replace BK6 := Aside0.mk (blk_below (g := w.heap.size + 1) (o := .cells #[(.int .i64 0), (.float .f64 0), (.float .f64 0)] 27 (0, 0)) (by repeat (first | (with_reducible exact BK6.out) | (with_reducible refine blk_drewN ?_ _) | (with_reducible refine blk_drew ?_))) hb)
  replace BB := Aside0.mk (bb_step hb (by repeat (first | (with_reducible exact BB.out) | (with_reducible apply Vc.below_drewN) | (with_reducible apply Below.drew) | (refine Below.setCell ?_ (by simp; try omega) _))))
  clear hb
  have c50 : w3.cell? ⟨w.heap.size, 0, none⟩ = some (.int .i64 i) := (blk_cell BK5.out 0).trans rfl
  have c51 : w3.cell? ⟨w.heap.size, 1, none⟩ = some (.float .f64 f) := (blk_cell BK5.out 1).trans rfl
  have c52 : w3.cell? ⟨w.heap.size, 2, none⟩ = some (.float .f64 g) := (blk_cell BK5.out 2).trans rfl
  have c60 : w3.cell? ⟨w.heap.size + 1, 0, none⟩ = some (.int .i64 0) := (blk_cell BK6.out 0).trans rfl
  have d60 : w3.frozen? ⟨w.heap.size + 1, 0, none⟩ = false := blk_frozen BK6.out 0
  have c61 : w3.cell? ⟨w.heap.size + 1, 1, none⟩ = some (.float .f64 0) := (blk_cell BK6.out 1).trans rfl
  have d61 : w3.frozen? ⟨w.heap.size + 1, 1, none⟩ = false := blk_frozen BK6.out 1
  have c62 : w3.cell? ⟨w.heap.size + 1, 2, none⟩ = some (.float .f64 0) := (blk_cell BK6.out 2).trans rfl
  have d62 : w3.frozen? ⟨w.heap.size + 1, 2, none⟩ = false := blk_frozen BK6.out 2
  have r0 : w3.cell? ⟨0, (n + 1) * 5, none⟩ = some (.int .i64 ka) := (row_of (Table.holds_below HT.out BB.out h0) n hn).1.trans (by rw [KA.out])
  have s0 : w3.cell? ⟨0, (m + 1) * 5, none⟩ = some (.int .i64 kb) := (row_of (Table.holds_below HT.out BB.out h0) m hm).1.trans (by rw [KB.out])
  go_wp2_with fail
  go_quiet (fail)
  go_wp2_with (first | (go_at_call 91; refine (impl_cut _ _ _).mono ?_; rintro e w' ⟨rfl, rfl⟩) | (go_at_call 90; refine (int_cell _ _).mono ?_; rintro e w4 ⟨rfl, hb⟩; replace BK5 := Aside0.mk (blk_below (g := w.heap.size) (o := .cells #[(.int .i64 i), (.float .f64 f), (.float .f64 g)] 27 (0, 0)) (by repeat (first | (with_reducible exact BK5.out) | (with_reducible refine blk_drewN ?_ _) | (with_reducible refine blk_drew ?_))) hb); replace BK6 := Aside0.mk (blk_below (g := w.heap.size + 1) (o := .cells #[(.int .i64 0), (.float .f64 0), (.float .f64 0)] 27 (0, 0)) (by repeat (first | (with_reducible exact BK6.out) | (with_reducible refine blk_drewN ?_ _) | (with_reducible refine blk_drew ?_))) hb); replace BB := Aside0.mk (bb_step hb (by repeat (first | (with_reducible exact BB.out) | (with_reducible apply Vc.below_drewN) | (with_reducible apply Below.drew) | (refine Below.setCell ?_ (by simp; try omega) _)))); clear hb; have c50 : w4.cell? ⟨w.heap.size, 0, none⟩ = some (.int .i64 i) := (blk_cell BK5.out 0).trans rfl; have c51 : w4.cell? ⟨w.heap.size, 1, none⟩ = some (.float .f64 f) := (blk_cell BK5.out 1).trans rfl; have c52 : w4.cell? ⟨w.heap.size, 2, none⟩ = some (.float .f64 g) := (blk_cell BK5.out 2).trans rfl; have c60 : w4.cell? ⟨w.heap.size + 1, 0, none⟩ = some (.int .i64 0) := (blk_cell BK6.out 0).trans rfl; have d60 : w4.frozen? ⟨w.heap.size + 1, 0, none⟩ = false := blk_frozen BK6.out 0; have c61 : w4.cell? ⟨w.heap.size + 1, 1, none⟩ = some (.float .f64 0) := (blk_cell BK6.out 1).trans rfl; have d61 : w4.frozen? ⟨w.heap.size + 1, 1, none⟩ = false := blk_frozen BK6.out 1; have c62 : w4.cell? ⟨w.heap.size + 1, 2, none⟩ = some (.float .f64 0) := (blk_cell BK6.out 2).trans rfl; have d62 : w4.frozen? ⟨w.heap.size + 1, 2, none⟩ = false := blk_frozen BK6.out 2) | (go_at_call 92; refine (TI.out _ (Table.holds_below HT.out (by repeat (first | (with_reducible exact BB.out) | (with_reducible apply Vc.below_drewN) | (with_reducible apply Below.drew) | (refine Below.setCell ?_ (by simp; try omega) _))) h0)).mono ?_; rintro e w4 ⟨j, rfl, hj, hb⟩; have HJ := Aside0.mk hj; clear hj; replace BK5 := Aside0.mk (blk_below (g := w.heap.size) (o := .cells #[(.int .i64 i), (.float .f64 f), (.float .f64 g)] 27 (0, 0)) (by repeat (first | (with_reducible exact BK5.out) | (with_reducible refine blk_drewN ?_ _) | (with_reducible refine blk_drew ?_))) hb); replace BK6 := Aside0.mk (blk_below (g := w.heap.size + 1) (o := .cells #[(.int .i64 0), (.float .f64 0), (.float .f64 0)] 27 (0, 0)) (by repeat (first | (with_reducible exact BK6.out) | (with_reducible refine blk_drewN ?_ _) | (with_reducible refine blk_drew ?_))) hb); replace BB := Aside0.mk (bb_step hb (by repeat (first | (with_reducible exact BB.out) | (with_reducible apply Vc.below_drewN) | (with_reducible apply Below.drew) | (refine Below.setCell ?_ (by simp; try omega) _)))); clear hb; have c50 : w4.cell? ⟨w.heap.size, 0, none⟩ = some (.int .i64 i) := (blk_cell BK5.out 0).trans rfl; have c51 : w4.cell? ⟨w.heap.size, 1, none⟩ = some (.float .f64 f) := (blk_cell BK5.out 1).trans rfl; have c52 : w4.cell? ⟨w.heap.size, 2, none⟩ = some (.float .f64 g) := (blk_cell BK5.out 2).trans rfl; have c60 : w4.cell? ⟨w.heap.size + 1, 0, none⟩ = some (.int .i64 0) := (blk_cell BK6.out 0).trans rfl; have d60 : w4.frozen? ⟨w.heap.size + 1, 0, none⟩ = false := blk_frozen BK6.out 0; have c61 : w4.cell? ⟨w.heap.size + 1, 1, none⟩ = some (.float .f64 0) := (blk_cell BK6.out 1).trans rfl; have d61 : w4.frozen? ⟨w.heap.size + 1, 1, none⟩ = false := blk_frozen BK6.out 1; have c62 : w4.cell? ⟨w.heap.size + 1, 2, none⟩ = some (.float .f64 0) := (blk_cell BK6.out 2).trans rfl; have d62 : w4.frozen? ⟨w.heap.size + 1, 2, none⟩ = false := blk_frozen BK6.out 2) | (go_at_call 93; refine (single_run _ HF.out _).mono ?_; rintro e w' ⟨x, q, rfl, hx, rfl⟩; have HX := Aside0.mk hx; clear hx))
  all_goals refine bodyPost_ret (results_cell_row rfl _ _ (w.heap.size + 1) 27 #[_, _, _] (0, 0) _ rfl (cell3 (by repeat (first | (with_reducible exact BK6.out) | (with_reducible refine blk_drewN ?_ _) | (with_reducible refine blk_drew ?_))) _ _ _) Tryd.underlying27 rfl (by kernel_rfl)) rfl ?_
  all_goals refine ⟨_, _, _, ?_, rfl, (by repeat (first | (with_reducible exact BB.out) | (with_reducible apply Vc.below_drewN) | (with_reducible apply Below.drew) | (refine Below.setCell ?_ (by simp; try omega) _)))⟩
  all_goals have HE := HE.out
  all_goals rw [show ((m : Int) + 1) = 1 by omega]
  all_goals refine ⟨cv2 (by have := HN.out; omega) ?_, by decide, by decide⟩
  all_goals first
    | (rw [if_neg (fun h => absurd h.1 (by assumption))]; done)
    | (rw [if_neg (fun h => by have := h.2.1; rw [feq_of_not (by assumption)] at this; cases this)]; done)
    | (rw [if_neg (fun h => by have := h.2.2; rw [feq_no2 (by assumption)] at this; cases this)]; done)
    | (rw [if_pos ⟨by assumption, feq_of (by assumption), feq_yes2 (by assumption)⟩]; done)
set_option maxHeartbeats 8000000 in
theorem convert_3 (n m : Nat) (hn : n < 9) (hm : m < 9) (hab : ¬ n = m) (hk : kindI ((n : Int) + 1) ≤ 1) (hb0 : ¬ m = 0) (hb1 : kindI ((m : Int) + 1) = 1)  (i : Int) (f g : Nat) (hf : f < 18446744073709551616) (hg : g < 18446744073709551616) (w : World) (hT : Table.Holds w) (hv : vcell ((n : Int) + 1) i f g = true) :
    Calls Tryd.prog 31 #[.int .i64 ((n : Int) + 1), .int .i64 ((m : Int) + 1), .agg #[.int .i64 i, .float .f64 f, .float .f64 g]] w fun e w' => ∃ j x y, (Cv ((n : Int) + 1) ((m : Int) + 1) i f g j x y ∧ x < 18446744073709551616 ∧ y < 18446744073709551616) ∧ CellR j x y w e w' := by
  have h0 : 0 < w.heap.size := World.block_lt_of_cell? w _ (hT 0 0 (by omega) (by omega))
  have HT := Lib.hid hT
  have I1 := Lib.hid (show ∀ w, Calls Tryd.prog 68 #[.int .i64 ((n : Int) + 1)] w fun e w' => e = .returned (.bool true) ∧ w = w' from fun w => by have := impl_isd ((n : Int) + 1) w; rw [isd_of n hn] at this; exact this)
  have I2 := Lib.hid (show ∀ w, Calls Tryd.prog 68 #[.int .i64 ((m : Int) + 1)] w fun e w' => e = .returned (.bool true) ∧ w = w' from fun w => by have := impl_isd ((m : Int) + 1) w; rw [isd_of m hm] at this; exact this)
  have V := Lib.hid (show ∀ w, Table.Holds w → Calls Tryd.prog 19 #[.int .i64 ((n : Int) + 1), .agg #[.int .i64 i, .float .f64 f, .float .f64 g]] w fun e w' => e = .returned (.bool true) ∧ Below w.heap.size w w' from fun w h => by have := impl_vcell ((n : Int) + 1) i f g hf hg w h; rw [hv] at this; exact this)
  have HF := Lib.hid hf
  have HG := Lib.hid hg
  obtain ⟨ka, hka⟩ : ∃ ka, kindI ((n : Int) + 1) = ka := ⟨_, rfl⟩
  obtain ⟨kb, hkb⟩ : ∃ kb, kindI ((m : Int) + 1) = kb := ⟨_, rfl⟩
  have KA := Lib.hid hka
  have KB := Lib.hid hkb
  have e1 : ((n : Int) + 1 == (m : Int) + 1) = false := by simp; omega
  have HN := Lib.hid (show ¬ (n : Int) + 1 = (m : Int) + 1 by omega)
  have e2 : ((m : Int) + 1 == 1) = false := by simp; omega
  have H1 := Lib.hid (show ¬ (m : Int) + 1 = 1 by omega)
  have h1 : ka ≤ 1 := by rw [← hka]; exact hk
  have HK := Lib.hid hk
  have e3 : (kb == 1) = true := by rw [← hkb, hb1]; rfl
  have HB := Lib.hid hb1
  clear hka hkb hT hf hg hv hab hk hb0 hb1
  have hns : ((n : Int) + 1).toNat = n + 1 := by omega
  have hms : ((m : Int) + 1).toNat = m + 1 := by omega
  have hlt : (n : Int) + 1 < 10 := by omega
  have hmt : (m : Int) + 1 < 10 := by omega
  go_enter Tryd.func31, Tryd.ntmps31
  go_wp2_with fail
  refine (I1.out _).mono ?_
  rintro e w1 ⟨rfl, hw⟩
  have BK5 : Aside0 (w1.heap[w.heap.size]? = some (.cells #[(.int .i64 i), (.float .f64 f), (.float .f64 g)] 27 (0, 0))) := ⟨by rw [← hw, heap_alloc_get, heap_alloc_get]; simp; try omega⟩
  have BK6 : Aside0 (w1.heap[w.heap.size + 1]? = some (.cells #[(.int .i64 0), (.float .f64 0), (.float .f64 0)] 27 (0, 0))) := ⟨by rw [← hw, heap_alloc_get, heap_alloc_get]; simp; try omega⟩
  have BB : Aside0 (Below w.heap.size w w1) := ⟨by rw [← hw]; repeat (first | exact Below.refl _ _ | (refine Below.alloc ?_ (by simp; try omega) _))⟩
  clear hw
  have c50 : w1.cell? ⟨w.heap.size, 0, none⟩ = some (.int .i64 i) := (blk_cell BK5.out 0).trans rfl
  have c51 : w1.cell? ⟨w.heap.size, 1, none⟩ = some (.float .f64 f) := (blk_cell BK5.out 1).trans rfl
  have c52 : w1.cell? ⟨w.heap.size, 2, none⟩ = some (.float .f64 g) := (blk_cell BK5.out 2).trans rfl
  have c60 : w1.cell? ⟨w.heap.size + 1, 0, none⟩ = some (.int .i64 0) := (blk_cell BK6.out 0).trans rfl
  have d60 : w1.frozen? ⟨w.heap.size + 1, 0, none⟩ = false := blk_frozen BK6.out 0
  have c61 : w1.cell? ⟨w.heap.size + 1, 1, none⟩ = some (.float .f64 0) := (blk_cell BK6.out 1).trans rfl
  have d61 : w1.frozen? ⟨w.heap.size + 1, 1, none⟩ = false := blk_frozen BK6.out 1
  have c62 : w1.cell? ⟨w.heap.size + 1, 2, none⟩ = some (.float .f64 0) := (blk_cell BK6.out 2).trans rfl
  have d62 : w1.frozen? ⟨w.heap.size + 1, 2, none⟩ = false := blk_frozen BK6.out 2
  have r0 : w1.cell? ⟨0, (n + 1) * 5, none⟩ = some (.int .i64 ka) := (row_of (Table.holds_below HT.out BB.out h0) n hn).1.trans (by rw [KA.out])
  have s0 : w1.cell? ⟨0, (m + 1) * 5, none⟩ = some (.int .i64 kb) := (row_of (Table.holds_below HT.out BB.out h0) m hm).1.trans (by rw [KB.out])
  go_wp2_with fail
  refine (I2.out _).mono ?_
  rintro e w2 ⟨rfl, rfl⟩
  go_wp2_with fail
  refine (V.out _ (Table.holds_below HT.out (by repeat (first | (with_reducible exact BB.out) | (with_reducible apply Vc.below_drewN) | (with_reducible apply Below.drew) | (refine Below.setCell ?_ (by simp; try omega) _))) h0)).mono ?_
  rintro e w3 ⟨rfl, hb⟩
  replace BK5 := Aside0.mk (blk_below (g := w.heap.size) (o := .cells #[(.int .i64 i), (.float .f64 f), (.float .f64 g)] 27 (0, 0)) (by repeat (first | (with_reducible exact BK5.out) | (with_reducible refine blk_drewN ?_ _) | (with_reducible refine blk_drew ?_))) hb)
  replace BK6 := Aside0.mk (blk_below (g := w.heap.size + 1) (o := .cells #[(.int .i64 0), (.float .f64 0), (.float .f64 0)] 27 (0, 0)) (by repeat (first | (with_reducible exact BK6.out) | (with_reducible refine blk_drewN ?_ _) | (with_reducible refine blk_drew ?_))) hb)
  replace BB := Aside0.mk (bb_step hb (by repeat (first | (with_reducible exact BB.out) | (with_reducible apply Vc.below_drewN) | (with_reducible apply Below.drew) | (refine Below.setCell ?_ (by simp; try omega) _))))
  clear hb
  have c50 : w3.cell? ⟨w.heap.size, 0, none⟩ = some (.int .i64 i) := (blk_cell BK5.out 0).trans rfl
  have c51 : w3.cell? ⟨w.heap.size, 1, none⟩ = some (.float .f64 f) := (blk_cell BK5.out 1).trans rfl
  have c52 : w3.cell? ⟨w.heap.size, 2, none⟩ = some (.float .f64 g) := (blk_cell BK5.out 2).trans rfl
  have c60 : w3.cell? ⟨w.heap.size + 1, 0, none⟩ = some (.int .i64 0) := (blk_cell BK6.out 0).trans rfl
  have d60 : w3.frozen? ⟨w.heap.size + 1, 0, none⟩ = false := blk_frozen BK6.out 0
  have c61 : w3.cell? ⟨w.heap.size + 1, 1, none⟩ = some (.float .f64 0) := (blk_cell BK6.out 1).trans rfl
  have d61 : w3.frozen? ⟨w.heap.size + 1, 1, none⟩ = false := blk_frozen BK6.out 1
  have c62 : w3.cell? ⟨w.heap.size + 1, 2, none⟩ = some (.float .f64 0) := (blk_cell BK6.out 2).trans rfl
  have d62 : w3.frozen? ⟨w.heap.size + 1, 2, none⟩ = false := blk_frozen BK6.out 2
  have r0 : w3.cell? ⟨0, (n + 1) * 5, none⟩ = some (.int .i64 ka) := (row_of (Table.holds_below HT.out BB.out h0) n hn).1.trans (by rw [KA.out])
  have s0 : w3.cell? ⟨0, (m + 1) * 5, none⟩ = some (.int .i64 kb) := (row_of (Table.holds_below HT.out BB.out h0) m hm).1.trans (by rw [KB.out])
  go_wp2_with fail
  go_quiet (fail)
  go_wp2_with (first | (go_at_call 91; refine (impl_cut _ _ _).mono ?_; rintro e w' ⟨rfl, rfl⟩) | (go_at_call 90; refine (int_cell _ _).mono ?_; rintro e w4 ⟨rfl, hb⟩; replace BK5 := Aside0.mk (blk_below (g := w.heap.size) (o := .cells #[(.int .i64 i), (.float .f64 f), (.float .f64 g)] 27 (0, 0)) (by repeat (first | (with_reducible exact BK5.out) | (with_reducible refine blk_drewN ?_ _) | (with_reducible refine blk_drew ?_))) hb); replace BK6 := Aside0.mk (blk_below (g := w.heap.size + 1) (o := .cells #[(.int .i64 0), (.float .f64 0), (.float .f64 0)] 27 (0, 0)) (by repeat (first | (with_reducible exact BK6.out) | (with_reducible refine blk_drewN ?_ _) | (with_reducible refine blk_drew ?_))) hb); replace BB := Aside0.mk (bb_step hb (by repeat (first | (with_reducible exact BB.out) | (with_reducible apply Vc.below_drewN) | (with_reducible apply Below.drew) | (refine Below.setCell ?_ (by simp; try omega) _)))); clear hb; have c50 : w4.cell? ⟨w.heap.size, 0, none⟩ = some (.int .i64 i) := (blk_cell BK5.out 0).trans rfl; have c51 : w4.cell? ⟨w.heap.size, 1, none⟩ = some (.float .f64 f) := (blk_cell BK5.out 1).trans rfl; have c52 : w4.cell? ⟨w.heap.size, 2, none⟩ = some (.float .f64 g) := (blk_cell BK5.out 2).trans rfl; have c60 : w4.cell? ⟨w.heap.size + 1, 0, none⟩ = some (.int .i64 0) := (blk_cell BK6.out 0).trans rfl; have d60 : w4.frozen? ⟨w.heap.size + 1, 0, none⟩ = false := blk_frozen BK6.out 0; have c61 : w4.cell? ⟨w.heap.size + 1, 1, none⟩ = some (.float .f64 0) := (blk_cell BK6.out 1).trans rfl; have d61 : w4.frozen? ⟨w.heap.size + 1, 1, none⟩ = false := blk_frozen BK6.out 1; have c62 : w4.cell? ⟨w.heap.size + 1, 2, none⟩ = some (.float .f64 0) := (blk_cell BK6.out 2).trans rfl; have d62 : w4.frozen? ⟨w.heap.size + 1, 2, none⟩ = false := blk_frozen BK6.out 2) | (go_at_call 92; refine (TI.out _ (Table.holds_below HT.out (by repeat (first | (with_reducible exact BB.out) | (with_reducible apply Vc.below_drewN) | (with_reducible apply Below.drew) | (refine Below.setCell ?_ (by simp; try omega) _))) h0)).mono ?_; rintro e w4 ⟨j, rfl, hj, hb⟩; have HJ := Aside0.mk hj; clear hj; replace BK5 := Aside0.mk (blk_below (g := w.heap.size) (o := .cells #[(.int .i64 i), (.float .f64 f), (.float .f64 g)] 27 (0, 0)) (by repeat (first | (with_reducible exact BK5.out) | (with_reducible refine blk_drewN ?_ _) | (with_reducible refine blk_drew ?_))) hb); replace BK6 := Aside0.mk (blk_below (g := w.heap.size + 1) (o := .cells #[(.int .i64 0), (.float .f64 0), (.float .f64 0)] 27 (0, 0)) (by repeat (first | (with_reducible exact BK6.out) | (with_reducible refine blk_drewN ?_ _) | (with_reducible refine blk_drew ?_))) hb); replace BB := Aside0.mk (bb_step hb (by repeat (first | (with_reducible exact BB.out) | (with_reducible apply Vc.below_drewN) | (with_reducible apply Below.drew) | (refine Below.setCell ?_ (by simp; try omega) _)))); clear hb; have c50 : w4.cell? ⟨w.heap.size, 0, none⟩ = some (.int .i64 i) := (blk_cell BK5.out 0).trans rfl; have c51 : w4.cell? ⟨w.heap.size, 1, none⟩ = some (.float .f64 f) := (blk_cell BK5.out 1).trans rfl; have c52 : w4.cell? ⟨w.heap.size, 2, none⟩ = some (.float .f64 g) := (blk_cell BK5.out 2).trans rfl; have c60 : w4.cell? ⟨w.heap.size + 1, 0, none⟩ = some (.int .i64 0) := (blk_cell BK6.out 0).trans rfl; have d60 : w4.frozen? ⟨w.heap.size + 1, 0, none⟩ = false := blk_frozen BK6.out 0; have c61 : w4.cell? ⟨w.heap.size + 1, 1, none⟩ = some (.float .f64 0) := (blk_cell BK6.out 1).trans rfl; have d61 : w4.frozen? ⟨w.heap.size + 1, 1, none⟩ = false := blk_frozen BK6.out 1; have c62 : w4.cell? ⟨w.heap.size + 1, 2, none⟩ = some (.float .f64 0) := (blk_cell BK6.out 2).trans rfl; have d62 : w4.frozen? ⟨w.heap.size + 1, 2, none⟩ = false := blk_frozen BK6.out 2) | (go_at_call 93; refine (single_run _ HF.out _).mono ?_; rintro e w' ⟨x, q, rfl, hx, rfl⟩; have HX := Aside0.mk hx; clear hx))
  all_goals refine bodyPost_ret (results_cell_row rfl _ _ (w.heap.size + 1) 27 #[_, _, _] (0, 0) _ rfl (cell3 (by repeat (first | (with_reducible exact BK6.out) | (with_reducible refine blk_drewN ?_ _) | (with_reducible refine blk_drew ?_))) _ _ _) Tryd.underlying27 rfl (by kernel_rfl)) rfl ?_
  all_goals refine ⟨_, _, _, ?_, rfl, (by repeat (first | (with_reducible exact BB.out) | (with_reducible apply Vc.below_drewN) | (with_reducible apply Below.drew) | (refine Below.setCell ?_ (by simp; try omega) _)))⟩
  all_goals exact ⟨cv3 HN.out H1.out HK.out HB.out, by decide, by decide⟩
set_option maxHeartbeats 8000000 in
theorem convert_4 (n m : Nat) (hn : n < 9) (hm : m < 9) (hab : ¬ n = m) (hk : kindI ((n : Int) + 1) ≤ 1) (hb0 : ¬ m = 0) (hb1 : ¬ kindI ((m : Int) + 1) = 1) (h7 : (m : Int) + 1 = 7)  (i : Int) (f g : Nat) (hf : f < 18446744073709551616) (hg : g < 18446744073709551616) (w : World) (hT : Table.Holds w) (hv : vcell ((n : Int) + 1) i f g = true) :
    Calls Tryd.prog 31 #[.int .i64 ((n : Int) + 1), .int .i64 ((m : Int) + 1), .agg #[.int .i64 i, .float .f64 f, .float .f64 g]] w fun e w' => ∃ j x y, (Cv ((n : Int) + 1) ((m : Int) + 1) i f g j x y ∧ x < 18446744073709551616 ∧ y < 18446744073709551616) ∧ CellR j x y w e w' := by
  have h0 : 0 < w.heap.size := World.block_lt_of_cell? w _ (hT 0 0 (by omega) (by omega))
  have HT := Lib.hid hT
  have I1 := Lib.hid (show ∀ w, Calls Tryd.prog 68 #[.int .i64 ((n : Int) + 1)] w fun e w' => e = .returned (.bool true) ∧ w = w' from fun w => by have := impl_isd ((n : Int) + 1) w; rw [isd_of n hn] at this; exact this)
  have I2 := Lib.hid (show ∀ w, Calls Tryd.prog 68 #[.int .i64 ((m : Int) + 1)] w fun e w' => e = .returned (.bool true) ∧ w = w' from fun w => by have := impl_isd ((m : Int) + 1) w; rw [isd_of m hm] at this; exact this)
  have V := Lib.hid (show ∀ w, Table.Holds w → Calls Tryd.prog 19 #[.int .i64 ((n : Int) + 1), .agg #[.int .i64 i, .float .f64 f, .float .f64 g]] w fun e w' => e = .returned (.bool true) ∧ Below w.heap.size w w' from fun w h => by have := impl_vcell ((n : Int) + 1) i f g hf hg w h; rw [hv] at this; exact this)
  have HF := Lib.hid hf
  have HG := Lib.hid hg
  obtain ⟨ka, hka⟩ : ∃ ka, kindI ((n : Int) + 1) = ka := ⟨_, rfl⟩
  obtain ⟨kb, hkb⟩ : ∃ kb, kindI ((m : Int) + 1) = kb := ⟨_, rfl⟩
  have KA := Lib.hid hka
  have KB := Lib.hid hkb
  have e1 : ((n : Int) + 1 == (m : Int) + 1) = false := by simp; omega
  have HN := Lib.hid (show ¬ (n : Int) + 1 = (m : Int) + 1 by omega)
  have e2 : ((m : Int) + 1 == 1) = false := by simp; omega
  have H1 := Lib.hid (show ¬ (m : Int) + 1 = 1 by omega)
  have h1 : ka ≤ 1 := by rw [← hka]; exact hk
  have HK := Lib.hid hk
  have e3 : (kb == 1) = false := by rw [← hkb]; simpa using hb1
  have HB := Lib.hid hb1
  have e4 : ((m : Int) + 1 == 7) = true := by rw [h7]; rfl
  have H7 := Lib.hid h7
  obtain ⟨y, hy, hyp⟩ := int_wide i
  have HY := Lib.hid hyp
  have hwid : ∀ w, (convert 105 23 (.float .f32 (FloatKind.f32.nearest i))).run Tryd.prog w = .ok (.float .f64 y) w := fun w => run_convert_float_float w 105 23 .f32 .f64 _ y (by rw [Tryd.underlying105]; rfl) Tryd.underlying23 hy
  have hcif := conv_if i
  clear hy hyp
  clear hka hkb hT hf hg hv hab hk hb0 hb1 h7
  have hns : ((n : Int) + 1).toNat = n + 1 := by omega
  have hms : ((m : Int) + 1).toNat = m + 1 := by omega
  have hlt : (n : Int) + 1 < 10 := by omega
  have hmt : (m : Int) + 1 < 10 := by omega
  go_enter Tryd.func31, Tryd.ntmps31
  go_wp2_with fail
  refine (I1.out _).mono ?_
  rintro e w1 ⟨rfl, hw⟩
  have BK5 : Aside0 (w1.heap[w.heap.size]? = some (.cells #[(.int .i64 i), (.float .f64 f), (.float .f64 g)] 27 (0, 0))) := ⟨by rw [← hw, heap_alloc_get, heap_alloc_get]; simp; try omega⟩
  have BK6 : Aside0 (w1.heap[w.heap.size + 1]? = some (.cells #[(.int .i64 0), (.float .f64 0), (.float .f64 0)] 27 (0, 0))) := ⟨by rw [← hw, heap_alloc_get, heap_alloc_get]; simp; try omega⟩
  have BB : Aside0 (Below w.heap.size w w1) := ⟨by rw [← hw]; repeat (first | exact Below.refl _ _ | (refine Below.alloc ?_ (by simp; try omega) _))⟩
  clear hw
  have c50 : w1.cell? ⟨w.heap.size, 0, none⟩ = some (.int .i64 i) := (blk_cell BK5.out 0).trans rfl
  have c51 : w1.cell? ⟨w.heap.size, 1, none⟩ = some (.float .f64 f) := (blk_cell BK5.out 1).trans rfl
  have c52 : w1.cell? ⟨w.heap.size, 2, none⟩ = some (.float .f64 g) := (blk_cell BK5.out 2).trans rfl
  have c60 : w1.cell? ⟨w.heap.size + 1, 0, none⟩ = some (.int .i64 0) := (blk_cell BK6.out 0).trans rfl
  have d60 : w1.frozen? ⟨w.heap.size + 1, 0, none⟩ = false := blk_frozen BK6.out 0
  have c61 : w1.cell? ⟨w.heap.size + 1, 1, none⟩ = some (.float .f64 0) := (blk_cell BK6.out 1).trans rfl
  have d61 : w1.frozen? ⟨w.heap.size + 1, 1, none⟩ = false := blk_frozen BK6.out 1
  have c62 : w1.cell? ⟨w.heap.size + 1, 2, none⟩ = some (.float .f64 0) := (blk_cell BK6.out 2).trans rfl
  have d62 : w1.frozen? ⟨w.heap.size + 1, 2, none⟩ = false := blk_frozen BK6.out 2
  have r0 : w1.cell? ⟨0, (n + 1) * 5, none⟩ = some (.int .i64 ka) := (row_of (Table.holds_below HT.out BB.out h0) n hn).1.trans (by rw [KA.out])
  have s0 : w1.cell? ⟨0, (m + 1) * 5, none⟩ = some (.int .i64 kb) := (row_of (Table.holds_below HT.out BB.out h0) m hm).1.trans (by rw [KB.out])
  go_wp2_with fail
  refine (I2.out _).mono ?_
  rintro e w2 ⟨rfl, rfl⟩
  go_wp2_with fail
  refine (V.out _ (Table.holds_below HT.out (by repeat (first | (with_reducible exact BB.out) | (with_reducible apply Vc.below_drewN) | (with_reducible apply Below.drew) | (refine Below.setCell ?_ (by simp; try omega) _))) h0)).mono ?_
  rintro e w3 ⟨rfl, hb⟩
  replace BK5 := Aside0.mk (blk_below (g := w.heap.size) (o := .cells #[(.int .i64 i), (.float .f64 f), (.float .f64 g)] 27 (0, 0)) (by repeat (first | (with_reducible exact BK5.out) | (with_reducible refine blk_drewN ?_ _) | (with_reducible refine blk_drew ?_))) hb)
  replace BK6 := Aside0.mk (blk_below (g := w.heap.size + 1) (o := .cells #[(.int .i64 0), (.float .f64 0), (.float .f64 0)] 27 (0, 0)) (by repeat (first | (with_reducible exact BK6.out) | (with_reducible refine blk_drewN ?_ _) | (with_reducible refine blk_drew ?_))) hb)
  replace BB := Aside0.mk (bb_step hb (by repeat (first | (with_reducible exact BB.out) | (with_reducible apply Vc.below_drewN) | (with_reducible apply Below.drew) | (refine Below.setCell ?_ (by simp; try omega) _))))
  clear hb
  have c50 : w3.cell? ⟨w.heap.size, 0, none⟩ = some (.int .i64 i) := (blk_cell BK5.out 0).trans rfl
  have c51 : w3.cell? ⟨w.heap.size, 1, none⟩ = some (.float .f64 f) := (blk_cell BK5.out 1).trans rfl
  have c52 : w3.cell? ⟨w.heap.size, 2, none⟩ = some (.float .f64 g) := (blk_cell BK5.out 2).trans rfl
  have c60 : w3.cell? ⟨w.heap.size + 1, 0, none⟩ = some (.int .i64 0) := (blk_cell BK6.out 0).trans rfl
  have d60 : w3.frozen? ⟨w.heap.size + 1, 0, none⟩ = false := blk_frozen BK6.out 0
  have c61 : w3.cell? ⟨w.heap.size + 1, 1, none⟩ = some (.float .f64 0) := (blk_cell BK6.out 1).trans rfl
  have d61 : w3.frozen? ⟨w.heap.size + 1, 1, none⟩ = false := blk_frozen BK6.out 1
  have c62 : w3.cell? ⟨w.heap.size + 1, 2, none⟩ = some (.float .f64 0) := (blk_cell BK6.out 2).trans rfl
  have d62 : w3.frozen? ⟨w.heap.size + 1, 2, none⟩ = false := blk_frozen BK6.out 2
  have r0 : w3.cell? ⟨0, (n + 1) * 5, none⟩ = some (.int .i64 ka) := (row_of (Table.holds_below HT.out BB.out h0) n hn).1.trans (by rw [KA.out])
  have s0 : w3.cell? ⟨0, (m + 1) * 5, none⟩ = some (.int .i64 kb) := (row_of (Table.holds_below HT.out BB.out h0) m hm).1.trans (by rw [KB.out])
  go_wp2_with fail
  go_quiet (fail)
  go_wp2_with (first | (go_at_call 91; refine (impl_cut _ _ _).mono ?_; rintro e w' ⟨rfl, rfl⟩) | (go_at_call 90; refine (int_cell _ _).mono ?_; rintro e w4 ⟨rfl, hb⟩; replace BK5 := Aside0.mk (blk_below (g := w.heap.size) (o := .cells #[(.int .i64 i), (.float .f64 f), (.float .f64 g)] 27 (0, 0)) (by repeat (first | (with_reducible exact BK5.out) | (with_reducible refine blk_drewN ?_ _) | (with_reducible refine blk_drew ?_))) hb); replace BK6 := Aside0.mk (blk_below (g := w.heap.size + 1) (o := .cells #[(.int .i64 0), (.float .f64 0), (.float .f64 0)] 27 (0, 0)) (by repeat (first | (with_reducible exact BK6.out) | (with_reducible refine blk_drewN ?_ _) | (with_reducible refine blk_drew ?_))) hb); replace BB := Aside0.mk (bb_step hb (by repeat (first | (with_reducible exact BB.out) | (with_reducible apply Vc.below_drewN) | (with_reducible apply Below.drew) | (refine Below.setCell ?_ (by simp; try omega) _)))); clear hb; have c50 : w4.cell? ⟨w.heap.size, 0, none⟩ = some (.int .i64 i) := (blk_cell BK5.out 0).trans rfl; have c51 : w4.cell? ⟨w.heap.size, 1, none⟩ = some (.float .f64 f) := (blk_cell BK5.out 1).trans rfl; have c52 : w4.cell? ⟨w.heap.size, 2, none⟩ = some (.float .f64 g) := (blk_cell BK5.out 2).trans rfl; have c60 : w4.cell? ⟨w.heap.size + 1, 0, none⟩ = some (.int .i64 0) := (blk_cell BK6.out 0).trans rfl; have d60 : w4.frozen? ⟨w.heap.size + 1, 0, none⟩ = false := blk_frozen BK6.out 0; have c61 : w4.cell? ⟨w.heap.size + 1, 1, none⟩ = some (.float .f64 0) := (blk_cell BK6.out 1).trans rfl; have d61 : w4.frozen? ⟨w.heap.size + 1, 1, none⟩ = false := blk_frozen BK6.out 1; have c62 : w4.cell? ⟨w.heap.size + 1, 2, none⟩ = some (.float .f64 0) := (blk_cell BK6.out 2).trans rfl; have d62 : w4.frozen? ⟨w.heap.size + 1, 2, none⟩ = false := blk_frozen BK6.out 2) | (go_at_call 92; refine (TI.out _ (Table.holds_below HT.out (by repeat (first | (with_reducible exact BB.out) | (with_reducible apply Vc.below_drewN) | (with_reducible apply Below.drew) | (refine Below.setCell ?_ (by simp; try omega) _))) h0)).mono ?_; rintro e w4 ⟨j, rfl, hj, hb⟩; have HJ := Aside0.mk hj; clear hj; replace BK5 := Aside0.mk (blk_below (g := w.heap.size) (o := .cells #[(.int .i64 i), (.float .f64 f), (.float .f64 g)] 27 (0, 0)) (by repeat (first | (with_reducible exact BK5.out) | (with_reducible refine blk_drewN ?_ _) | (with_reducible refine blk_drew ?_))) hb); replace BK6 := Aside0.mk (blk_below (g := w.heap.size + 1) (o := .cells #[(.int .i64 0), (.float .f64 0), (.float .f64 0)] 27 (0, 0)) (by repeat (first | (with_reducible exact BK6.out) | (with_reducible refine blk_drewN ?_ _) | (with_reducible refine blk_drew ?_))) hb); replace BB := Aside0.mk (bb_step hb (by repeat (first | (with_reducible exact BB.out) | (with_reducible apply Vc.below_drewN) | (with_reducible apply Below.drew) | (refine Below.setCell ?_ (by simp; try omega) _)))); clear hb; have c50 : w4.cell? ⟨w.heap.size, 0, none⟩ = some (.int .i64 i) := (blk_cell BK5.out 0).trans rfl; have c51 : w4.cell? ⟨w.heap.size, 1, none⟩ = some (.float .f64 f) := (blk_cell BK5.out 1).trans rfl; have c52 : w4.cell? ⟨w.heap.size, 2, none⟩ = some (.float .f64 g) := (blk_cell BK5.out 2).trans rfl; have c60 : w4.cell? ⟨w.heap.size + 1, 0, none⟩ = some (.int .i64 0) := (blk_cell BK6.out 0).trans rfl; have d60 : w4.frozen? ⟨w.heap.size + 1, 0, none⟩ = false := blk_frozen BK6.out 0; have c61 : w4.cell? ⟨w.heap.size + 1, 1, none⟩ = some (.float .f64 0) := (blk_cell BK6.out 1).trans rfl; have d61 : w4.frozen? ⟨w.heap.size + 1, 1, none⟩ = false := blk_frozen BK6.out 1; have c62 : w4.cell? ⟨w.heap.size + 1, 2, none⟩ = some (.float .f64 0) := (blk_cell BK6.out 2).trans rfl; have d62 : w4.frozen? ⟨w.heap.size + 1, 2, none⟩ = false := blk_frozen BK6.out 2) | (go_at_call 93; refine (single_run _ HF.out _).mono ?_; rintro e w' ⟨x, q, rfl, hx, rfl⟩; have HX := Aside0.mk hx; clear hx))
  all_goals refine bodyPost_ret (results_cell_row rfl _ _ (w.heap.size + 1) 27 #[_, _, _] (0, 0) _ rfl (cell3 (by repeat (first | (with_reducible exact BK6.out) | (with_reducible refine blk_drewN ?_ _) | (with_reducible refine blk_drew ?_))) _ _ _) Tryd.underlying27 rfl (by kernel_rfl)) rfl ?_
  all_goals refine ⟨_, _, _, ?_, rfl, (by repeat (first | (with_reducible exact BB.out) | (with_reducible apply Vc.below_drewN) | (with_reducible apply Below.drew) | (refine Below.setCell ?_ (by simp; try omega) _)))⟩
  all_goals refine ⟨?_, HY.out.1, by decide⟩
  all_goals have h7 := H7.out
  all_goals rw [h7]
  all_goals exact cv4 (by have := HN.out; omega) HK.out HY.out
set_option maxHeartbeats 8000000 in
theorem convert_5 (n m : Nat) (hn : n < 9) (hm : m < 9) (hab : ¬ n = m) (hk : kindI ((n : Int) + 1) ≤ 1) (hb0 : ¬ m = 0) (hb1 : ¬ kindI ((m : Int) + 1) = 1) (h7 : ¬ (m : Int) + 1 = 7)  (i : Int) (f g : Nat) (hf : f < 18446744073709551616) (hg : g < 18446744073709551616) (w : World) (hT : Table.Holds w) (hv : vcell ((n : Int) + 1) i f g = true) :
    Calls Tryd.prog 31 #[.int .i64 ((n : Int) + 1), .int .i64 ((m : Int) + 1), .agg #[.int .i64 i, .float .f64 f, .float .f64 g]] w fun e w' => ∃ j x y, (Cv ((n : Int) + 1) ((m : Int) + 1) i f g j x y ∧ x < 18446744073709551616 ∧ y < 18446744073709551616) ∧ CellR j x y w e w' := by
  have h0 : 0 < w.heap.size := World.block_lt_of_cell? w _ (hT 0 0 (by omega) (by omega))
  have HT := Lib.hid hT
  have I1 := Lib.hid (show ∀ w, Calls Tryd.prog 68 #[.int .i64 ((n : Int) + 1)] w fun e w' => e = .returned (.bool true) ∧ w = w' from fun w => by have := impl_isd ((n : Int) + 1) w; rw [isd_of n hn] at this; exact this)
  have I2 := Lib.hid (show ∀ w, Calls Tryd.prog 68 #[.int .i64 ((m : Int) + 1)] w fun e w' => e = .returned (.bool true) ∧ w = w' from fun w => by have := impl_isd ((m : Int) + 1) w; rw [isd_of m hm] at this; exact this)
  have V := Lib.hid (show ∀ w, Table.Holds w → Calls Tryd.prog 19 #[.int .i64 ((n : Int) + 1), .agg #[.int .i64 i, .float .f64 f, .float .f64 g]] w fun e w' => e = .returned (.bool true) ∧ Below w.heap.size w w' from fun w h => by have := impl_vcell ((n : Int) + 1) i f g hf hg w h; rw [hv] at this; exact this)
  have HF := Lib.hid hf
  have HG := Lib.hid hg
  obtain ⟨ka, hka⟩ : ∃ ka, kindI ((n : Int) + 1) = ka := ⟨_, rfl⟩
  obtain ⟨kb, hkb⟩ : ∃ kb, kindI ((m : Int) + 1) = kb := ⟨_, rfl⟩
  have KA := Lib.hid hka
  have KB := Lib.hid hkb
  have e1 : ((n : Int) + 1 == (m : Int) + 1) = false := by simp; omega
  have HN := Lib.hid (show ¬ (n : Int) + 1 = (m : Int) + 1 by omega)
  have e2 : ((m : Int) + 1 == 1) = false := by simp; omega
  have H1 := Lib.hid (show ¬ (m : Int) + 1 = 1 by omega)
  have h1 : ka ≤ 1 := by rw [← hka]; exact hk
  have HK := Lib.hid hk
  have e3 : (kb == 1) = false := by rw [← hkb]; simpa using hb1
  have HB := Lib.hid hb1
  have e4 : ((m : Int) + 1 == 7) = false := by simp; omega
  have H7 := Lib.hid (show ¬ (m : Int) + 1 = 7 by omega)
  have hcid := conv_id i
  clear hka hkb hT hf hg hv hab hk hb0 hb1 h7
  have hns : ((n : Int) + 1).toNat = n + 1 := by omega
  have hms : ((m : Int) + 1).toNat = m + 1 := by omega
  have hlt : (n : Int) + 1 < 10 := by omega
  have hmt : (m : Int) + 1 < 10 := by omega
  go_enter Tryd.func31, Tryd.ntmps31
  go_wp2_with fail
  refine (I1.out _).mono ?_
  rintro e w1 ⟨rfl, hw⟩
  have BK5 : Aside0 (w1.heap[w.heap.size]? = some (.cells #[(.int .i64 i), (.float .f64 f), (.float .f64 g)] 27 (0, 0))) := ⟨by rw [← hw, heap_alloc_get, heap_alloc_get]; simp; try omega⟩
  have BK6 : Aside0 (w1.heap[w.heap.size + 1]? = some (.cells #[(.int .i64 0), (.float .f64 0), (.float .f64 0)] 27 (0, 0))) := ⟨by rw [← hw, heap_alloc_get, heap_alloc_get]; simp; try omega⟩
  have BB : Aside0 (Below w.heap.size w w1) := ⟨by rw [← hw]; repeat (first | exact Below.refl _ _ | (refine Below.alloc ?_ (by simp; try omega) _))⟩
  clear hw
  have c50 : w1.cell? ⟨w.heap.size, 0, none⟩ = some (.int .i64 i) := (blk_cell BK5.out 0).trans rfl
  have c51 : w1.cell? ⟨w.heap.size, 1, none⟩ = some (.float .f64 f) := (blk_cell BK5.out 1).trans rfl
  have c52 : w1.cell? ⟨w.heap.size, 2, none⟩ = some (.float .f64 g) := (blk_cell BK5.out 2).trans rfl
  have c60 : w1.cell? ⟨w.heap.size + 1, 0, none⟩ = some (.int .i64 0) := (blk_cell BK6.out 0).trans rfl
  have d60 : w1.frozen? ⟨w.heap.size + 1, 0, none⟩ = false := blk_frozen BK6.out 0
  have c61 : w1.cell? ⟨w.heap.size + 1, 1, none⟩ = some (.float .f64 0) := (blk_cell BK6.out 1).trans rfl
  have d61 : w1.frozen? ⟨w.heap.size + 1, 1, none⟩ = false := blk_frozen BK6.out 1
  have c62 : w1.cell? ⟨w.heap.size + 1, 2, none⟩ = some (.float .f64 0) := (blk_cell BK6.out 2).trans rfl
  have d62 : w1.frozen? ⟨w.heap.size + 1, 2, none⟩ = false := blk_frozen BK6.out 2
  have r0 : w1.cell? ⟨0, (n + 1) * 5, none⟩ = some (.int .i64 ka) := (row_of (Table.holds_below HT.out BB.out h0) n hn).1.trans (by rw [KA.out])
  have s0 : w1.cell? ⟨0, (m + 1) * 5, none⟩ = some (.int .i64 kb) := (row_of (Table.holds_below HT.out BB.out h0) m hm).1.trans (by rw [KB.out])
  go_wp2_with fail
  refine (I2.out _).mono ?_
  rintro e w2 ⟨rfl, rfl⟩
  go_wp2_with fail
  refine (V.out _ (Table.holds_below HT.out (by repeat (first | (with_reducible exact BB.out) | (with_reducible apply Vc.below_drewN) | (with_reducible apply Below.drew) | (refine Below.setCell ?_ (by simp; try omega) _))) h0)).mono ?_
  rintro e w3 ⟨rfl, hb⟩
  replace BK5 := Aside0.mk (blk_below (g := w.heap.size) (o := .cells #[(.int .i64 i), (.float .f64 f), (.float .f64 g)] 27 (0, 0)) (by repeat (first | (with_reducible exact BK5.out) | (with_reducible refine blk_drewN ?_ _) | (with_reducible refine blk_drew ?_))) hb)
  replace BK6 := Aside0.mk (blk_below (g := w.heap.size + 1) (o := .cells #[(.int .i64 0), (.float .f64 0), (.float .f64 0)] 27 (0, 0)) (by repeat (first | (with_reducible exact BK6.out) | (with_reducible refine blk_drewN ?_ _) | (with_reducible refine blk_drew ?_))) hb)
  replace BB := Aside0.mk (bb_step hb (by repeat (first | (with_reducible exact BB.out) | (with_reducible apply Vc.below_drewN) | (with_reducible apply Below.drew) | (refine Below.setCell ?_ (by simp; try omega) _))))
  clear hb
  have c50 : w3.cell? ⟨w.heap.size, 0, none⟩ = some (.int .i64 i) := (blk_cell BK5.out 0).trans rfl
  have c51 : w3.cell? ⟨w.heap.size, 1, none⟩ = some (.float .f64 f) := (blk_cell BK5.out 1).trans rfl
  have c52 : w3.cell? ⟨w.heap.size, 2, none⟩ = some (.float .f64 g) := (blk_cell BK5.out 2).trans rfl
  have c60 : w3.cell? ⟨w.heap.size + 1, 0, none⟩ = some (.int .i64 0) := (blk_cell BK6.out 0).trans rfl
  have d60 : w3.frozen? ⟨w.heap.size + 1, 0, none⟩ = false := blk_frozen BK6.out 0
  have c61 : w3.cell? ⟨w.heap.size + 1, 1, none⟩ = some (.float .f64 0) := (blk_cell BK6.out 1).trans rfl
  have d61 : w3.frozen? ⟨w.heap.size + 1, 1, none⟩ = false := blk_frozen BK6.out 1
  have c62 : w3.cell? ⟨w.heap.size + 1, 2, none⟩ = some (.float .f64 0) := (blk_cell BK6.out 2).trans rfl
  have d62 : w3.frozen? ⟨w.heap.size + 1, 2, none⟩ = false := blk_frozen BK6.out 2
  have r0 : w3.cell? ⟨0, (n + 1) * 5, none⟩ = some (.int .i64 ka) := (row_of (Table.holds_below HT.out BB.out h0) n hn).1.trans (by rw [KA.out])
  have s0 : w3.cell? ⟨0, (m + 1) * 5, none⟩ = some (.int .i64 kb) := (row_of (Table.holds_below HT.out BB.out h0) m hm).1.trans (by rw [KB.out])
  go_wp2_with fail
  go_quiet (fail)
  go_wp2_with (first | (go_at_call 91; refine (impl_cut _ _ _).mono ?_; rintro e w' ⟨rfl, rfl⟩) | (go_at_call 90; refine (int_cell _ _).mono ?_; rintro e w4 ⟨rfl, hb⟩; replace BK5 := Aside0.mk (blk_below (g := w.heap.size) (o := .cells #[(.int .i64 i), (.float .f64 f), (.float .f64 g)] 27 (0, 0)) (by repeat (first | (with_reducible exact BK5.out) | (with_reducible refine blk_drewN ?_ _) | (with_reducible refine blk_drew ?_))) hb); replace BK6 := Aside0.mk (blk_below (g := w.heap.size + 1) (o := .cells #[(.int .i64 0), (.float .f64 0), (.float .f64 0)] 27 (0, 0)) (by repeat (first | (with_reducible exact BK6.out) | (with_reducible refine blk_drewN ?_ _) | (with_reducible refine blk_drew ?_))) hb); replace BB := Aside0.mk (bb_step hb (by repeat (first | (with_reducible exact BB.out) | (with_reducible apply Vc.below_drewN) | (with_reducible apply Below.drew) | (refine Below.setCell ?_ (by simp; try omega) _)))); clear hb; have c50 : w4.cell? ⟨w.heap.size, 0, none⟩ = some (.int .i64 i) := (blk_cell BK5.out 0).trans rfl; have c51 : w4.cell? ⟨w.heap.size, 1, none⟩ = some (.float .f64 f) := (blk_cell BK5.out 1).trans rfl; have c52 : w4.cell? ⟨w.heap.size, 2, none⟩ = some (.float .f64 g) := (blk_cell BK5.out 2).trans rfl; have c60 : w4.cell? ⟨w.heap.size + 1, 0, none⟩ = some (.int .i64 0) := (blk_cell BK6.out 0).trans rfl; have d60 : w4.frozen? ⟨w.heap.size + 1, 0, none⟩ = false := blk_frozen BK6.out 0; have c61 : w4.cell? ⟨w.heap.size + 1, 1, none⟩ = some (.float .f64 0) := (blk_cell BK6.out 1).trans rfl; have d61 : w4.frozen? ⟨w.heap.size + 1, 1, none⟩ = false := blk_frozen BK6.out 1; have c62 : w4.cell? ⟨w.heap.size + 1, 2, none⟩ = some (.float .f64 0) := (blk_cell BK6.out 2).trans rfl; have d62 : w4.frozen? ⟨w.heap.size + 1, 2, none⟩ = false := blk_frozen BK6.out 2) | (go_at_call 92; refine (TI.out _ (Table.holds_below HT.out (by repeat (first | (with_reducible exact BB.out) | (with_reducible apply Vc.below_drewN) | (with_reducible apply Below.drew) | (refine Below.setCell ?_ (by simp; try omega) _))) h0)).mono ?_; rintro e w4 ⟨j, rfl, hj, hb⟩; have HJ := Aside0.mk hj; clear hj; replace BK5 := Aside0.mk (blk_below (g := w.heap.size) (o := .cells #[(.int .i64 i), (.float .f64 f), (.float .f64 g)] 27 (0, 0)) (by repeat (first | (with_reducible exact BK5.out) | (with_reducible refine blk_drewN ?_ _) | (with_reducible refine blk_drew ?_))) hb); replace BK6 := Aside0.mk (blk_below (g := w.heap.size + 1) (o := .cells #[(.int .i64 0), (.float .f64 0), (.float .f64 0)] 27 (0, 0)) (by repeat (first | (with_reducible exact BK6.out) | (with_reducible refine blk_drewN ?_ _) | (with_reducible refine blk_drew ?_))) hb); replace BB := Aside0.mk (bb_step hb (by repeat (first | (with_reducible exact BB.out) | (with_reducible apply Vc.below_drewN) | (with_reducible apply Below.drew) | (refine Below.setCell ?_ (by simp; try omega) _)))); clear hb; have c50 : w4.cell? ⟨w.heap.size, 0, none⟩ = some (.int .i64 i) := (blk_cell BK5.out 0).trans rfl; have c51 : w4.cell? ⟨w.heap.size, 1, none⟩ = some (.float .f64 f) := (blk_cell BK5.out 1).trans rfl; have c52 : w4.cell? ⟨w.heap.size, 2, none⟩ = some (.float .f64 g) := (blk_cell BK5.out 2).trans rfl; have c60 : w4.cell? ⟨w.heap.size + 1, 0, none⟩ = some (.int .i64 0) := (blk_cell BK6.out 0).trans rfl; have d60 : w4.frozen? ⟨w.heap.size + 1, 0, none⟩ = false := blk_frozen BK6.out 0; have c61 : w4.cell? ⟨w.heap.size + 1, 1, none⟩ = some (.float .f64 0) := (blk_cell BK6.out 1).trans rfl; have d61 : w4.frozen? ⟨w.heap.size + 1, 1, none⟩ = false := blk_frozen BK6.out 1; have c62 : w4.cell? ⟨w.heap.size + 1, 2, none⟩ = some (.float .f64 0) := (blk_cell BK6.out 2).trans rfl; have d62 : w4.frozen? ⟨w.heap.size + 1, 2, none⟩ = false := blk_frozen BK6.out 2) | (go_at_call 93; refine (single_run _ HF.out _).mono ?_; rintro e w' ⟨x, q, rfl, hx, rfl⟩; have HX := Aside0.mk hx; clear hx))
  all_goals refine bodyPost_ret (results_cell_row rfl _ _ (w.heap.size + 1) 27 #[_, _, _] (0, 0) _ rfl (cell3 (by repeat (first | (with_reducible exact BK6.out) | (with_reducible refine blk_drewN ?_ _) | (with_reducible refine blk_drew ?_))) _ _ _) Tryd.underlying27 rfl (by kernel_rfl)) rfl ?_
  all_goals refine ⟨_, _, _, ?_, rfl, (by repeat (first | (with_reducible exact BB.out) | (with_reducible apply Vc.below_drewN) | (with_reducible apply Below.drew) | (refine Below.setCell ?_ (by simp; try omega) _)))⟩
  all_goals exact ⟨cv5 HN.out H1.out HK.out HB.out H7.out, near_lt64 i, by decide⟩
set_option maxHeartbeats 8000000 in
theorem convert_6 (n m : Nat) (hn : n < 9) (hm : m < 9) (hab : ¬ n = m) (hk : ¬ kindI ((n : Int) + 1) ≤ 1) (hb0 : ¬ m = 0) (hb1 : kindI ((m : Int) + 1) = 1)  (i : Int) (f g : Nat) (hf : f < 18446744073709551616) (hg : g < 18446744073709551616) (w : World) (hT : Table.Holds w) (hv : vcell ((n : Int) + 1) i f g = true) :
    Calls Tryd.prog 31 #[.int .i64 ((n : Int) + 1), .int .i64 ((m : Int) + 1), .agg #[.int .i64 i, .float .f64 f, .float .f64 g]] w fun e w' => ∃ j x y, (Cv ((n : Int) + 1) ((m : Int) + 1) i f g j x y ∧ x < 18446744073709551616 ∧ y < 18446744073709551616) ∧ CellR j x y w e w' := by
  have h0 : 0 < w.heap.size := World.block_lt_of_cell? w _ (hT 0 0 (by omega) (by omega))
  have HT := Lib.hid hT
  have I1 := Lib.hid (show ∀ w, Calls Tryd.prog 68 #[.int .i64 ((n : Int) + 1)] w fun e w' => e = .returned (.bool true) ∧ w = w' from fun w => by have := impl_isd ((n : Int) + 1) w; rw [isd_of n hn] at this; exact this)
  have I2 := Lib.hid (show ∀ w, Calls Tryd.prog 68 #[.int .i64 ((m : Int) + 1)] w fun e w' => e = .returned (.bool true) ∧ w = w' from fun w => by have := impl_isd ((m : Int) + 1) w; rw [isd_of m hm] at this; exact this)
  have V := Lib.hid (show ∀ w, Table.Holds w → Calls Tryd.prog 19 #[.int .i64 ((n : Int) + 1), .agg #[.int .i64 i, .float .f64 f, .float .f64 g]] w fun e w' => e = .returned (.bool true) ∧ Below w.heap.size w w' from fun w h => by have := impl_vcell ((n : Int) + 1) i f g hf hg w h; rw [hv] at this; exact this)
  have HF := Lib.hid hf
  have HG := Lib.hid hg
  obtain ⟨ka, hka⟩ : ∃ ka, kindI ((n : Int) + 1) = ka := ⟨_, rfl⟩
  obtain ⟨kb, hkb⟩ : ∃ kb, kindI ((m : Int) + 1) = kb := ⟨_, rfl⟩
  have KA := Lib.hid hka
  have KB := Lib.hid hkb
  have e1 : ((n : Int) + 1 == (m : Int) + 1) = false := by simp; omega
  have HN := Lib.hid (show ¬ (n : Int) + 1 = (m : Int) + 1 by omega)
  have e2 : ((m : Int) + 1 == 1) = false := by simp; omega
  have H1 := Lib.hid (show ¬ (m : Int) + 1 = 1 by omega)
  have h1 : ¬ ka ≤ 1 := by rw [← hka]; exact hk
  have HK := Lib.hid hk
  have e3 : (kb == 1) = true := by rw [← hkb, hb1]; rfl
  have HB := Lib.hid hb1
  have TI := Lib.hid (fun w (h : Table.Holds w) => toint_run m hm hb1 f hf w h)
  clear hka hkb hT hf hg hv hab hk hb0 hb1
  have hns : ((n : Int) + 1).toNat = n + 1 := by omega
  have hms : ((m : Int) + 1).toNat = m + 1 := by omega
  have hlt : (n : Int) + 1 < 10 := by omega
  have hmt : (m : Int) + 1 < 10 := by omega
  go_enter Tryd.func31, Tryd.ntmps31
  go_wp2_with fail
  refine (I1.out _).mono ?_
  rintro e w1 ⟨rfl, hw⟩
  have BK5 : Aside0 (w1.heap[w.heap.size]? = some (.cells #[(.int .i64 i), (.float .f64 f), (.float .f64 g)] 27 (0, 0))) := ⟨by rw [← hw, heap_alloc_get, heap_alloc_get]; simp; try omega⟩
  have BK6 : Aside0 (w1.heap[w.heap.size + 1]? = some (.cells #[(.int .i64 0), (.float .f64 0), (.float .f64 0)] 27 (0, 0))) := ⟨by rw [← hw, heap_alloc_get, heap_alloc_get]; simp; try omega⟩
  have BB : Aside0 (Below w.heap.size w w1) := ⟨by rw [← hw]; repeat (first | exact Below.refl _ _ | (refine Below.alloc ?_ (by simp; try omega) _))⟩
  clear hw
  have c50 : w1.cell? ⟨w.heap.size, 0, none⟩ = some (.int .i64 i) := (blk_cell BK5.out 0).trans rfl
  have c51 : w1.cell? ⟨w.heap.size, 1, none⟩ = some (.float .f64 f) := (blk_cell BK5.out 1).trans rfl
  have c52 : w1.cell? ⟨w.heap.size, 2, none⟩ = some (.float .f64 g) := (blk_cell BK5.out 2).trans rfl
  have c60 : w1.cell? ⟨w.heap.size + 1, 0, none⟩ = some (.int .i64 0) := (blk_cell BK6.out 0).trans rfl
  have d60 : w1.frozen? ⟨w.heap.size + 1, 0, none⟩ = false := blk_frozen BK6.out 0
  have c61 : w1.cell? ⟨w.heap.size + 1, 1, none⟩ = some (.float .f64 0) := (blk_cell BK6.out 1).trans rfl
  have d61 : w1.frozen? ⟨w.heap.size + 1, 1, none⟩ = false := blk_frozen BK6.out 1
  have c62 : w1.cell? ⟨w.heap.size + 1, 2, none⟩ = some (.float .f64 0) := (blk_cell BK6.out 2).trans rfl
  have d62 : w1.frozen? ⟨w.heap.size + 1, 2, none⟩ = false := blk_frozen BK6.out 2
  have r0 : w1.cell? ⟨0, (n + 1) * 5, none⟩ = some (.int .i64 ka) := (row_of (Table.holds_below HT.out BB.out h0) n hn).1.trans (by rw [KA.out])
  have s0 : w1.cell? ⟨0, (m + 1) * 5, none⟩ = some (.int .i64 kb) := (row_of (Table.holds_below HT.out BB.out h0) m hm).1.trans (by rw [KB.out])
  go_wp2_with fail
  refine (I2.out _).mono ?_
  rintro e w2 ⟨rfl, rfl⟩
  go_wp2_with fail
  refine (V.out _ (Table.holds_below HT.out (by repeat (first | (with_reducible exact BB.out) | (with_reducible apply Vc.below_drewN) | (with_reducible apply Below.drew) | (refine Below.setCell ?_ (by simp; try omega) _))) h0)).mono ?_
  rintro e w3 ⟨rfl, hb⟩
  replace BK5 := Aside0.mk (blk_below (g := w.heap.size) (o := .cells #[(.int .i64 i), (.float .f64 f), (.float .f64 g)] 27 (0, 0)) (by repeat (first | (with_reducible exact BK5.out) | (with_reducible refine blk_drewN ?_ _) | (with_reducible refine blk_drew ?_))) hb)
  replace BK6 := Aside0.mk (blk_below (g := w.heap.size + 1) (o := .cells #[(.int .i64 0), (.float .f64 0), (.float .f64 0)] 27 (0, 0)) (by repeat (first | (with_reducible exact BK6.out) | (with_reducible refine blk_drewN ?_ _) | (with_reducible refine blk_drew ?_))) hb)
  replace BB := Aside0.mk (bb_step hb (by repeat (first | (with_reducible exact BB.out) | (with_reducible apply Vc.below_drewN) | (with_reducible apply Below.drew) | (refine Below.setCell ?_ (by simp; try omega) _))))
  clear hb
  have c50 : w3.cell? ⟨w.heap.size, 0, none⟩ = some (.int .i64 i) := (blk_cell BK5.out 0).trans rfl
  have c51 : w3.cell? ⟨w.heap.size, 1, none⟩ = some (.float .f64 f) := (blk_cell BK5.out 1).trans rfl
  have c52 : w3.cell? ⟨w.heap.size, 2, none⟩ = some (.float .f64 g) := (blk_cell BK5.out 2).trans rfl
  have c60 : w3.cell? ⟨w.heap.size + 1, 0, none⟩ = some (.int .i64 0) := (blk_cell BK6.out 0).trans rfl
  have d60 : w3.frozen? ⟨w.heap.size + 1, 0, none⟩ = false := blk_frozen BK6.out 0
  have c61 : w3.cell? ⟨w.heap.size + 1, 1, none⟩ = some (.float .f64 0) := (blk_cell BK6.out 1).trans rfl
  have d61 : w3.frozen? ⟨w.heap.size + 1, 1, none⟩ = false := blk_frozen BK6.out 1
  have c62 : w3.cell? ⟨w.heap.size + 1, 2, none⟩ = some (.float .f64 0) := (blk_cell BK6.out 2).trans rfl
  have d62 : w3.frozen? ⟨w.heap.size + 1, 2, none⟩ = false := blk_frozen BK6.out 2
  have r0 : w3.cell? ⟨0, (n + 1) * 5, none⟩ = some (.int .i64 ka) := (row_of (Table.holds_below HT.out BB.out h0) n hn).1.trans (by rw [KA.out])
  have s0 : w3.cell? ⟨0, (m + 1) * 5, none⟩ = some (.int .i64 kb) := (row_of (Table.holds_below HT.out BB.out h0) m hm).1.trans (by rw [KB.out])
  go_wp2_with fail
  go_quiet (fail)
  go_wp2_with (first | (go_at_call 91; refine (impl_cut _ _ _).mono ?_; rintro e w' ⟨rfl, rfl⟩) | (go_at_call 90; refine (int_cell _ _).mono ?_; rintro e w4 ⟨rfl, hb⟩; replace BK5 := Aside0.mk (blk_below (g := w.heap.size) (o := .cells #[(.int .i64 i), (.float .f64 f), (.float .f64 g)] 27 (0, 0)) (by repeat (first | (with_reducible exact BK5.out) | (with_reducible refine blk_drewN ?_ _) | (with_reducible refine blk_drew ?_))) hb); replace BK6 := Aside0.mk (blk_below (g := w.heap.size + 1) (o := .cells #[(.int .i64 0), (.float .f64 0), (.float .f64 0)] 27 (0, 0)) (by repeat (first | (with_reducible exact BK6.out) | (with_reducible refine blk_drewN ?_ _) | (with_reducible refine blk_drew ?_))) hb); replace BB := Aside0.mk (bb_step hb (by repeat (first | (with_reducible exact BB.out) | (with_reducible apply Vc.below_drewN) | (with_reducible apply Below.drew) | (refine Below.setCell ?_ (by simp; try omega) _)))); clear hb; have c50 : w4.cell? ⟨w.heap.size, 0, none⟩ = some (.int .i64 i) := (blk_cell BK5.out 0).trans rfl; have c51 : w4.cell? ⟨w.heap.size, 1, none⟩ = some (.float .f64 f) := (blk_cell BK5.out 1).trans rfl; have c52 : w4.cell? ⟨w.heap.size, 2, none⟩ = some (.float .f64 g) := (blk_cell BK5.out 2).trans rfl; have c60 : w4.cell? ⟨w.heap.size + 1, 0, none⟩ = some (.int .i64 0) := (blk_cell BK6.out 0).trans rfl; have d60 : w4.frozen? ⟨w.heap.size + 1, 0, none⟩ = false := blk_frozen BK6.out 0; have c61 : w4.cell? ⟨w.heap.size + 1, 1, none⟩ = some (.float .f64 0) := (blk_cell BK6.out 1).trans rfl; have d61 : w4.frozen? ⟨w.heap.size + 1, 1, none⟩ = false := blk_frozen BK6.out 1; have c62 : w4.cell? ⟨w.heap.size + 1, 2, none⟩ = some (.float .f64 0) := (blk_cell BK6.out 2).trans rfl; have d62 : w4.frozen? ⟨w.heap.size + 1, 2, none⟩ = false := blk_frozen BK6.out 2) | (go_at_call 92; refine (TI.out _ (Table.holds_below HT.out (by repeat (first | (with_reducible exact BB.out) | (with_reducible apply Vc.below_drewN) | (with_reducible apply Below.drew) | (refine Below.setCell ?_ (by simp; try omega) _))) h0)).mono ?_; rintro e w4 ⟨j, rfl, hj, hb⟩; have HJ := Aside0.mk hj; clear hj; replace BK5 := Aside0.mk (blk_below (g := w.heap.size) (o := .cells #[(.int .i64 i), (.float .f64 f), (.float .f64 g)] 27 (0, 0)) (by repeat (first | (with_reducible exact BK5.out) | (with_reducible refine blk_drewN ?_ _) | (with_reducible refine blk_drew ?_))) hb); replace BK6 := Aside0.mk (blk_below (g := w.heap.size + 1) (o := .cells #[(.int .i64 0), (.float .f64 0), (.float .f64 0)] 27 (0, 0)) (by repeat (first | (with_reducible exact BK6.out) | (with_reducible refine blk_drewN ?_ _) | (with_reducible refine blk_drew ?_))) hb); replace BB := Aside0.mk (bb_step hb (by repeat (first | (with_reducible exact BB.out) | (with_reducible apply Vc.below_drewN) | (with_reducible apply Below.drew) | (refine Below.setCell ?_ (by simp; try omega) _)))); clear hb; have c50 : w4.cell? ⟨w.heap.size, 0, none⟩ = some (.int .i64 i) := (blk_cell BK5.out 0).trans rfl; have c51 : w4.cell? ⟨w.heap.size, 1, none⟩ = some (.float .f64 f) := (blk_cell BK5.out 1).trans rfl; have c52 : w4.cell? ⟨w.heap.size, 2, none⟩ = some (.float .f64 g) := (blk_cell BK5.out 2).trans rfl; have c60 : w4.cell? ⟨w.heap.size + 1, 0, none⟩ = some (.int .i64 0) := (blk_cell BK6.out 0).trans rfl; have d60 : w4.frozen? ⟨w.heap.size + 1, 0, none⟩ = false := blk_frozen BK6.out 0; have c61 : w4.cell? ⟨w.heap.size + 1, 1, none⟩ = some (.float .f64 0) := (blk_cell BK6.out 1).trans rfl; have d61 : w4.frozen? ⟨w.heap.size + 1, 1, none⟩ = false := blk_frozen BK6.out 1; have c62 : w4.cell? ⟨w.heap.size + 1, 2, none⟩ = some (.float .f64 0) := (blk_cell BK6.out 2).trans rfl; have d62 : w4.frozen? ⟨w.heap.size + 1, 2, none⟩ = false := blk_frozen BK6.out 2) | (go_at_call 93; refine (single_run _ HF.out _).mono ?_; rintro e w' ⟨x, q, rfl, hx, rfl⟩; have HX := Aside0.mk hx; clear hx))
  all_goals refine bodyPost_ret (results_cell_row rfl _ _ (w.heap.size + 1) 27 #[_, _, _] (0, 0) _ rfl (cell3 (by repeat (first | (with_reducible exact BK6.out) | (with_reducible refine blk_drewN ?_ _) | (with_reducible refine blk_drew ?_))) _ _ _) Tryd.underlying27 rfl (by kernel_rfl)) rfl ?_
  all_goals refine ⟨_, _, _, ?_, rfl, (by repeat (first | (with_reducible exact BB.out) | (with_reducible apply Vc.below_drewN) | (with_reducible apply Below.drew) | (refine Below.setCell ?_ (by simp; try omega) _)))⟩
  all_goals exact ⟨cv6 HN.out H1.out (by have := HK.out; omega) HB.out HJ.out, by decide, by decide⟩
set_option maxHeartbeats 8000000 in
theorem convert_7 (n m : Nat) (hn : n < 9) (hm : m < 9) (hab : ¬ n = m) (hk : ¬ kindI ((n : Int) + 1) ≤ 1) (hb0 : ¬ m = 0) (hb1 : ¬ kindI ((m : Int) + 1) = 1) (h7 : (m : Int) + 1 = 7)  (i : Int) (f g : Nat) (hf : f < 18446744073709551616) (hg : g < 18446744073709551616) (w : World) (hT : Table.Holds w) (hv : vcell ((n : Int) + 1) i f g = true) :
    Calls Tryd.prog 31 #[.int .i64 ((n : Int) + 1), .int .i64 ((m : Int) + 1), .agg #[.int .i64 i, .float .f64 f, .float .f64 g]] w fun e w' => ∃ j x y, (Cv ((n : Int) + 1) ((m : Int) + 1) i f g j x y ∧ x < 18446744073709551616 ∧ y < 18446744073709551616) ∧ CellR j x y w e w' := by
  have h0 : 0 < w.heap.size := World.block_lt_of_cell? w _ (hT 0 0 (by omega) (by omega))
  have HT := Lib.hid hT
  have I1 := Lib.hid (show ∀ w, Calls Tryd.prog 68 #[.int .i64 ((n : Int) + 1)] w fun e w' => e = .returned (.bool true) ∧ w = w' from fun w => by have := impl_isd ((n : Int) + 1) w; rw [isd_of n hn] at this; exact this)
  have I2 := Lib.hid (show ∀ w, Calls Tryd.prog 68 #[.int .i64 ((m : Int) + 1)] w fun e w' => e = .returned (.bool true) ∧ w = w' from fun w => by have := impl_isd ((m : Int) + 1) w; rw [isd_of m hm] at this; exact this)
  have V := Lib.hid (show ∀ w, Table.Holds w → Calls Tryd.prog 19 #[.int .i64 ((n : Int) + 1), .agg #[.int .i64 i, .float .f64 f, .float .f64 g]] w fun e w' => e = .returned (.bool true) ∧ Below w.heap.size w w' from fun w h => by have := impl_vcell ((n : Int) + 1) i f g hf hg w h; rw [hv] at this; exact this)
  have HF := Lib.hid hf
  have HG := Lib.hid hg
  obtain ⟨ka, hka⟩ : ∃ ka, kindI ((n : Int) + 1) = ka := ⟨_, rfl⟩
  obtain ⟨kb, hkb⟩ : ∃ kb, kindI ((m : Int) + 1) = kb := ⟨_, rfl⟩
  have KA := Lib.hid hka
  have KB := Lib.hid hkb
  have e1 : ((n : Int) + 1 == (m : Int) + 1) = false := by simp; omega
  have HN := Lib.hid (show ¬ (n : Int) + 1 = (m : Int) + 1 by omega)
  have e2 : ((m : Int) + 1 == 1) = false := by simp; omega
  have H1 := Lib.hid (show ¬ (m : Int) + 1 = 1 by omega)
  have h1 : ¬ ka ≤ 1 := by rw [← hka]; exact hk
  have HK := Lib.hid hk
  have e3 : (kb == 1) = false := by rw [← hkb]; simpa using hb1
  have HB := Lib.hid hb1
  have e4 : ((m : Int) + 1 == 7) = true := by rw [h7]; rfl
  have H7 := Lib.hid h7
  clear hka hkb hT hf hg hv hab hk hb0 hb1 h7
  have hns : ((n : Int) + 1).toNat = n + 1 := by omega
  have hms : ((m : Int) + 1).toNat = m + 1 := by omega
  have hlt : (n : Int) + 1 < 10 := by omega
  have hmt : (m : Int) + 1 < 10 := by omega
  go_enter Tryd.func31, Tryd.ntmps31
  go_wp2_with fail
  refine (I1.out _).mono ?_
  rintro e w1 ⟨rfl, hw⟩
  have BK5 : Aside0 (w1.heap[w.heap.size]? = some (.cells #[(.int .i64 i), (.float .f64 f), (.float .f64 g)] 27 (0, 0))) := ⟨by rw [← hw, heap_alloc_get, heap_alloc_get]; simp; try omega⟩
  have BK6 : Aside0 (w1.heap[w.heap.size + 1]? = some (.cells #[(.int .i64 0), (.float .f64 0), (.float .f64 0)] 27 (0, 0))) := ⟨by rw [← hw, heap_alloc_get, heap_alloc_get]; simp; try omega⟩
  have BB : Aside0 (Below w.heap.size w w1) := ⟨by rw [← hw]; repeat (first | exact Below.refl _ _ | (refine Below.alloc ?_ (by simp; try omega) _))⟩
  clear hw
  have c50 : w1.cell? ⟨w.heap.size, 0, none⟩ = some (.int .i64 i) := (blk_cell BK5.out 0).trans rfl
  have c51 : w1.cell? ⟨w.heap.size, 1, none⟩ = some (.float .f64 f) := (blk_cell BK5.out 1).trans rfl
  have c52 : w1.cell? ⟨w.heap.size, 2, none⟩ = some (.float .f64 g) := (blk_cell BK5.out 2).trans rfl
  have c60 : w1.cell? ⟨w.heap.size + 1, 0, none⟩ = some (.int .i64 0) := (blk_cell BK6.out 0).trans rfl
  have d60 : w1.frozen? ⟨w.heap.size + 1, 0, none⟩ = false := blk_frozen BK6.out 0
  have c61 : w1.cell? ⟨w.heap.size + 1, 1, none⟩ = some (.float .f64 0) := (blk_cell BK6.out 1).trans rfl
  have d61 : w1.frozen? ⟨w.heap.size + 1, 1, none⟩ = false := blk_frozen BK6.out 1
  have c62 : w1.cell? ⟨w.heap.size + 1, 2, none⟩ = some (.float .f64 0) := (blk_cell BK6.out 2).trans rfl
  have d62 : w1.frozen? ⟨w.heap.size + 1, 2, none⟩ = false := blk_frozen BK6.out 2
  have r0 : w1.cell? ⟨0, (n + 1) * 5, none⟩ = some (.int .i64 ka) := (row_of (Table.holds_below HT.out BB.out h0) n hn).1.trans (by rw [KA.out])
  have s0 : w1.cell? ⟨0, (m + 1) * 5, none⟩ = some (.int .i64 kb) := (row_of (Table.holds_below HT.out BB.out h0) m hm).1.trans (by rw [KB.out])
  go_wp2_with fail
  refine (I2.out _).mono ?_
  rintro e w2 ⟨rfl, rfl⟩
  go_wp2_with fail
  refine (V.out _ (Table.holds_below HT.out (by repeat (first | (with_reducible exact BB.out) | (with_reducible apply Vc.below_drewN) | (with_reducible apply Below.drew) | (refine Below.setCell ?_ (by simp; try omega) _))) h0)).mono ?_
  rintro e w3 ⟨rfl, hb⟩
  replace BK5 := Aside0.mk (blk_below (g := w.heap.size) (o := .cells #[(.int .i64 i), (.float .f64 f), (.float .f64 g)] 27 (0, 0)) (by repeat (first | (with_reducible exact BK5.out) | (with_reducible refine blk_drewN ?_ _) | (with_reducible refine blk_drew ?_))) hb)
  replace BK6 := Aside0.mk (blk_below (g := w.heap.size + 1) (o := .cells #[(.int .i64 0), (.float .f64 0), (.float .f64 0)] 27 (0, 0)) (by repeat (first | (with_reducible exact BK6.out) | (with_reducible refine blk_drewN ?_ _) | (with_reducible refine blk_drew ?_))) hb)
  replace BB := Aside0.mk (bb_step hb (by repeat (first | (with_reducible exact BB.out) | (with_reducible apply Vc.below_drewN) | (with_reducible apply Below.drew) | (refine Below.setCell ?_ (by simp; try omega) _))))
  clear hb
  have c50 : w3.cell? ⟨w.heap.size, 0, none⟩ = some (.int .i64 i) := (blk_cell BK5.out 0).trans rfl
  have c51 : w3.cell? ⟨w.heap.size, 1, none⟩ = some (.float .f64 f) := (blk_cell BK5.out 1).trans rfl
  have c52 : w3.cell? ⟨w.heap.size, 2, none⟩ = some (.float .f64 g) := (blk_cell BK5.out 2).trans rfl
  have c60 : w3.cell? ⟨w.heap.size + 1, 0, none⟩ = some (.int .i64 0) := (blk_cell BK6.out 0).trans rfl
  have d60 : w3.frozen? ⟨w.heap.size + 1, 0, none⟩ = false := blk_frozen BK6.out 0
  have c61 : w3.cell? ⟨w.heap.size + 1, 1, none⟩ = some (.float .f64 0) := (blk_cell BK6.out 1).trans rfl
  have d61 : w3.frozen? ⟨w.heap.size + 1, 1, none⟩ = false := blk_frozen BK6.out 1
  have c62 : w3.cell? ⟨w.heap.size + 1, 2, none⟩ = some (.float .f64 0) := (blk_cell BK6.out 2).trans rfl
  have d62 : w3.frozen? ⟨w.heap.size + 1, 2, none⟩ = false := blk_frozen BK6.out 2
  have r0 : w3.cell? ⟨0, (n + 1) * 5, none⟩ = some (.int .i64 ka) := (row_of (Table.holds_below HT.out BB.out h0) n hn).1.trans (by rw [KA.out])
  have s0 : w3.cell? ⟨0, (m + 1) * 5, none⟩ = some (.int .i64 kb) := (row_of (Table.holds_below HT.out BB.out h0) m hm).1.trans (by rw [KB.out])
  go_wp2_with fail
  go_quiet (fail)
  go_wp2_with (first | (go_at_call 91; refine (impl_cut _ _ _).mono ?_; rintro e w' ⟨rfl, rfl⟩) | (go_at_call 90; refine (int_cell _ _).mono ?_; rintro e w4 ⟨rfl, hb⟩; replace BK5 := Aside0.mk (blk_below (g := w.heap.size) (o := .cells #[(.int .i64 i), (.float .f64 f), (.float .f64 g)] 27 (0, 0)) (by repeat (first | (with_reducible exact BK5.out) | (with_reducible refine blk_drewN ?_ _) | (with_reducible refine blk_drew ?_))) hb); replace BK6 := Aside0.mk (blk_below (g := w.heap.size + 1) (o := .cells #[(.int .i64 0), (.float .f64 0), (.float .f64 0)] 27 (0, 0)) (by repeat (first | (with_reducible exact BK6.out) | (with_reducible refine blk_drewN ?_ _) | (with_reducible refine blk_drew ?_))) hb); replace BB := Aside0.mk (bb_step hb (by repeat (first | (with_reducible exact BB.out) | (with_reducible apply Vc.below_drewN) | (with_reducible apply Below.drew) | (refine Below.setCell ?_ (by simp; try omega) _)))); clear hb; have c50 : w4.cell? ⟨w.heap.size, 0, none⟩ = some (.int .i64 i) := (blk_cell BK5.out 0).trans rfl; have c51 : w4.cell? ⟨w.heap.size, 1, none⟩ = some (.float .f64 f) := (blk_cell BK5.out 1).trans rfl; have c52 : w4.cell? ⟨w.heap.size, 2, none⟩ = some (.float .f64 g) := (blk_cell BK5.out 2).trans rfl; have c60 : w4.cell? ⟨w.heap.size + 1, 0, none⟩ = some (.int .i64 0) := (blk_cell BK6.out 0).trans rfl; have d60 : w4.frozen? ⟨w.heap.size + 1, 0, none⟩ = false := blk_frozen BK6.out 0; have c61 : w4.cell? ⟨w.heap.size + 1, 1, none⟩ = some (.float .f64 0) := (blk_cell BK6.out 1).trans rfl; have d61 : w4.frozen? ⟨w.heap.size + 1, 1, none⟩ = false := blk_frozen BK6.out 1; have c62 : w4.cell? ⟨w.heap.size + 1, 2, none⟩ = some (.float .f64 0) := (blk_cell BK6.out 2).trans rfl; have d62 : w4.frozen? ⟨w.heap.size + 1, 2, none⟩ = false := blk_frozen BK6.out 2) | (go_at_call 92; refine (TI.out _ (Table.holds_below HT.out (by repeat (first | (with_reducible exact BB.out) | (with_reducible apply Vc.below_drewN) | (with_reducible apply Below.drew) | (refine Below.setCell ?_ (by simp; try omega) _))) h0)).mono ?_; rintro e w4 ⟨j, rfl, hj, hb⟩; have HJ := Aside0.mk hj; clear hj; replace BK5 := Aside0.mk (blk_below (g := w.heap.size) (o := .cells #[(.int .i64 i), (.float .f64 f), (.float .f64 g)] 27 (0, 0)) (by repeat (first | (with_reducible exact BK5.out) | (with_reducible refine blk_drewN ?_ _) | (with_reducible refine blk_drew ?_))) hb); replace BK6 := Aside0.mk (blk_below (g := w.heap.size + 1) (o := .cells #[(.int .i64 0), (.float .f64 0), (.float .f64 0)] 27 (0, 0)) (by repeat (first | (with_reducible exact BK6.out) | (with_reducible refine blk_drewN ?_ _) | (with_reducible refine blk_drew ?_))) hb); replace BB := Aside0.mk (bb_step hb (by repeat (first | (with_reducible exact BB.out) | (with_reducible apply Vc.below_drewN) | (with_reducible apply Below.drew) | (refine Below.setCell ?_ (by simp; try omega) _)))); clear hb; have c50 : w4.cell? ⟨w.heap.size, 0, none⟩ = some (.int .i64 i) := (blk_cell BK5.out 0).trans rfl; have c51 : w4.cell? ⟨w.heap.size, 1, none⟩ = some (.float .f64 f) := (blk_cell BK5.out 1).trans rfl; have c52 : w4.cell? ⟨w.heap.size, 2, none⟩ = some (.float .f64 g) := (blk_cell BK5.out 2).trans rfl; have c60 : w4.cell? ⟨w.heap.size + 1, 0, none⟩ = some (.int .i64 0) := (blk_cell BK6.out 0).trans rfl; have d60 : w4.frozen? ⟨w.heap.size + 1, 0, none⟩ = false := blk_frozen BK6.out 0; have c61 : w4.cell? ⟨w.heap.size + 1, 1, none⟩ = some (.float .f64 0) := (blk_cell BK6.out 1).trans rfl; have d61 : w4.frozen? ⟨w.heap.size + 1, 1, none⟩ = false := blk_frozen BK6.out 1; have c62 : w4.cell? ⟨w.heap.size + 1, 2, none⟩ = some (.float .f64 0) := (blk_cell BK6.out 2).trans rfl; have d62 : w4.frozen? ⟨w.heap.size + 1, 2, none⟩ = false := blk_frozen BK6.out 2) | (go_at_call 93; refine (single_run _ HF.out _).mono ?_; rintro e w' ⟨x, q, rfl, hx, rfl⟩; have HX := Aside0.mk hx; clear hx))
  all_goals refine bodyPost_ret (results_cell_row rfl _ _ (w.heap.size + 1) 27 #[_, _, _] (0, 0) _ rfl (cell3 (by repeat (first | (with_reducible exact BK6.out) | (with_reducible refine blk_drewN ?_ _) | (with_reducible refine blk_drew ?_))) _ _ _) Tryd.underlying27 rfl (by kernel_rfl)) rfl ?_
  all_goals refine ⟨_, _, _, ?_, rfl, (by repeat (first | (with_reducible exact BB.out) | (with_reducible apply Vc.below_drewN) | (with_reducible apply Below.drew) | (refine Below.setCell ?_ (by simp; try omega) _)))⟩
  all_goals refine ⟨?_, HX.out.1.1, by decide⟩
  all_goals have h7 := H7.out
  all_goals rw [h7]
  all_goals exact cv7 (by have := HN.out; omega) (by have := HK.out; omega) HX.out
set_option maxHeartbeats 8000000 in
theorem convert_8 (n m : Nat) (hn : n < 9) (hm : m < 9) (hab : ¬ n = m) (hk : ¬ kindI ((n : Int) + 1) ≤ 1) (hb0 : ¬ m = 0) (hb1 : ¬ kindI ((m : Int) + 1) = 1) (h7 : ¬ (m : Int) + 1 = 7)  (i : Int) (f g : Nat) (hf : f < 18446744073709551616) (hg : g < 18446744073709551616) (w : World) (hT : Table.Holds w) (hv : vcell ((n : Int) + 1) i f g = true) :
    Calls Tryd.prog 31 #[.int .i64 ((n : Int) + 1), .int .i64 ((m : Int) + 1), .agg #[.int .i64 i, .float .f64 f, .float .f64 g]] w fun e w' => ∃ j x y, (Cv ((n : Int) + 1) ((m : Int) + 1) i f g j x y ∧ x < 18446744073709551616 ∧ y < 18446744073709551616) ∧ CellR j x y w e w' := by
  have h0 : 0 < w.heap.size := World.block_lt_of_cell? w _ (hT 0 0 (by omega) (by omega))
  have HT := Lib.hid hT
  have I1 := Lib.hid (show ∀ w, Calls Tryd.prog 68 #[.int .i64 ((n : Int) + 1)] w fun e w' => e = .returned (.bool true) ∧ w = w' from fun w => by have := impl_isd ((n : Int) + 1) w; rw [isd_of n hn] at this; exact this)
  have I2 := Lib.hid (show ∀ w, Calls Tryd.prog 68 #[.int .i64 ((m : Int) + 1)] w fun e w' => e = .returned (.bool true) ∧ w = w' from fun w => by have := impl_isd ((m : Int) + 1) w; rw [isd_of m hm] at this; exact this)
  have V := Lib.hid (show ∀ w, Table.Holds w → Calls Tryd.prog 19 #[.int .i64 ((n : Int) + 1), .agg #[.int .i64 i, .float .f64 f, .float .f64 g]] w fun e w' => e = .returned (.bool true) ∧ Below w.heap.size w w' from fun w h => by have := impl_vcell ((n : Int) + 1) i f g hf hg w h; rw [hv] at this; exact this)
  have HF := Lib.hid hf
  have HG := Lib.hid hg
  obtain ⟨ka, hka⟩ : ∃ ka, kindI ((n : Int) + 1) = ka := ⟨_, rfl⟩
  obtain ⟨kb, hkb⟩ : ∃ kb, kindI ((m : Int) + 1) = kb := ⟨_, rfl⟩
  have KA := Lib.hid hka
  have KB := Lib.hid hkb
  have e1 : ((n : Int) + 1 == (m : Int) + 1) = false := by simp; omega
  have HN := Lib.hid (show ¬ (n : Int) + 1 = (m : Int) + 1 by omega)
  have e2 : ((m : Int) + 1 == 1) = false := by simp; omega
  have H1 := Lib.hid (show ¬ (m : Int) + 1 = 1 by omega)
  have h1 : ¬ ka ≤ 1 := by rw [← hka]; exact hk
  have HK := Lib.hid hk
  have e3 : (kb == 1) = false := by rw [← hkb]; simpa using hb1
  have HB := Lib.hid hb1
  have e4 : ((m : Int) + 1 == 7) = false := by simp; omega
  have H7 := Lib.hid (show ¬ (m : Int) + 1 = 7 by omega)
  clear hka hkb hT hf hg hv hab hk hb0 hb1 h7
  have hns : ((n : Int) + 1).toNat = n + 1 := by omega
  have hms : ((m : Int) + 1).toNat = m + 1 := by omega
  have hlt : (n : Int) + 1 < 10 := by omega
  have hmt : (m : Int) + 1 < 10 := by omega
  go_enter Tryd.func31, Tryd.ntmps31
  go_wp2_with fail
  refine (I1.out _).mono ?_
  rintro e w1 ⟨rfl, hw⟩
  have BK5 : Aside0 (w1.heap[w.heap.size]? = some (.cells #[(.int .i64 i), (.float .f64 f), (.float .f64 g)] 27 (0, 0))) := ⟨by rw [← hw, heap_alloc_get, heap_alloc_get]; simp; try omega⟩
  have BK6 : Aside0 (w1.heap[w.heap.size + 1]? = some (.cells #[(.int .i64 0), (.float .f64 0), (.float .f64 0)] 27 (0, 0))) := ⟨by rw [← hw, heap_alloc_get, heap_alloc_get]; simp; try omega⟩
  have BB : Aside0 (Below w.heap.size w w1) := ⟨by rw [← hw]; repeat (first | exact Below.refl _ _ | (refine Below.alloc ?_ (by simp; try omega) _))⟩
  clear hw
  have c50 : w1.cell? ⟨w.heap.size, 0, none⟩ = some (.int .i64 i) := (blk_cell BK5.out 0).trans rfl
  have c51 : w1.cell? ⟨w.heap.size, 1, none⟩ = some (.float .f64 f) := (blk_cell BK5.out 1).trans rfl
  have c52 : w1.cell? ⟨w.heap.size, 2, none⟩ = some (.float .f64 g) := (blk_cell BK5.out 2).trans rfl
  have c60 : w1.cell? ⟨w.heap.size + 1, 0, none⟩ = some (.int .i64 0) := (blk_cell BK6.out 0).trans rfl
  have d60 : w1.frozen? ⟨w.heap.size + 1, 0, none⟩ = false := blk_frozen BK6.out 0
  have c61 : w1.cell? ⟨w.heap.size + 1, 1, none⟩ = some (.float .f64 0) := (blk_cell BK6.out 1).trans rfl
  have d61 : w1.frozen? ⟨w.heap.size + 1, 1, none⟩ = false := blk_frozen BK6.out 1
  have c62 : w1.cell? ⟨w.heap.size + 1, 2, none⟩ = some (.float .f64 0) := (blk_cell BK6.out 2).trans rfl
  have d62 : w1.frozen? ⟨w.heap.size + 1, 2, none⟩ = false := blk_frozen BK6.out 2
  have r0 : w1.cell? ⟨0, (n + 1) * 5, none⟩ = some (.int .i64 ka) := (row_of (Table.holds_below HT.out BB.out h0) n hn).1.trans (by rw [KA.out])
  have s0 : w1.cell? ⟨0, (m + 1) * 5, none⟩ = some (.int .i64 kb) := (row_of (Table.holds_below HT.out BB.out h0) m hm).1.trans (by rw [KB.out])
  go_wp2_with fail
  refine (I2.out _).mono ?_
  rintro e w2 ⟨rfl, rfl⟩
  go_wp2_with fail
  refine (V.out _ (Table.holds_below HT.out (by repeat (first | (with_reducible exact BB.out) | (with_reducible apply Vc.below_drewN) | (with_reducible apply Below.drew) | (refine Below.setCell ?_ (by simp; try omega) _))) h0)).mono ?_
  rintro e w3 ⟨rfl, hb⟩
  replace BK5 := Aside0.mk (blk_below (g := w.heap.size) (o := .cells #[(.int .i64 i), (.float .f64 f), (.float .f64 g)] 27 (0, 0)) (by repeat (first | (with_reducible exact BK5.out) | (with_reducible refine blk_drewN ?_ _) | (with_reducible refine blk_drew ?_))) hb)
  replace BK6 := Aside0.mk (blk_below (g := w.heap.size + 1) (o := .cells #[(.int .i64 0), (.float .f64 0), (.float .f64 0)] 27 (0, 0)) (by repeat (first | (with_reducible exact BK6.out) | (with_reducible refine blk_drewN ?_ _) | (with_reducible refine blk_drew ?_))) hb)
  replace BB := Aside0.mk (bb_step hb (by repeat (first | (with_reducible exact BB.out) | (with_reducible apply Vc.below_drewN) | (with_reducible apply Below.drew) | (refine Below.setCell ?_ (by simp; try omega) _))))
  clear hb
  have c50 : w3.cell? ⟨w.heap.size, 0, none⟩ = some (.int .i64 i) := (blk_cell BK5.out 0).trans rfl
  have c51 : w3.cell? ⟨w.heap.size, 1, none⟩ = some (.float .f64 f) := (blk_cell BK5.out 1).trans rfl
  have c52 : w3.cell? ⟨w.heap.size, 2, none⟩ = some (.float .f64 g) := (blk_cell BK5.out 2).trans rfl
  have c60 : w3.cell? ⟨w.heap.size + 1, 0, none⟩ = some (.int .i64 0) := (blk_cell BK6.out 0).trans rfl
  have d60 : w3.frozen? ⟨w.heap.size + 1, 0, none⟩ = false := blk_frozen BK6.out 0
  have c61 : w3.cell? ⟨w.heap.size + 1, 1, none⟩ = some (.float .f64 0) := (blk_cell BK6.out 1).trans rfl
  have d61 : w3.frozen? ⟨w.heap.size + 1, 1, none⟩ = false := blk_frozen BK6.out 1
  have c62 : w3.cell? ⟨w.heap.size + 1, 2, none⟩ = some (.float .f64 0) := (blk_cell BK6.out 2).trans rfl
  have d62 : w3.frozen? ⟨w.heap.size + 1, 2, none⟩ = false := blk_frozen BK6.out 2
  have r0 : w3.cell? ⟨0, (n + 1) * 5, none⟩ = some (.int .i64 ka) := (row_of (Table.holds_below HT.out BB.out h0) n hn).1.trans (by rw [KA.out])
  have s0 : w3.cell? ⟨0, (m + 1) * 5, none⟩ = some (.int .i64 kb) := (row_of (Table.holds_below HT.out BB.out h0) m hm).1.trans (by rw [KB.out])
  go_wp2_with fail
  go_quiet (fail)
  go_wp2_with (first | (go_at_call 91; refine (impl_cut _ _ _).mono ?_; rintro e w' ⟨rfl, rfl⟩) | (go_at_call 90; refine (int_cell _ _).mono ?_; rintro e w4 ⟨rfl, hb⟩; replace BK5 := Aside0.mk (blk_below (g := w.heap.size) (o := .cells #[(.int .i64 i), (.float .f64 f), (.float .f64 g)] 27 (0, 0)) (by repeat (first | (with_reducible exact BK5.out) | (with_reducible refine blk_drewN ?_ _) | (with_reducible refine blk_drew ?_))) hb); replace BK6 := Aside0.mk (blk_below (g := w.heap.size + 1) (o := .cells #[(.int .i64 0), (.float .f64 0), (.float .f64 0)] 27 (0, 0)) (by repeat (first | (with_reducible exact BK6.out) | (with_reducible refine blk_drewN ?_ _) | (with_reducible refine blk_drew ?_))) hb); replace BB := Aside0.mk (bb_step hb (by repeat (first | (with_reducible exact BB.out) | (with_reducible apply Vc.below_drewN) | (with_reducible apply Below.drew) | (refine Below.setCell ?_ (by simp; try omega) _)))); clear hb; have c50 : w4.cell? ⟨w.heap.size, 0, none⟩ = some (.int .i64 i) := (blk_cell BK5.out 0).trans rfl; have c51 : w4.cell? ⟨w.heap.size, 1, none⟩ = some (.float .f64 f) := (blk_cell BK5.out 1).trans rfl; have c52 : w4.cell? ⟨w.heap.size, 2, none⟩ = some (.float .f64 g) := (blk_cell BK5.out 2).trans rfl; have c60 : w4.cell? ⟨w.heap.size + 1, 0, none⟩ = some (.int .i64 0) := (blk_cell BK6.out 0).trans rfl; have d60 : w4.frozen? ⟨w.heap.size + 1, 0, none⟩ = false := blk_frozen BK6.out 0; have c61 : w4.cell? ⟨w.heap.size + 1, 1, none⟩ = some (.float .f64 0) := (blk_cell BK6.out 1).trans rfl; have d61 : w4.frozen? ⟨w.heap.size + 1, 1, none⟩ = false := blk_frozen BK6.out 1; have c62 : w4.cell? ⟨w.heap.size + 1, 2, none⟩ = some (.float .f64 0) := (blk_cell BK6.out 2).trans rfl; have d62 : w4.frozen? ⟨w.heap.size + 1, 2, none⟩ = false := blk_frozen BK6.out 2) | (go_at_call 92; refine (TI.out _ (Table.holds_below HT.out (by repeat (first | (with_reducible exact BB.out) | (with_reducible apply Vc.below_drewN) | (with_reducible apply Below.drew) | (refine Below.setCell ?_ (by simp; try omega) _))) h0)).mono ?_; rintro e w4 ⟨j, rfl, hj, hb⟩; have HJ := Aside0.mk hj; clear hj; replace BK5 := Aside0.mk (blk_below (g := w.heap.size) (o := .cells #[(.int .i64 i), (.float .f64 f), (.float .f64 g)] 27 (0, 0)) (by repeat (first | (with_reducible exact BK5.out) | (with_reducible refine blk_drewN ?_ _) | (with_reducible refine blk_drew ?_))) hb); replace BK6 := Aside0.mk (blk_below (g := w.heap.size + 1) (o := .cells #[(.int .i64 0), (.float .f64 0), (.float .f64 0)] 27 (0, 0)) (by repeat (first | (with_reducible exact BK6.out) | (with_reducible refine blk_drewN ?_ _) | (with_reducible refine blk_drew ?_))) hb); replace BB := Aside0.mk (bb_step hb (by repeat (first | (with_reducible exact BB.out) | (with_reducible apply Vc.below_drewN) | (with_reducible apply Below.drew) | (refine Below.setCell ?_ (by simp; try omega) _)))); clear hb; have c50 : w4.cell? ⟨w.heap.size, 0, none⟩ = some (.int .i64 i) := (blk_cell BK5.out 0).trans rfl; have c51 : w4.cell? ⟨w.heap.size, 1, none⟩ = some (.float .f64 f) := (blk_cell BK5.out 1).trans rfl; have c52 : w4.cell? ⟨w.heap.size, 2, none⟩ = some (.float .f64 g) := (blk_cell BK5.out 2).trans rfl; have c60 : w4.cell? ⟨w.heap.size + 1, 0, none⟩ = some (.int .i64 0) := (blk_cell BK6.out 0).trans rfl; have d60 : w4.frozen? ⟨w.heap.size + 1, 0, none⟩ = false := blk_frozen BK6.out 0; have c61 : w4.cell? ⟨w.heap.size + 1, 1, none⟩ = some (.float .f64 0) := (blk_cell BK6.out 1).trans rfl; have d61 : w4.frozen? ⟨w.heap.size + 1, 1, none⟩ = false := blk_frozen BK6.out 1; have c62 : w4.cell? ⟨w.heap.size + 1, 2, none⟩ = some (.float .f64 0) := (blk_cell BK6.out 2).trans rfl; have d62 : w4.frozen? ⟨w.heap.size + 1, 2, none⟩ = false := blk_frozen BK6.out 2) | (go_at_call 93; refine (single_run _ HF.out _).mono ?_; rintro e w' ⟨x, q, rfl, hx, rfl⟩; have HX := Aside0.mk hx; clear hx))
  all_goals refine bodyPost_ret (results_cell_row rfl _ _ (w.heap.size + 1) 27 #[_, _, _] (0, 0) _ rfl (cell3 (by repeat (first | (with_reducible exact BK6.out) | (with_reducible refine blk_drewN ?_ _) | (with_reducible refine blk_drew ?_))) _ _ _) Tryd.underlying27 rfl (by kernel_rfl)) rfl ?_
  all_goals refine ⟨_, _, _, ?_, rfl, (by repeat (first | (with_reducible exact BB.out) | (with_reducible apply Vc.below_drewN) | (with_reducible apply Below.drew) | (refine Below.setCell ?_ (by simp; try omega) _)))⟩
  all_goals exact ⟨cv8 HN.out H1.out (by have := HK.out; omega) HB.out H7.out, HF.out, by decide⟩
end Go.Proofs.YtpmdgmnpkdoamabDoor.Vc
