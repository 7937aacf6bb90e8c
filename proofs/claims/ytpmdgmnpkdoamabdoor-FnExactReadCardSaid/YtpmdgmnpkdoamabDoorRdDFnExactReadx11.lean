/- Proved here: what the functions answer that the law on Read comes to (the lines were written by a program). Conditions: those that stand ahead in each theorem. -/
import Derived.Test.YtpmdgmnpkdoamabDoorRdDFnExactReadx0
import Derived.Test.YtpmdgmnpkdoamabDoorRdDFnExactReadx1
import Derived.Test.YtpmdgmnpkdoamabDoorRdDFnExactReadx2
import Derived.Test.YtpmdgmnpkdoamabDoorRdDFnExactReadx3
import Derived.Test.YtpmdgmnpkdoamabDoorRdDFnExactReadx8
import Derived.Test.YtpmdgmnpkdoamabDoorRdDFnExactReadx9
import Derived.Test.YtpmdgmnpkdoamabDoorRdDFnExactReadx10
namespace Go.Proofs.YtpmdgmnpkdoamabDoor.DFnExactRead
open Go.RowKit Go.Proofs.YtpmdgmnpkdoamabDoorW.PrintWords Go.Proofs.YtpmdgmnpkdoamabDoorW.PrintLast Go.Proofs.YtpmdgmnpkdoamabDoorW.PrintMore
attribute [local go_sem] Vc.run_store_float' max2_int min2_int max_two min_two max_three min_three max_four min_four   -- for this text's walks alone
set_option linter.unusedVariables false
set_option linter.unusedSimpArgs false

def laws_FnExactRead.j0 : Nat → List (S27) → List (S27) → Bool → List (S166) → Int → List Int → List Int → Int → Option (Bool)
 | 0, _, _, _, _, _, _, _, _ => none
 | k + 1, x6, x9, x63, x324000, x325000, x325001, x325002, x325003 => if x63 = true then (some false) else ((jC.f k x9 1).bind fun bt376 => ((jL.f k bt376.2 1).bind fun t378 => (if t378 < 0 then (some false) else (if t378 = bt376.1 then ((laws_toHeap.f k x324000).bind fun t379 => ((laws_toArray.f k x325000 x325001 x325002 x325003).bind fun bt382 => ((impl_Read.f k t379 bt382.1 bt382.2.1 bt382.2.2.1 bt382.2.2.2).bind fun t390 => ((jB.f k t390 x6).bind fun t393 => (if t393 = true then ((jL.f k bt376.2 1).bind fun t394 => (if t394 < 0 then (some false) else (if t394 = bt376.1 then (some true) else (some false)))) else (some false)))))) else (some false)))))
def laws_FnExactRead.f (k : Nat) (l0_0 : List (S166)) (a1_0 : Int) (l1_1 : List Int) (l1_2 : List Int) (a1_3 : Int) : Option (Bool) := (laws_szHeap.f k l0_0 1048576).bind fun t325 => (if t325 < 0 then (some true) else ((laws_szArray.f a1_0 l1_1 l1_2 a1_3 t325).bind fun t326 => (if t326 < 0 then (some true) else ((laws_toHeap.f k l0_0).bind fun t327 => ((laws_toArray.f k a1_0 l1_1 l1_2 a1_3).bind fun bt330 => ((spec_Read.f k t327 bt330.1 bt330.2.1 bt330.2.2.1 bt330.2.2.2).bind fun t338 => ((laws_toHeap.f k l0_0).bind fun t341 => ((laws_toArray.f k a1_0 l1_1 l1_2 a1_3).bind fun bt345 => ((impl_Read.f k t341 bt345.1 bt345.2.1 bt345.2.2.1 bt345.2.2.2).bind fun t354 => ((jB.f k t354 t338).bind fun t357 => (if t357 = true then ((laws_toHeap.f k l0_0).bind fun t358 => ((laws_eqHeap.f k t341 t358).bind fun t361 => (if t361 = true then ((laws_toArray.f k a1_0 l1_1 l1_2 a1_3).bind fun bt362 => ((laws_eqArray.f k bt345.1 bt345.2.1 bt345.2.2.1 bt345.2.2.2 bt362.1 bt362.2.1 bt362.2.2.1 bt362.2.2.2).bind fun t370 => (if t370 = true then ((laws_markHeap.f t341 1).bind fun t371 => ((laws_markArray.f k bt345.1 bt345.2.1 bt345.2.2.1 bt345.2.2.2 t371).bind fun bt372 => (if bt372.1 < 0 then (laws_FnExactRead.j0 k t338 t354 true l0_0 a1_0 l1_1 l1_2 a1_3) else ((jB.f k t354 t338).bind fun t375 => (laws_FnExactRead.j0 k t338 t354 (!t375) l0_0 a1_0 l1_1 l1_2 a1_3))))) else (some false)))) else (some false)))) else (some false))))))))))))
theorem laws_FnExactRead.mono_l : ∀ k, (∀ y0 y1 y2 y3 y4 y5 y6 y7, LeO (laws_FnExactRead.j0 k y0 y1 y2 y3 y4 y5 y6 y7) (laws_FnExactRead.j0 (k + 1) y0 y1 y2 y3 y4 y5 y6 y7))
 | 0 => fun _ _ _ _ _ _ _ _ r h => by simp [laws_FnExactRead.j0] at h
 | k + 1 => by
  have ih0 := laws_FnExactRead.mono_l k
  ·intro y0 y1 y2 y3 y4 y5 y6 y7
   unfold laws_FnExactRead.j0
   repeat' first
   | (with_reducible exact ih0 _ _ _ _ _ _ _ _)
   | (with_reducible exact impl_Read.mono _ _ _ _ _ _)
   | (with_reducible exact laws_eqArray.mono _ _ _ _ _ _ _ _ _)
   | (with_reducible exact jB.mono _ _ _)
   | (with_reducible exact laws_eqHeap.mono _ _ _)
   | (with_reducible exact jL.mono _ _ _)
   | (with_reducible exact laws_markArray.mono _ _ _ _ _ _)
   | (with_reducible exact jC.mono _ _ _)
   | (with_reducible exact laws_szHeap.mono _ _ _)
   | (with_reducible exact laws_toArray.mono _ _ _ _ _)
   | (with_reducible exact laws_toHeap.mono _ _)
   | (with_reducible exact spec_Read.mono _ _ _ _ _ _)
   | (with_reducible exact LeO.refl _)
   | (with_reducible exact LeO.none _)
   | (with_reducible refine LeO.ite ?_ ?_)
   | (with_reducible refine LeO.bind ?_ (fun _ => ?_))
   | exact ih0 _ _ _ _ _ _ _ _
   | exact impl_Read.mono _ _ _ _ _ _
   | exact laws_eqArray.mono _ _ _ _ _ _ _ _ _
   | exact jB.mono _ _ _
   | exact laws_eqHeap.mono _ _ _
   | exact jL.mono _ _ _
   | exact laws_markArray.mono _ _ _ _ _ _
   | exact jC.mono _ _ _
   | exact laws_szHeap.mono _ _ _
   | exact laws_toArray.mono _ _ _ _ _
   | exact laws_toHeap.mono _ _
   | exact spec_Read.mono _ _ _ _ _ _
   | exact LeO.none _
   | refine LeO.ite ?_ ?_
   | refine LeO.bind ?_ (fun _ => ?_)
theorem laws_FnExactRead.mono : ∀ a0 a1 a2 a3 a4 k, LeO (laws_FnExactRead.f k a0 a1 a2 a3 a4) (laws_FnExactRead.f (k + 1) a0 a1 a2 a3 a4) := by
 intro a0 a1 a2 a3 a4 k
 have ih0 := laws_FnExactRead.mono_l k
 unfold laws_FnExactRead.f
 repeat' first
   | (with_reducible exact ih0 _ _ _ _ _ _ _ _)
   | (with_reducible exact impl_Read.mono _ _ _ _ _ _)
   | (with_reducible exact laws_eqArray.mono _ _ _ _ _ _ _ _ _)
   | (with_reducible exact jB.mono _ _ _)
   | (with_reducible exact laws_eqHeap.mono _ _ _)
   | (with_reducible exact jL.mono _ _ _)
   | (with_reducible exact laws_markArray.mono _ _ _ _ _ _)
   | (with_reducible exact jC.mono _ _ _)
   | (with_reducible exact laws_szHeap.mono _ _ _)
   | (with_reducible exact laws_toArray.mono _ _ _ _ _)
   | (with_reducible exact laws_toHeap.mono _ _)
   | (with_reducible exact spec_Read.mono _ _ _ _ _ _)
   | (with_reducible exact LeO.refl _)
   | (with_reducible exact LeO.none _)
   | (with_reducible refine LeO.ite ?_ ?_)
   | (with_reducible refine LeO.bind ?_ (fun _ => ?_))
   | exact ih0 _ _ _ _ _ _ _ _
   | exact impl_Read.mono _ _ _ _ _ _
   | exact laws_eqArray.mono _ _ _ _ _ _ _ _ _
   | exact jB.mono _ _ _
   | exact laws_eqHeap.mono _ _ _
   | exact jL.mono _ _ _
   | exact laws_markArray.mono _ _ _ _ _ _
   | exact jC.mono _ _ _
   | exact laws_szHeap.mono _ _ _
   | exact laws_toArray.mono _ _ _ _ _
   | exact laws_toHeap.mono _ _
   | exact spec_Read.mono _ _ _ _ _ _
   | exact LeO.none _
   | refine LeO.ite ?_ ?_
   | refine LeO.bind ?_ (fun _ => ?_)
set_option maxHeartbeats 8000000 in
set_option maxRecDepth 100000 in
theorem laws_FnExactRead.calls (k : Nat) (A0_0 : Option Addr) (c0_0 : Nat) (l0_0 : List (S166)) (a1_0 : Int) (A1_1 : Option Addr) (c1_1 : Nat) (l1_1 : List Int) (A1_2 : Option Addr) (c1_2 : Nat) (l1_2 : List Int) (a1_3 : Int) (w : World) (hr0_0 : Kd.C k166 w A0_0 l0_0.length l0_0) (hc0_0 : l0_0.length ≤ c0_0) (hr1_1 : Kd.C (Kd.int .i64) w A1_1 l1_1.length l1_1) (hc1_1 : l1_1.length ≤ c1_1) (hr1_2 : Kd.C (Kd.int .i64) w A1_2 l1_2.length l1_2) (hc1_2 : l1_2.length ≤ c1_2) (hT : Table.Holds w) (h : laws_FnExactRead.f k l0_0 a1_0 l1_1 l1_2 a1_3 = some true) :
  Calls Tryd.prog 12 #[.agg #[.slice A0_0 l0_0.length c0_0], .agg #[.int .i64 a1_0, .slice A1_1 l1_1.length c1_1, .slice A1_2 l1_2.length c1_2, .int .i64 a1_3]] w fun e w' => e = .returned (.bool true) ∧ Below w.heap.size w w' := by
 have HT0 := qV.mk (World.block_lt_of_cell? w _ (hT 0 0 (by omega) (by omega)))
 have HT := qV.mk hT
 clear hT
 have hu34 := Tryd.underlying34
 have hu61 := Tryd.underlying61
 have hu39 := Tryd.underlying39
 have hu66 := Tryd.underlying66
 have HR0_0 := qV.mk hr0_0
 have HC0_0 := qV.mk hc0_0
 clear hr0_0 hc0_0
 have HR1_1 := qV.mk hr1_1
 have HC1_1 := qV.mk hc1_1
 clear hr1_1 hc1_1
 have HR1_2 := qV.mk hr1_2
 have HC1_2 := qV.mk hc1_2
 clear hr1_2 hc1_2
 have HB := qV.mk (Below.refl w.heap.size w)
 have H : ((laws_szHeap.f k l0_0 1048576).bind fun t325 => (if t325 < 0 then (some true) else ((laws_szArray.f a1_0 l1_1 l1_2 a1_3 t325).bind fun t326 => (if t326 < 0 then (some true) else ((laws_toHeap.f k l0_0).bind fun t327 => ((laws_toArray.f k a1_0 l1_1 l1_2 a1_3).bind fun bt330 => ((spec_Read.f k t327 bt330.1 bt330.2.1 bt330.2.2.1 bt330.2.2.2).bind fun t338 => ((laws_toHeap.f k l0_0).bind fun t341 => ((laws_toArray.f k a1_0 l1_1 l1_2 a1_3).bind fun bt345 => ((impl_Read.f k t341 bt345.1 bt345.2.1 bt345.2.2.1 bt345.2.2.2).bind fun t354 => ((jB.f k t354 t338).bind fun t357 => (if t357 = true then ((laws_toHeap.f k l0_0).bind fun t358 => ((laws_eqHeap.f k t341 t358).bind fun t361 => (if t361 = true then ((laws_toArray.f k a1_0 l1_1 l1_2 a1_3).bind fun bt362 => ((laws_eqArray.f k bt345.1 bt345.2.1 bt345.2.2.1 bt345.2.2.2 bt362.1 bt362.2.1 bt362.2.2.1 bt362.2.2.2).bind fun t370 => (if t370 = true then ((laws_markHeap.f t341 1).bind fun t371 => ((laws_markArray.f k bt345.1 bt345.2.1 bt345.2.2.1 bt345.2.2.2 t371).bind fun bt372 => (if bt372.1 < 0 then (laws_FnExactRead.j0 k t338 t354 true l0_0 a1_0 l1_1 l1_2 a1_3) else ((jB.f k t354 t338).bind fun t375 => (laws_FnExactRead.j0 k t338 t354 (!t375) l0_0 a1_0 l1_1 l1_2 a1_3))))) else (some false)))) else (some false)))) else (some false))))))))))))) = some true := h
 clear h
 replace H := Option.bind_eq_some_iff.mp H
 obtain ⟨t325, A30, H⟩ := H
 try dsimp only at H
 have A3 := qV.mk A30
 clear A30
 by_cases c4 : t325 < 0
 ·rw [if_pos c4] at H
  have c4b0 : decide (t325 < 0) = true := decide_eq_true c4
  clear c4 H
  go_enter Tryd.func12, Tryd.ntmps12
  go_wp2_with (first | ((with_reducible refine gate_dst (N := 2) rfl ?_); refine qX ?hg (N := 2) ?hd (cs := #[.slice A0_0 l0_0.length c0_0]) (t := 34) ?hr ?_; (case hd => rfl); (case hg => rfl); (case hr => first | (go_simp; done) | (go_simp; rfl)); intro gb323 hg w5 hbox hb; have n0_ := qV.mk (qE (by repeat (first | (with_reducible first | exact HB.out | apply qA | apply qB | apply qC) | exact HB.out)) hb); have n1_ := qV.mk (hbox); have n2_ := qV.mk ((by rw [hg]; exact (qF (by repeat (first | (with_reducible first | exact HB.out | apply qA | apply qB | apply qC) | exact HB.out))) : w.heap.size ≤ gb323)); have n3_ := qV.mk ((by rw [hg]; exact (qF (by repeat (first | (with_reducible first | exact HB.out | apply qA | apply qB | apply qC) | exact HB.out))) : w.heap.size ≤ gb323)); clear HB; have HB := n0_; have BK323 := n1_; have GW323 := n2_; have GE323 := n3_; clear n0_ n1_ n2_ n3_; clear hb hbox hg) | ((with_reducible refine gate_dst (N := 3) rfl ?_); refine qX ?hg (N := 3) ?hd (cs := #[.int .i64 a1_0, .slice A1_1 l1_1.length c1_1, .slice A1_2 l1_2.length c1_2, .int .i64 a1_3]) (t := 61) ?hr ?_; (case hd => rfl); (case hg => rfl); (case hr => first | (go_simp; done) | (go_simp; rfl)); intro gb324 hg w6 hbox hb; have n0_ := qV.mk (qL (g := gb323) (o := .cells #[.slice A0_0 l0_0.length c0_0] 34 (0, 0)) (by (with_reducible repeat (first | refine qH ?_ _ | refine qI ?_ | refine qG ?_ _)); exact BK323.out) hb); have n1_ := qV.mk (qE (by repeat (first | (with_reducible first | exact HB.out | apply qA | apply qB | apply qC | refine qD ?_ GE323.out) | exact HB.out)) hb); have n2_ := qV.mk (hbox); have n3_ := qV.mk ((by rw [hg]; exact (qF (by repeat (first | (with_reducible first | exact HB.out | apply qA | apply qB | apply qC | refine qD ?_ GE323.out) | exact HB.out))) : w.heap.size ≤ gb324)); have n4_ := qV.mk ((by rw [hg]; exact (qF (by repeat (first | (with_reducible first | exact HB.out | apply qA | apply qB | apply qC | refine qD ?_ GE323.out) | exact HB.out))) : w.heap.size ≤ gb324)); have n5_ := qV.mk ((by rw [hg]; exact Nat.ne_of_lt (jR (g := gb323) (o := .cells #[.slice A0_0 l0_0.length c0_0] 34 (0, 0)) (by (with_reducible repeat (first | refine qH ?_ _ | refine qI ?_ | refine qG ?_ _)); exact BK323.out)) : gb323 ≠ gb324)); have n6_ := qV.mk ((by rw [hg]; exact Nat.ne_of_gt (jR (g := gb323) (o := .cells #[.slice A0_0 l0_0.length c0_0] 34 (0, 0)) (by (with_reducible repeat (first | refine qH ?_ _ | refine qI ?_ | refine qG ?_ _)); exact BK323.out)) : gb324 ≠ gb323)); clear BK323 HB; have BK323 := n0_; have HB := n1_; have BK324 := n2_; have GW324 := n3_; have GE324 := n4_; have NB323_324 := n5_; have NB324_323 := n6_; clear n0_ n1_ n2_ n3_ n4_ n5_ n6_ hb hbox hg; have hnb7 := NB323_324.out; have hnc7 := NB324_323.out; have hcz8_0 : w6.cell? ⟨gb323, 0, none⟩ = some (.slice A0_0 l0_0.length c0_0) := (qJ BK323.out 0).trans rfl; have hfz8_0 := qK BK323.out 0) | ((with_reducible refine gate_callee (f := 22) rfl ?_); refine qW (some 16) rfl rfl Tryd.func22 (by kernel_rfl) rfl #[.agg #[.slice A0_0 l0_0.length c0_0], .int .i64 1048576] rfl (by (try simp only [List.map_toArray, List.map_cons, List.map_nil]); first | done | rfl) ?_; (with_reducible refine (laws_szHeap.calls k _ _ l0_0 1048576 t325 _ ?side1 ?side2 A3.out).mono ?_); (case side1 => repeat (first | exact (Kd.zA HR0_0.out HB.out) | (with_reducible refine Kd.qS ?_ _) | (with_reducible refine Kd.qT ?_ _) | (with_reducible refine Kd.qU ?_))); (case side2 => exact HC0_0.out); rintro e w9 ⟨rfl, hb⟩; refine ⟨_, rfl, ?_⟩; have n0_ := qV.mk (qL (g := gb323) (o := .cells #[.slice A0_0 l0_0.length c0_0] 34 (0, 0)) (by (with_reducible repeat (first | refine qH ?_ _ | refine qI ?_ | refine qG ?_ _)); exact BK323.out) hb); have n1_ := qV.mk (qL (g := gb324) (o := .cells #[.int .i64 a1_0, .slice A1_1 l1_1.length c1_1, .slice A1_2 l1_2.length c1_2, .int .i64 a1_3] 61 (0, 0)) (by (with_reducible repeat (first | refine qH ?_ _ | refine qI ?_ | refine qG ?_ _)); exact BK324.out) hb); have n2_ := qV.mk (qE (by repeat (first | (with_reducible first | exact HB.out | apply qA | apply qB | apply qC | refine qD ?_ GE323.out | refine qD ?_ GE324.out) | exact HB.out)) hb); clear BK323 BK324 HB; have BK323 := n0_; have BK324 := n1_; have HB := n2_; clear n0_ n1_ n2_; (try clear hb); (try clear hb2); (try clear hk); (try clear hi)))
  go_ret
  exact ⟨by first | rfl | (simp [zS, zR] <;> rfl) | (simp [*, zS, zR] <;> rfl), by repeat (first | (with_reducible first | exact HB.out | apply qA | apply qB | apply qC | refine qD ?_ GE323.out | refine qD ?_ GE324.out) | exact HB.out)⟩
 ·rw [if_neg c4] at H
  have c4b0 : decide (t325 < 0) = false := decide_eq_false c4
  clear c4
  replace H := Option.bind_eq_some_iff.mp H
  obtain ⟨t326, A100, H⟩ := H
  try dsimp only at H
  have A10 := qV.mk A100
  clear A100
  by_cases c11 : t326 < 0
  ·rw [if_pos c11] at H
   have c11b0 : decide (t326 < 0) = true := decide_eq_true c11
   clear c11 H
   go_enter Tryd.func12, Tryd.ntmps12
   go_wp2_with (first | ((with_reducible refine gate_dst (N := 2) rfl ?_); refine qX ?hg (N := 2) ?hd (cs := #[.slice A0_0 l0_0.length c0_0]) (t := 34) ?hr ?_; (case hd => rfl); (case hg => rfl); (case hr => first | (go_simp; done) | (go_simp; rfl)); intro gb323 hg w12 hbox hb; have n0_ := qV.mk (qE (by repeat (first | (with_reducible first | exact HB.out | apply qA | apply qB | apply qC) | exact HB.out)) hb); have n1_ := qV.mk (hbox); have n2_ := qV.mk ((by rw [hg]; exact (qF (by repeat (first | (with_reducible first | exact HB.out | apply qA | apply qB | apply qC) | exact HB.out))) : w.heap.size ≤ gb323)); have n3_ := qV.mk ((by rw [hg]; exact (qF (by repeat (first | (with_reducible first | exact HB.out | apply qA | apply qB | apply qC) | exact HB.out))) : w.heap.size ≤ gb323)); clear HB; have HB := n0_; have BK323 := n1_; have GW323 := n2_; have GE323 := n3_; clear n0_ n1_ n2_ n3_; clear hb hbox hg) | ((with_reducible refine gate_dst (N := 3) rfl ?_); refine qX ?hg (N := 3) ?hd (cs := #[.int .i64 a1_0, .slice A1_1 l1_1.length c1_1, .slice A1_2 l1_2.length c1_2, .int .i64 a1_3]) (t := 61) ?hr ?_; (case hd => rfl); (case hg => rfl); (case hr => first | (go_simp; done) | (go_simp; rfl)); intro gb324 hg w13 hbox hb; have n0_ := qV.mk (qL (g := gb323) (o := .cells #[.slice A0_0 l0_0.length c0_0] 34 (0, 0)) (by (with_reducible repeat (first | refine qH ?_ _ | refine qI ?_ | refine qG ?_ _)); exact BK323.out) hb); have n1_ := qV.mk (qE (by repeat (first | (with_reducible first | exact HB.out | apply qA | apply qB | apply qC | refine qD ?_ GE323.out) | exact HB.out)) hb); have n2_ := qV.mk (hbox); have n3_ := qV.mk ((by rw [hg]; exact (qF (by repeat (first | (with_reducible first | exact HB.out | apply qA | apply qB | apply qC | refine qD ?_ GE323.out) | exact HB.out))) : w.heap.size ≤ gb324)); have n4_ := qV.mk ((by rw [hg]; exact (qF (by repeat (first | (with_reducible first | exact HB.out | apply qA | apply qB | apply qC | refine qD ?_ GE323.out) | exact HB.out))) : w.heap.size ≤ gb324)); have n5_ := qV.mk ((by rw [hg]; exact Nat.ne_of_lt (jR (g := gb323) (o := .cells #[.slice A0_0 l0_0.length c0_0] 34 (0, 0)) (by (with_reducible repeat (first | refine qH ?_ _ | refine qI ?_ | refine qG ?_ _)); exact BK323.out)) : gb323 ≠ gb324)); have n6_ := qV.mk ((by rw [hg]; exact Nat.ne_of_gt (jR (g := gb323) (o := .cells #[.slice A0_0 l0_0.length c0_0] 34 (0, 0)) (by (with_reducible repeat (first | refine qH ?_ _ | refine qI ?_ | refine qG ?_ _)); exact BK323.out)) : gb324 ≠ gb323)); clear BK323 HB; have BK323 := n0_; have HB := n1_; have BK324 := n2_; have GW324 := n3_; have GE324 := n4_; have NB323_324 := n5_; have NB324_323 := n6_; clear n0_ n1_ n2_ n3_ n4_ n5_ n6_ hb hbox hg; have hnb14 := NB323_324.out; have hnc14 := NB324_323.out; have hcz15_0 : w13.cell? ⟨gb323, 0, none⟩ = some (.slice A0_0 l0_0.length c0_0) := (qJ BK323.out 0).trans rfl; have hfz15_0 := qK BK323.out 0) | ((with_reducible refine gate_callee (f := 22) rfl ?_); refine qW (some 16) rfl rfl Tryd.func22 (by kernel_rfl) rfl #[.agg #[.slice A0_0 l0_0.length c0_0], .int .i64 1048576] rfl (by (try simp only [List.map_toArray, List.map_cons, List.map_nil]); first | done | rfl) ?_; (with_reducible refine (laws_szHeap.calls k _ _ l0_0 1048576 t325 _ ?side1 ?side2 A3.out).mono ?_); (case side1 => repeat (first | exact (Kd.zA HR0_0.out HB.out) | (with_reducible refine Kd.qS ?_ _) | (with_reducible refine Kd.qT ?_ _) | (with_reducible refine Kd.qU ?_))); (case side2 => exact HC0_0.out); rintro e w16 ⟨rfl, hb⟩; refine ⟨_, rfl, ?_⟩; have n0_ := qV.mk (qL (g := gb323) (o := .cells #[.slice A0_0 l0_0.length c0_0] 34 (0, 0)) (by (with_reducible repeat (first | refine qH ?_ _ | refine qI ?_ | refine qG ?_ _)); exact BK323.out) hb); have n1_ := qV.mk (qL (g := gb324) (o := .cells #[.int .i64 a1_0, .slice A1_1 l1_1.length c1_1, .slice A1_2 l1_2.length c1_2, .int .i64 a1_3] 61 (0, 0)) (by (with_reducible repeat (first | refine qH ?_ _ | refine qI ?_ | refine qG ?_ _)); exact BK324.out) hb); have n2_ := qV.mk (qE (by repeat (first | (with_reducible first | exact HB.out | apply qA | apply qB | apply qC | refine qD ?_ GE323.out | refine qD ?_ GE324.out) | exact HB.out)) hb); clear BK323 BK324 HB; have BK323 := n0_; have BK324 := n1_; have HB := n2_; clear n0_ n1_ n2_; (try clear hb); (try clear hb2); (try clear hk); (try clear hi); have hcz17_0 : w16.cell? ⟨gb324, 0, none⟩ = some (.int .i64 a1_0) := (qJ BK324.out 0).trans rfl; have hcz17_1 : w16.cell? ⟨gb324, 1, none⟩ = some (.slice A1_1 l1_1.length c1_1) := (qJ BK324.out 1).trans rfl; have hcz17_2 : w16.cell? ⟨gb324, 2, none⟩ = some (.slice A1_2 l1_2.length c1_2) := (qJ BK324.out 2).trans rfl; have hcz17_3 : w16.cell? ⟨gb324, 3, none⟩ = some (.int .i64 a1_3) := (qJ BK324.out 3).trans rfl; have hfz17_0 := qK BK324.out 0; have hfz17_1 := qK BK324.out 1; have hfz17_2 := qK BK324.out 2; have hfz17_3 := qK BK324.out 3) | ((with_reducible refine gate_callee (f := 35) rfl ?_); refine qW (some 21) rfl rfl Tryd.func35 (by kernel_rfl) rfl #[.agg #[.int .i64 a1_0, .slice A1_1 l1_1.length c1_1, .slice A1_2 l1_2.length c1_2, .int .i64 a1_3], .int .i64 t325] rfl (by (try simp only [List.map_toArray, List.map_cons, List.map_nil]); first | done | rfl) ?_; (with_reducible refine (laws_szArray.calls a1_0 _ _ l1_1 _ _ l1_2 a1_3 t325 t326 _ ?side1 ?side2 ?side3 ?side4 A10.out).mono ?_); (case side1 => repeat (first | exact (Kd.zA HR1_1.out HB.out) | (with_reducible refine Kd.qS ?_ _) | (with_reducible refine Kd.qT ?_ _) | (with_reducible refine Kd.qU ?_))); (case side2 => exact HC1_1.out); (case side3 => repeat (first | exact (Kd.zA HR1_2.out HB.out) | (with_reducible refine Kd.qS ?_ _) | (with_reducible refine Kd.qT ?_ _) | (with_reducible refine Kd.qU ?_))); (case side4 => exact HC1_2.out); rintro e w18 ⟨rfl, hb⟩; refine ⟨_, rfl, ?_⟩; have n0_ := qV.mk (qL (g := gb323) (o := .cells #[.slice A0_0 l0_0.length c0_0] 34 (0, 0)) (by (with_reducible repeat (first | refine qH ?_ _ | refine qI ?_ | refine qG ?_ _)); exact BK323.out) hb); have n1_ := qV.mk (qL (g := gb324) (o := .cells #[.int .i64 a1_0, .slice A1_1 l1_1.length c1_1, .slice A1_2 l1_2.length c1_2, .int .i64 a1_3] 61 (0, 0)) (by (with_reducible repeat (first | refine qH ?_ _ | refine qI ?_ | refine qG ?_ _)); exact BK324.out) hb); have n2_ := qV.mk (qE (by repeat (first | (with_reducible first | exact HB.out | apply qA | apply qB | apply qC | refine qD ?_ GE323.out | refine qD ?_ GE324.out) | exact HB.out)) hb); clear BK323 BK324 HB; have BK323 := n0_; have BK324 := n1_; have HB := n2_; clear n0_ n1_ n2_; (try clear hb); (try clear hb2); (try clear hk); (try clear hi)))
   go_ret
   exact ⟨by first | rfl | (simp [zS, zR] <;> rfl) | (simp [*, zS, zR] <;> rfl), by repeat (first | (with_reducible first | exact HB.out | apply qA | apply qB | apply qC | refine qD ?_ GE323.out | refine qD ?_ GE324.out) | exact HB.out)⟩
  ·rw [if_neg c11] at H
   have c11b0 : decide (t326 < 0) = false := decide_eq_false c11
   clear c11
   replace H := Option.bind_eq_some_iff.mp H
   obtain ⟨t327, A190, H⟩ := H
   try dsimp only at H
   have A19 := qV.mk A190
   clear A190
   replace H := Option.bind_eq_some_iff.mp H
   obtain ⟨⟨t330, t331, t334, t337⟩, A200, H⟩ := H
   try dsimp only at H
   have A20 := qV.mk A200
   clear A200
   replace H := Option.bind_eq_some_iff.mp H
   obtain ⟨t338, A210, H⟩ := H
   try dsimp only at H
   have A21 := qV.mk A210
   clear A210
   replace H := Option.bind_eq_some_iff.mp H
   obtain ⟨t341, A220, H⟩ := H
   try dsimp only at H
   have A22 := qV.mk A220
   clear A220
   replace H := Option.bind_eq_some_iff.mp H
   obtain ⟨⟨t345, t346, t349, t352⟩, A230, H⟩ := H
   try dsimp only at H
   have A23 := qV.mk A230
   clear A230
   replace H := Option.bind_eq_some_iff.mp H
   obtain ⟨t354, A240, H⟩ := H
   try dsimp only at H
   have A24 := qV.mk A240
   clear A240
   replace H := Option.bind_eq_some_iff.mp H
   obtain ⟨t357, A250, H⟩ := H
   try dsimp only at H
   have A25 := qV.mk A250
   clear A250
   by_cases c26 : t357 = true
   ·subst c26
    rw [if_pos rfl] at H
    replace H := Option.bind_eq_some_iff.mp H
    obtain ⟨t358, A270, H⟩ := H
    try dsimp only at H
    have A27 := qV.mk A270
    clear A270
    replace H := Option.bind_eq_some_iff.mp H
    obtain ⟨t361, A280, H⟩ := H
    try dsimp only at H
    have A28 := qV.mk A280
    clear A280
    by_cases c29 : t361 = true
    ·subst c29
     rw [if_pos rfl] at H
     replace H := Option.bind_eq_some_iff.mp H
     obtain ⟨⟨t362, t363, t366, t369⟩, A300, H⟩ := H
     try dsimp only at H
     have A30 := qV.mk A300
     clear A300
     replace H := Option.bind_eq_some_iff.mp H
     obtain ⟨t370, A310, H⟩ := H
     try dsimp only at H
     have A31 := qV.mk A310
     clear A310
     by_cases c32 : t370 = true
     ·subst c32
      rw [if_pos rfl] at H
      replace H := Option.bind_eq_some_iff.mp H
      obtain ⟨t371, A330, H⟩ := H
      try dsimp only at H
      have A33 := qV.mk A330
      clear A330
      replace H := Option.bind_eq_some_iff.mp H
      obtain ⟨⟨t372, t373, t374⟩, A340, H⟩ := H
      try dsimp only at H
      have A34 := qV.mk A340
      clear A340
      have HC35 := qV.mk H
      clear H
      go_enter Tryd.func12, Tryd.ntmps12
      try go_wp2_with (first | ((with_reducible refine gate_dst (N := 2) rfl ?_); refine qX ?hg (N := 2) ?hd (cs := #[.slice A0_0 l0_0.length c0_0]) (t := 34) ?hr ?_; (case hd => rfl); (case hg => rfl); (case hr => first | (go_simp; done) | (go_simp; rfl)); intro gb323 hg w36 hbox hb; have n0_ := qV.mk (qE (by repeat (first | (with_reducible first | exact HB.out | apply qA | apply qB | apply qC) | exact HB.out)) hb); have n1_ := qV.mk (hbox); have n2_ := qV.mk ((by rw [hg]; exact (qF (by repeat (first | (with_reducible first | exact HB.out | apply qA | apply qB | apply qC) | exact HB.out))) : w.heap.size ≤ gb323)); have n3_ := qV.mk ((by rw [hg]; exact (qF (by repeat (first | (with_reducible first | exact HB.out | apply qA | apply qB | apply qC) | exact HB.out))) : w.heap.size ≤ gb323)); clear HB; have HB := n0_; have BK323 := n1_; have GW323 := n2_; have GE323 := n3_; clear n0_ n1_ n2_ n3_; clear hb hbox hg) | ((with_reducible refine gate_dst (N := 3) rfl ?_); refine qX ?hg (N := 3) ?hd (cs := #[.int .i64 a1_0, .slice A1_1 l1_1.length c1_1, .slice A1_2 l1_2.length c1_2, .int .i64 a1_3]) (t := 61) ?hr ?_; (case hd => rfl); (case hg => rfl); (case hr => first | (go_simp; done) | (go_simp; rfl)); intro gb324 hg w37 hbox hb; have n0_ := qV.mk (qL (g := gb323) (o := .cells #[.slice A0_0 l0_0.length c0_0] 34 (0, 0)) (by (with_reducible repeat (first | refine qH ?_ _ | refine qI ?_ | refine qG ?_ _)); exact BK323.out) hb); have n1_ := qV.mk (qE (by repeat (first | (with_reducible first | exact HB.out | apply qA | apply qB | apply qC | refine qD ?_ GE323.out) | exact HB.out)) hb); have n2_ := qV.mk (hbox); have n3_ := qV.mk ((by rw [hg]; exact (qF (by repeat (first | (with_reducible first | exact HB.out | apply qA | apply qB | apply qC | refine qD ?_ GE323.out) | exact HB.out))) : w.heap.size ≤ gb324)); have n4_ := qV.mk ((by rw [hg]; exact (qF (by repeat (first | (with_reducible first | exact HB.out | apply qA | apply qB | apply qC | refine qD ?_ GE323.out) | exact HB.out))) : w.heap.size ≤ gb324)); have n5_ := qV.mk ((by rw [hg]; exact Nat.ne_of_lt (jR (g := gb323) (o := .cells #[.slice A0_0 l0_0.length c0_0] 34 (0, 0)) (by (with_reducible repeat (first | refine qH ?_ _ | refine qI ?_ | refine qG ?_ _)); exact BK323.out)) : gb323 ≠ gb324)); have n6_ := qV.mk ((by rw [hg]; exact Nat.ne_of_gt (jR (g := gb323) (o := .cells #[.slice A0_0 l0_0.length c0_0] 34 (0, 0)) (by (with_reducible repeat (first | refine qH ?_ _ | refine qI ?_ | refine qG ?_ _)); exact BK323.out)) : gb324 ≠ gb323)); clear BK323 HB; have BK323 := n0_; have HB := n1_; have BK324 := n2_; have GW324 := n3_; have GE324 := n4_; have NB323_324 := n5_; have NB324_323 := n6_; clear n0_ n1_ n2_ n3_ n4_ n5_ n6_ hb hbox hg; have hnb38 := NB323_324.out; have hnc38 := NB324_323.out; have hcz39_0 : w37.cell? ⟨gb323, 0, none⟩ = some (.slice A0_0 l0_0.length c0_0) := (qJ BK323.out 0).trans rfl; have hfz39_0 := qK BK323.out 0) | ((with_reducible refine gate_callee (f := 22) rfl ?_); refine qW (some 16) rfl rfl Tryd.func22 (by kernel_rfl) rfl #[.agg #[.slice A0_0 l0_0.length c0_0], .int .i64 1048576] rfl (by (try simp only [List.map_toArray, List.map_cons, List.map_nil]); first | done | rfl) ?_; (with_reducible refine (laws_szHeap.calls k _ _ l0_0 1048576 t325 _ ?side1 ?side2 A3.out).mono ?_); (case side1 => repeat (first | exact (Kd.zA HR0_0.out HB.out) | (with_reducible refine Kd.qS ?_ _) | (with_reducible refine Kd.qT ?_ _) | (with_reducible refine Kd.qU ?_))); (case side2 => exact HC0_0.out); rintro e w40 ⟨rfl, hb⟩; refine ⟨_, rfl, ?_⟩; have n0_ := qV.mk (qL (g := gb323) (o := .cells #[.slice A0_0 l0_0.length c0_0] 34 (0, 0)) (by (with_reducible repeat (first | refine qH ?_ _ | refine qI ?_ | refine qG ?_ _)); exact BK323.out) hb); have n1_ := qV.mk (qL (g := gb324) (o := .cells #[.int .i64 a1_0, .slice A1_1 l1_1.length c1_1, .slice A1_2 l1_2.length c1_2, .int .i64 a1_3] 61 (0, 0)) (by (with_reducible repeat (first | refine qH ?_ _ | refine qI ?_ | refine qG ?_ _)); exact BK324.out) hb); have n2_ := qV.mk (qE (by repeat (first | (with_reducible first | exact HB.out | apply qA | apply qB | apply qC | refine qD ?_ GE323.out | refine qD ?_ GE324.out) | exact HB.out)) hb); clear BK323 BK324 HB; have BK323 := n0_; have BK324 := n1_; have HB := n2_; clear n0_ n1_ n2_; (try clear hb); (try clear hb2); (try clear hk); (try clear hi); have hcz41_0 : w40.cell? ⟨gb324, 0, none⟩ = some (.int .i64 a1_0) := (qJ BK324.out 0).trans rfl; have hcz41_1 : w40.cell? ⟨gb324, 1, none⟩ = some (.slice A1_1 l1_1.length c1_1) := (qJ BK324.out 1).trans rfl; have hcz41_2 : w40.cell? ⟨gb324, 2, none⟩ = some (.slice A1_2 l1_2.length c1_2) := (qJ BK324.out 2).trans rfl; have hcz41_3 : w40.cell? ⟨gb324, 3, none⟩ = some (.int .i64 a1_3) := (qJ BK324.out 3).trans rfl; have hfz41_0 := qK BK324.out 0; have hfz41_1 := qK BK324.out 1; have hfz41_2 := qK BK324.out 2; have hfz41_3 := qK BK324.out 3) | ((with_reducible refine gate_callee (f := 35) rfl ?_); refine qW (some 21) rfl rfl Tryd.func35 (by kernel_rfl) rfl #[.agg #[.int .i64 a1_0, .slice A1_1 l1_1.length c1_1, .slice A1_2 l1_2.length c1_2, .int .i64 a1_3], .int .i64 t325] rfl (by (try simp only [List.map_toArray, List.map_cons, List.map_nil]); first | done | rfl) ?_; (with_reducible refine (laws_szArray.calls a1_0 _ _ l1_1 _ _ l1_2 a1_3 t325 t326 _ ?side1 ?side2 ?side3 ?side4 A10.out).mono ?_); (case side1 => repeat (first | exact (Kd.zA HR1_1.out HB.out) | (with_reducible refine Kd.qS ?_ _) | (with_reducible refine Kd.qT ?_ _) | (with_reducible refine Kd.qU ?_))); (case side2 => exact HC1_1.out); (case side3 => repeat (first | exact (Kd.zA HR1_2.out HB.out) | (with_reducible refine Kd.qS ?_ _) | (with_reducible refine Kd.qT ?_ _) | (with_reducible refine Kd.qU ?_))); (case side4 => exact HC1_2.out); rintro e w42 ⟨rfl, hb⟩; refine ⟨_, rfl, ?_⟩; have n0_ := qV.mk (qL (g := gb323) (o := .cells #[.slice A0_0 l0_0.length c0_0] 34 (0, 0)) (by (with_reducible repeat (first | refine qH ?_ _ | refine qI ?_ | refine qG ?_ _)); exact BK323.out) hb); have n1_ := qV.mk (qL (g := gb324) (o := .cells #[.int .i64 a1_0, .slice A1_1 l1_1.length c1_1, .slice A1_2 l1_2.length c1_2, .int .i64 a1_3] 61 (0, 0)) (by (with_reducible repeat (first | refine qH ?_ _ | refine qI ?_ | refine qG ?_ _)); exact BK324.out) hb); have n2_ := qV.mk (qE (by repeat (first | (with_reducible first | exact HB.out | apply qA | apply qB | apply qC | refine qD ?_ GE323.out | refine qD ?_ GE324.out) | exact HB.out)) hb); clear BK323 BK324 HB; have BK323 := n0_; have BK324 := n1_; have HB := n2_; clear n0_ n1_ n2_; (try clear hb); (try clear hb2); (try clear hk); (try clear hi)))
      have n0_ := qV.mk (qI BK323.out)
      have n1_ := qV.mk (qI BK324.out)
      have n2_ := qV.mk (qC HB.out)
      clear BK323 BK324 HB
      have BK323 := n0_
      have BK324 := n1_
      have HB := n2_
      clear n0_ n1_ n2_
      refine start_ (n := 6) (S := fun w' => w'.cell? ⟨gb323, 0, none⟩ = some (.slice A0_0 l0_0.length c0_0) ∧ w'.cell? ⟨gb324, 0, none⟩ = some (.int .i64 a1_0) ∧ w'.cell? ⟨gb324, 1, none⟩ = some (.slice A1_1 l1_1.length c1_1) ∧ w'.cell? ⟨gb324, 2, none⟩ = some (.slice A1_2 l1_2.length c1_2) ∧ w'.cell? ⟨gb324, 3, none⟩ = some (.int .i64 a1_3)) (ds := []) #[false, false, false, false, false, false] (by kernel_rfl) rfl rfl ⟨(qJ BK323.out 0).trans rfl, (qJ BK324.out 0).trans rfl, (qJ BK324.out 1).trans rfl, (qJ BK324.out 2).trans rfl, (qJ BK324.out 3).trans rfl⟩ (fun hHeld => ?_)
      generalize w42.drew = w43 at BK323 BK324 HB hHeld ⊢
      refine take_ (i := 0) (N := some 24) (v := ?_) (a' := ?_) #[true, false, false, false, false, false] rfl rfl (by kernel_rfl) (fun _ _ _ h => h) (Or.inl ⟨by rfl, ?_⟩) hHeld ?_ ?_
      rotate_left
      ·rintro w' ⟨s0, s1, s2, s3, s4⟩
       go_simp
       with_reducible rfl
      rotate_left
      ·simp only [Act.put, List.setIfInBounds_toArray, List.set_cons_zero, List.set_cons_succ, i64_w, i32_w]
       rfl
      refine take_ (i := 2) (N := some 26) (v := ?_) (a' := ?_) #[true, false, true, false, false, false] rfl rfl (by kernel_rfl) (fun _ _ _ h => h) (Or.inl ⟨by rfl, ?_⟩) hHeld ?_ ?_
      rotate_left
      ·rintro w' ⟨s0, s1, s2, s3, s4⟩
       go_simp
       with_reducible rfl
      rotate_left
      ·simp only [Act.put, List.setIfInBounds_toArray, List.set_cons_zero, List.set_cons_succ, i64_w, i32_w]
       rfl
      refine one_ (i := 1) (N := some 25) #[true, true, true, false, false, false] rfl rfl (by kernel_rfl) (by decide) (fun K hK => ?_)
      refine goes_ Tryd.func24 (by kernel_rfl) rfl #[.agg #[.slice A0_0 l0_0.length c0_0]] (by rfl) rfl rfl (by (try simp only [List.map_toArray, List.map_cons, List.map_nil]); first | done | rfl) ?_
      with_reducible refine (laws_toHeap.calls k _ _ l0_0 t327 _ ?side1 ?side2 A19.out).mono ?_
      (case side1 => repeat (first | exact (Kd.zA HR0_0.out HB.out) | (with_reducible refine Kd.qS ?_ _) | (with_reducible refine Kd.qT ?_ _) | (with_reducible refine Kd.qU ?_)))
      (case side2 => exact HC0_0.out)
      rintro e w44 ⟨v328, rfl, ho0, hb⟩
      refine ⟨_, rfl, ?_⟩
      have n0_ := qV.mk (Kd.S_lower ho0 (qF (by repeat (first | (with_reducible first | exact HB.out | apply qA | apply qB | apply qC | refine qD ?_ GE323.out | refine qD ?_ GE324.out) | exact HB.out))))
      have n1_ := qV.mk (qL (g := gb323) (o := .cells #[.slice A0_0 l0_0.length c0_0] 34 (0, 0)) (by (with_reducible repeat (first | refine qH ?_ _ | refine qI ?_ | refine qG ?_ _)); exact BK323.out) hb)
      have n2_ := qV.mk (qL (g := gb324) (o := .cells #[.int .i64 a1_0, .slice A1_1 l1_1.length c1_1, .slice A1_2 l1_2.length c1_2, .int .i64 a1_3] 61 (0, 0)) (by (with_reducible repeat (first | refine qH ?_ _ | refine qI ?_ | refine qG ?_ _)); exact BK324.out) hb)
      have n3_ := qV.mk (qE (by repeat (first | (with_reducible first | exact HB.out | apply qA | apply qB | apply qC | refine qD ?_ GE323.out | refine qD ?_ GE324.out) | exact HB.out)) hb)
      clear BK323 BK324 HB
      have HO329 := n0_
      have BK323 := n1_
      have BK324 := n2_
      have HB := n3_
      clear n0_ n1_ n2_ n3_
      (try clear hb)
      (try clear hb2)
      (try clear hk)
      (try clear hi)
      (try clear ho0)
      refine hK.out _ _ ⟨(qJ BK323.out 0).trans rfl, (qJ BK324.out 0).trans rfl, (qJ BK324.out 1).trans rfl, (qJ BK324.out 2).trans rfl, (qJ BK324.out 3).trans rfl⟩ (fun hHeld => ?_)
      clear hK K
      refine norm_ (a' := ?_) ?_ ?_
      rotate_left
      ·show Act.put _ (some 25) _ = _
       simp only [Act.put, List.setIfInBounds_toArray, List.set_cons_zero, List.set_cons_succ, i64_w, i32_w]
       rfl
      refine one_ (i := 3) (N := some 27) #[true, true, true, true, false, false] rfl rfl (by kernel_rfl) (by decide) (fun K hK => ?_)
      refine goes_ Tryd.func37 (by kernel_rfl) rfl #[.agg #[.int .i64 a1_0, .slice A1_1 l1_1.length c1_1, .slice A1_2 l1_2.length c1_2, .int .i64 a1_3]] (by rfl) rfl rfl (by (try simp only [List.map_toArray, List.map_cons, List.map_nil]); first | done | rfl) ?_
      with_reducible refine (laws_toArray.calls k a1_0 _ _ l1_1 _ _ l1_2 a1_3 t330 t331 t334 t337 _ ?side1 ?side2 ?side3 ?side4 A20.out).mono ?_
      (case side1 => repeat (first | exact (Kd.zA HR1_1.out HB.out) | (with_reducible refine Kd.qS ?_ _) | (with_reducible refine Kd.qT ?_ _) | (with_reducible refine Kd.qU ?_)))
      (case side2 => exact HC1_1.out)
      (case side3 => repeat (first | exact (Kd.zA HR1_2.out HB.out) | (with_reducible refine Kd.qS ?_ _) | (with_reducible refine Kd.qT ?_ _) | (with_reducible refine Kd.qU ?_)))
      (case side4 => exact HC1_2.out)
      rintro e w45 ⟨v332, v335, rfl, ho0, ho1, hb⟩
      refine ⟨_, rfl, ?_⟩
      have n0_ := qV.mk (Kd.qZ (by (with_reducible repeat (first | apply Kd.qP | apply Kd.qQ | apply Kd.qR)); exact HO329.out) hb)
      have n1_ := qV.mk (Kd.R_lower ho0 (qF (by repeat (first | (with_reducible first | exact HB.out | apply qA | apply qB | apply qC | refine qD ?_ GE323.out | refine qD ?_ GE324.out) | exact HB.out))))
      have n2_ := qV.mk (Kd.R_lower ho1 (qF (by repeat (first | (with_reducible first | exact HB.out | apply qA | apply qB | apply qC | refine qD ?_ GE323.out | refine qD ?_ GE324.out) | exact HB.out))))
      have n3_ := qV.mk (qL (g := gb323) (o := .cells #[.slice A0_0 l0_0.length c0_0] 34 (0, 0)) (by (with_reducible repeat (first | refine qH ?_ _ | refine qI ?_ | refine qG ?_ _)); exact BK323.out) hb)
      have n4_ := qV.mk (qL (g := gb324) (o := .cells #[.int .i64 a1_0, .slice A1_1 l1_1.length c1_1, .slice A1_2 l1_2.length c1_2, .int .i64 a1_3] 61 (0, 0)) (by (with_reducible repeat (first | refine qH ?_ _ | refine qI ?_ | refine qG ?_ _)); exact BK324.out) hb)
      have n5_ := qV.mk (qE (by repeat (first | (with_reducible first | exact HB.out | apply qA | apply qB | apply qC | refine qD ?_ GE323.out | refine qD ?_ GE324.out) | exact HB.out)) hb)
      clear HO329 BK323 BK324 HB
      have HO329 := n0_
      have HO333 := n1_
      have HO336 := n2_
      have BK323 := n3_
      have BK324 := n4_
      have HB := n5_
      clear n0_ n1_ n2_ n3_ n4_ n5_
      (try clear hb)
      (try clear hb2)
      (try clear hk)
      (try clear hi)
      (try clear ho0)
      (try clear ho1)
      obtain ⟨Ao46, co46, eo46⟩ := Kd.S_slice HO329.out
      (first | subst eo46 | (injection eo46 with f1_ f2_ f3_; have f4_ := f1_.symm; have f5_ := f3_.symm; clear f1_ f2_ f3_; subst f4_; subst f5_))
      obtain ⟨Ao47, co47, eo47⟩ := Kd.zB HO333.out
      (first | subst eo47 | (injection eo47 with f1_ f2_ f3_; have f4_ := f1_.symm; have f5_ := f3_.symm; clear f1_ f2_ f3_; subst f4_; subst f5_))
      obtain ⟨Ao48, co48, eo48⟩ := Kd.zB HO336.out
      (first | subst eo48 | (injection eo48 with f1_ f2_ f3_; have f4_ := f1_.symm; have f5_ := f3_.symm; clear f1_ f2_ f3_; subst f4_; subst f5_))
      refine hK.out _ _ ⟨(qJ BK323.out 0).trans rfl, (qJ BK324.out 0).trans rfl, (qJ BK324.out 1).trans rfl, (qJ BK324.out 2).trans rfl, (qJ BK324.out 3).trans rfl⟩ (fun hHeld => ?_)
      clear hK K
      refine norm_ (a' := ?_) ?_ ?_
      rotate_left
      ·show Act.put _ (some 27) _ = _
       simp only [Act.put, List.setIfInBounds_toArray, List.set_cons_zero, List.set_cons_succ, i64_w, i32_w]
       rfl
      refine one_ (i := 4) (N := some 28) #[true, true, true, true, true, false] rfl rfl (by kernel_rfl) (by decide) (fun K hK => ?_)
      refine goes_ Tryd.func45 (by kernel_rfl) rfl #[.agg #[.slice Ao46 t327.length co46], .agg #[.int .i64 t330, .slice Ao47 t331.length co47, .slice Ao48 t334.length co48, .int .i64 t337]] (by rfl) rfl rfl (by (try simp only [List.map_toArray, List.map_cons, List.map_nil]); first | done | rfl) ?_
      with_reducible refine (spec_Read.calls k _ _ t327 t330 _ _ t331 _ _ t334 t337 t338 _ ?side1 ?side2 ?side3 ?side4 ?side5 ?side6 ?sideT A21.out).mono ?_
      (case sideT => refine Table.holds_below HT.out ?_ HT0.out; repeat (first | (with_reducible first | exact HB.out | apply qA | apply qB | apply qC | refine qD ?_ GE323.out | refine qD ?_ GE324.out | refine qD ?_ GE344.out | refine qD ?_ GE353.out) | exact HB.out))
      (case side1 => repeat (first | exact (Kd.zD HO329.out).2.2 | (with_reducible refine Kd.qS ?_ _) | (with_reducible refine Kd.qT ?_ _) | (with_reducible refine Kd.qU ?_)))
      (case side2 => exact (Kd.zD HO329.out).2.1)
      (case side3 => repeat (first | exact (Kd.zC HO333.out).2.2 | (with_reducible refine Kd.qS ?_ _) | (with_reducible refine Kd.qT ?_ _) | (with_reducible refine Kd.qU ?_)))
      (case side4 => exact (Kd.zC HO333.out).2.1)
      (case side5 => repeat (first | exact (Kd.zC HO336.out).2.2 | (with_reducible refine Kd.qS ?_ _) | (with_reducible refine Kd.qT ?_ _) | (with_reducible refine Kd.qU ?_)))
      (case side6 => exact (Kd.zC HO336.out).2.1)
      rintro e w49 ⟨v339, rfl, ho0, hb⟩
      refine ⟨_, rfl, ?_⟩
      have n0_ := qV.mk (Kd.S_elder' (by (with_reducible repeat (first | apply Kd.qP | apply Kd.qQ | apply Kd.qR)); exact HO329.out) (Kd.R_base ho0) hb)
      have n1_ := qV.mk (Kd.qY (by (with_reducible repeat (first | apply Kd.qM | apply Kd.qN | apply Kd.qO)); exact HO333.out) hb)
      have n2_ := qV.mk (Kd.qY (by (with_reducible repeat (first | apply Kd.qM | apply Kd.qN | apply Kd.qO)); exact HO336.out) hb)
      have n3_ := qV.mk (Kd.R_lower ho0 (qF (by repeat (first | (with_reducible first | exact HB.out | apply qA | apply qB | apply qC | refine qD ?_ GE323.out | refine qD ?_ GE324.out) | exact HB.out))))
      have n4_ := qV.mk (qL (g := gb323) (o := .cells #[.slice A0_0 l0_0.length c0_0] 34 (0, 0)) (by (with_reducible repeat (first | refine qH ?_ _ | refine qI ?_ | refine qG ?_ _)); exact BK323.out) hb)
      have n5_ := qV.mk (qL (g := gb324) (o := .cells #[.int .i64 a1_0, .slice A1_1 l1_1.length c1_1, .slice A1_2 l1_2.length c1_2, .int .i64 a1_3] 61 (0, 0)) (by (with_reducible repeat (first | refine qH ?_ _ | refine qI ?_ | refine qG ?_ _)); exact BK324.out) hb)
      have n6_ := qV.mk (qE (by repeat (first | (with_reducible first | exact HB.out | apply qA | apply qB | apply qC | refine qD ?_ GE323.out | refine qD ?_ GE324.out) | exact HB.out)) hb)
      clear HO329 HO333 HO336 BK323 BK324 HB
      have HO329 := n0_
      have HO333 := n1_
      have HO336 := n2_
      have HO340 := n3_
      have BK323 := n4_
      have BK324 := n5_
      have HB := n6_
      clear n0_ n1_ n2_ n3_ n4_ n5_ n6_
      (try clear hb)
      (try clear hb2)
      (try clear hk)
      (try clear hi)
      (try clear ho0)
      refine hK.out _ _ ⟨(qJ BK323.out 0).trans rfl, (qJ BK324.out 0).trans rfl, (qJ BK324.out 1).trans rfl, (qJ BK324.out 2).trans rfl, (qJ BK324.out 3).trans rfl⟩ (fun hHeld => ?_)
      clear hK K
      refine norm_ (a' := ?_) ?_ ?_
      rotate_left
      ·show Act.put _ (some 28) _ = _
       simp only [Act.put, List.setIfInBounds_toArray, List.set_cons_zero, List.set_cons_succ, i64_w, i32_w]
       rfl
      refine pure_ (i := 5) (N := some 6) (v := ?_) (a' := ?_) #[true, true, true, true, true, true] rfl rfl (by kernel_rfl) (fun _ _ _ h => h) (Or.inl ⟨by rfl, ?_⟩) ?_ ?_
      rotate_left
      ·intro w'
       go_simp
       with_reducible rfl
      rotate_left
      ·simp only [Act.put, List.setIfInBounds_toArray, List.set_cons_zero, List.set_cons_succ, i64_w, i32_w]
       rfl
      refine done_ (by kernel_rfl) ?_
      have hcz50_0 : w49.cell? ⟨gb323, 0, none⟩ = some (.slice A0_0 l0_0.length c0_0) := (qJ BK323.out 0).trans rfl
      have hfz50_0 := qK BK323.out 0
      try go_wp2_with (first | ((with_reducible refine gate_callee (f := 24) rfl ?_); refine qW (some 30) rfl rfl Tryd.func24 (by kernel_rfl) rfl #[.agg #[.slice A0_0 l0_0.length c0_0]] rfl (by (try simp only [List.map_toArray, List.map_cons, List.map_nil]); first | done | rfl) ?_; (with_reducible refine (laws_toHeap.calls k _ _ l0_0 t341 _ ?side1 ?side2 A22.out).mono ?_); (case side1 => repeat (first | exact (Kd.zA HR0_0.out HB.out) | (with_reducible refine Kd.qS ?_ _) | (with_reducible refine Kd.qT ?_ _) | (with_reducible refine Kd.qU ?_))); (case side2 => exact HC0_0.out); rintro e w51 ⟨v342, rfl, ho0, hb⟩; refine ⟨_, rfl, ?_⟩; have n0_ := qV.mk (Kd.S_elder' (by (with_reducible repeat (first | apply Kd.qP | apply Kd.qQ | apply Kd.qR)); exact HO329.out) (Kd.S_base ho0) hb); have n1_ := qV.mk (Kd.qY (by (with_reducible repeat (first | apply Kd.qM | apply Kd.qN | apply Kd.qO)); exact HO333.out) hb); have n2_ := qV.mk (Kd.qY (by (with_reducible repeat (first | apply Kd.qM | apply Kd.qN | apply Kd.qO)); exact HO336.out) hb); have n3_ := qV.mk (Kd.qY (by (with_reducible repeat (first | apply Kd.qM | apply Kd.qN | apply Kd.qO)); exact HO340.out) hb); have n4_ := qV.mk (Kd.S_lower (Kd.S_new' (Kd.S_new' ho0 (Kd.S_lt (by (with_reducible repeat (first | apply Kd.qP | apply Kd.qQ | apply Kd.qR)); exact HO329.out))) (Kd.R_lt (by (with_reducible repeat (first | apply Kd.qM | apply Kd.qN | apply Kd.qO)); exact HO340.out))) (qF (by repeat (first | (with_reducible first | exact HB.out | apply qA | apply qB | apply qC | refine qD ?_ GE323.out | refine qD ?_ GE324.out) | exact HB.out)))); have n5_ := qV.mk (qL (g := gb323) (o := .cells #[.slice A0_0 l0_0.length c0_0] 34 (0, 0)) (by (with_reducible repeat (first | refine qH ?_ _ | refine qI ?_ | refine qG ?_ _)); exact BK323.out) hb); have n6_ := qV.mk (qL (g := gb324) (o := .cells #[.int .i64 a1_0, .slice A1_1 l1_1.length c1_1, .slice A1_2 l1_2.length c1_2, .int .i64 a1_3] 61 (0, 0)) (by (with_reducible repeat (first | refine qH ?_ _ | refine qI ?_ | refine qG ?_ _)); exact BK324.out) hb); have n7_ := qV.mk (qE (by repeat (first | (with_reducible first | exact HB.out | apply qA | apply qB | apply qC | refine qD ?_ GE323.out | refine qD ?_ GE324.out) | exact HB.out)) hb); clear HO329 HO333 HO336 HO340 BK323 BK324 HB; have HO329 := n0_; have HO333 := n1_; have HO336 := n2_; have HO340 := n3_; have HO343 := n4_; have BK323 := n5_; have BK324 := n6_; have HB := n7_; clear n0_ n1_ n2_ n3_ n4_ n5_ n6_ n7_; (try clear hb); (try clear hb2); (try clear hk); (try clear hi); (try clear ho0)) | ((with_reducible refine gate_dst (N := 7) rfl ?_); refine qX ?hg (N := 7) ?hd (cs := #[.slice none 0 0]) (t := 39) ?hr ?_; (case hd => rfl); (case hg => rfl); (case hr => first | (go_simp; done) | (go_simp; rfl)); intro gb344 hg w52 hbox hb; have n0_ := qV.mk (Kd.qZ (by (with_reducible repeat (first | apply Kd.qP | apply Kd.qQ | apply Kd.qR)); exact HO329.out) hb); have n1_ := qV.mk (Kd.qY (by (with_reducible repeat (first | apply Kd.qM | apply Kd.qN | apply Kd.qO)); exact HO333.out) hb); have n2_ := qV.mk (Kd.qY (by (with_reducible repeat (first | apply Kd.qM | apply Kd.qN | apply Kd.qO)); exact HO336.out) hb); have n3_ := qV.mk (Kd.qY (by (with_reducible repeat (first | apply Kd.qM | apply Kd.qN | apply Kd.qO)); exact HO340.out) hb); have n4_ := qV.mk (Kd.qZ (by (with_reducible repeat (first | apply Kd.qP | apply Kd.qQ | apply Kd.qR)); exact HO343.out) hb); have n5_ := qV.mk (qL (g := gb323) (o := .cells #[.slice A0_0 l0_0.length c0_0] 34 (0, 0)) (by (with_reducible repeat (first | refine qH ?_ _ | refine qI ?_ | refine qG ?_ _)); exact BK323.out) hb); have n6_ := qV.mk (qL (g := gb324) (o := .cells #[.int .i64 a1_0, .slice A1_1 l1_1.length c1_1, .slice A1_2 l1_2.length c1_2, .int .i64 a1_3] 61 (0, 0)) (by (with_reducible repeat (first | refine qH ?_ _ | refine qI ?_ | refine qG ?_ _)); exact BK324.out) hb); have n7_ := qV.mk (qE (by repeat (first | (with_reducible first | exact HB.out | apply qA | apply qB | apply qC | refine qD ?_ GE323.out | refine qD ?_ GE324.out) | exact HB.out)) hb); have n8_ := qV.mk (hbox); have n9_ := qV.mk ((by rw [hg]; exact (qF (by repeat (first | (with_reducible first | exact HB.out | apply qA | apply qB | apply qC | refine qD ?_ GE323.out | refine qD ?_ GE324.out) | exact HB.out))) : w.heap.size ≤ gb344)); have n10_ := qV.mk ((by rw [hg]; exact (qF (by repeat (first | (with_reducible first | exact HB.out | apply qA | apply qB | apply qC | refine qD ?_ GE323.out | refine qD ?_ GE324.out) | exact HB.out))) : w.heap.size ≤ gb344)); have n11_ := qV.mk ((by rw [hg]; exact Nat.ne_of_lt (jR (g := gb323) (o := .cells #[.slice A0_0 l0_0.length c0_0] 34 (0, 0)) (by (with_reducible repeat (first | refine qH ?_ _ | refine qI ?_ | refine qG ?_ _)); exact BK323.out)) : gb323 ≠ gb344)); have n12_ := qV.mk ((by rw [hg]; exact Nat.ne_of_gt (jR (g := gb323) (o := .cells #[.slice A0_0 l0_0.length c0_0] 34 (0, 0)) (by (with_reducible repeat (first | refine qH ?_ _ | refine qI ?_ | refine qG ?_ _)); exact BK323.out)) : gb344 ≠ gb323)); have n13_ := qV.mk ((by rw [hg]; exact Nat.ne_of_lt (jR (g := gb324) (o := .cells #[.int .i64 a1_0, .slice A1_1 l1_1.length c1_1, .slice A1_2 l1_2.length c1_2, .int .i64 a1_3] 61 (0, 0)) (by (with_reducible repeat (first | refine qH ?_ _ | refine qI ?_ | refine qG ?_ _)); exact BK324.out)) : gb324 ≠ gb344)); have n14_ := qV.mk ((by rw [hg]; exact Nat.ne_of_gt (jR (g := gb324) (o := .cells #[.int .i64 a1_0, .slice A1_1 l1_1.length c1_1, .slice A1_2 l1_2.length c1_2, .int .i64 a1_3] 61 (0, 0)) (by (with_reducible repeat (first | refine qH ?_ _ | refine qI ?_ | refine qG ?_ _)); exact BK324.out)) : gb344 ≠ gb324)); clear HO329 HO333 HO336 HO340 HO343 BK323 BK324 HB; have HO329 := n0_; have HO333 := n1_; have HO336 := n2_; have HO340 := n3_; have HO343 := n4_; have BK323 := n5_; have BK324 := n6_; have HB := n7_; have BK344 := n8_; have GW344 := n9_; have GE344 := n10_; have NB323_344 := n11_; have NB344_323 := n12_; have NB324_344 := n13_; have NB344_324 := n14_; clear n0_ n1_ n2_ n3_ n4_ n5_ n6_ n7_ n8_ n9_ n10_ n11_ n12_ n13_ n14_ hb hbox hg; obtain ⟨Ao53, co53, eo53⟩ := Kd.S_slice HO343.out; subst eo53; have hnb54 := NB344_323.out; have hnc54 := NB323_344.out; have hnb55 := NB344_324.out; have hnc55 := NB324_344.out; have hcz56_0 : w52.cell? ⟨gb344, 0, none⟩ = some (.slice none 0 0) := (qJ BK344.out 0).trans rfl; have hfz56_0 := qK BK344.out 0; have hcz57_0 : w52.cell? ⟨gb324, 0, none⟩ = some (.int .i64 a1_0) := (qJ BK324.out 0).trans rfl; have hcz57_1 : w52.cell? ⟨gb324, 1, none⟩ = some (.slice A1_1 l1_1.length c1_1) := (qJ BK324.out 1).trans rfl; have hcz57_2 : w52.cell? ⟨gb324, 2, none⟩ = some (.slice A1_2 l1_2.length c1_2) := (qJ BK324.out 2).trans rfl; have hcz57_3 : w52.cell? ⟨gb324, 3, none⟩ = some (.int .i64 a1_3) := (qJ BK324.out 3).trans rfl; have hfz57_0 := qK BK324.out 0; have hfz57_1 := qK BK324.out 1; have hfz57_2 := qK BK324.out 2; have hfz57_3 := qK BK324.out 3) | ((with_reducible refine gate_callee (f := 37) rfl ?_); refine qW (some 32) rfl rfl Tryd.func37 (by kernel_rfl) rfl #[.agg #[.int .i64 a1_0, .slice A1_1 l1_1.length c1_1, .slice A1_2 l1_2.length c1_2, .int .i64 a1_3]] rfl (by (try simp only [List.map_toArray, List.map_cons, List.map_nil]); first | done | rfl) ?_; (with_reducible refine (laws_toArray.calls k a1_0 _ _ l1_1 _ _ l1_2 a1_3 t345 t346 t349 t352 _ ?side1 ?side2 ?side3 ?side4 A23.out).mono ?_); (case side1 => exact Kd.zA HR1_1.out (by repeat (first | (with_reducible first | exact HB.out | apply qA | apply qB | apply qC | refine qD ?_ GE323.out | refine qD ?_ GE324.out | refine qD ?_ GE344.out) | exact HB.out))); (case side2 => exact HC1_1.out); (case side3 => exact Kd.zA HR1_2.out (by repeat (first | (with_reducible first | exact HB.out | apply qA | apply qB | apply qC | refine qD ?_ GE323.out | refine qD ?_ GE324.out | refine qD ?_ GE344.out) | exact HB.out))); (case side4 => exact HC1_2.out); rintro e w58 ⟨v347, v350, rfl, ho0, ho1, hb⟩; refine ⟨_, rfl, ?_⟩; have n0_ := qV.mk (Kd.qZ (by (with_reducible repeat (first | apply Kd.qP | apply Kd.qQ | apply Kd.qR)); exact (Kd.zH (Kd.S_far (p := ⟨gb344, 0, none⟩) (Kd.S_types HO329.out BK344.out (by decide)) (fun _ hk => hk.2) (.slice Ao53 t341.length co53)) (fun _ h_ => h_.1))) hb); have n1_ := qV.mk (Kd.zG (Kd.R_told (Kd.R_told (Kd.R_old (by (with_reducible repeat (first | apply Kd.qM | apply Kd.qN | apply Kd.qO)); exact (Kd.zG (Kd.R_far (p := ⟨gb344, 0, none⟩) (Kd.R_types HO333.out BK344.out (by decide)) (fun _ hk => hk.2) (.slice Ao53 t341.length co53)) (fun _ h_ => h_.1))) hb) (Kd.R_base ho0)) (Kd.R_base ho1)) (fun _ h_ => h_.1)); have n2_ := qV.mk (Kd.zG (Kd.R_told (Kd.R_told (Kd.R_old (by (with_reducible repeat (first | apply Kd.qM | apply Kd.qN | apply Kd.qO)); exact (Kd.zG (Kd.R_far (p := ⟨gb344, 0, none⟩) (Kd.R_types HO336.out BK344.out (by decide)) (fun _ hk => hk.2) (.slice Ao53 t341.length co53)) (fun _ h_ => h_.1))) hb) (Kd.R_base ho0)) (Kd.R_base ho1)) (fun _ h_ => h_.1)); have n3_ := qV.mk (Kd.qY (by (with_reducible repeat (first | apply Kd.qM | apply Kd.qN | apply Kd.qO)); exact (Kd.zG (Kd.R_far (p := ⟨gb344, 0, none⟩) (Kd.R_types HO340.out BK344.out (by decide)) (fun _ hk => hk.2) (.slice Ao53 t341.length co53)) (fun _ h_ => h_.1))) hb); have n4_ := qV.mk (Kd.qZ (by (with_reducible repeat (first | apply Kd.qP | apply Kd.qQ | apply Kd.qR)); exact (Kd.zH (Kd.S_far (p := ⟨gb344, 0, none⟩) (Kd.S_types HO343.out BK344.out (by decide)) (fun _ hk => hk.2) (.slice Ao53 t341.length co53)) (fun _ h_ => h_.1))) hb); have n5_ := qV.mk (Kd.R_lower (Kd.R_new' (Kd.R_new' ho0 (Kd.R_lt (by (with_reducible repeat (first | apply Kd.qM | apply Kd.qN | apply Kd.qO)); exact (Kd.zG (Kd.R_far (p := ⟨gb344, 0, none⟩) (Kd.R_types HO333.out BK344.out (by decide)) (fun _ hk => hk.2) (.slice Ao53 t341.length co53)) (fun _ h_ => h_.1))))) (Kd.R_lt (by (with_reducible repeat (first | apply Kd.qM | apply Kd.qN | apply Kd.qO)); exact (Kd.zG (Kd.R_far (p := ⟨gb344, 0, none⟩) (Kd.R_types HO336.out BK344.out (by decide)) (fun _ hk => hk.2) (.slice Ao53 t341.length co53)) (fun _ h_ => h_.1))))) (qF (by repeat (first | (with_reducible first | exact HB.out | apply qA | apply qB | apply qC | refine qD ?_ GE323.out | refine qD ?_ GE324.out | refine qD ?_ GE344.out) | exact HB.out)))); have n6_ := qV.mk (Kd.R_lower (Kd.R_new' (Kd.R_new' ho1 (Kd.R_lt (by (with_reducible repeat (first | apply Kd.qM | apply Kd.qN | apply Kd.qO)); exact (Kd.zG (Kd.R_far (p := ⟨gb344, 0, none⟩) (Kd.R_types HO333.out BK344.out (by decide)) (fun _ hk => hk.2) (.slice Ao53 t341.length co53)) (fun _ h_ => h_.1))))) (Kd.R_lt (by (with_reducible repeat (first | apply Kd.qM | apply Kd.qN | apply Kd.qO)); exact (Kd.zG (Kd.R_far (p := ⟨gb344, 0, none⟩) (Kd.R_types HO336.out BK344.out (by decide)) (fun _ hk => hk.2) (.slice Ao53 t341.length co53)) (fun _ h_ => h_.1))))) (qF (by repeat (first | (with_reducible first | exact HB.out | apply qA | apply qB | apply qC | refine qD ?_ GE323.out | refine qD ?_ GE324.out | refine qD ?_ GE344.out) | exact HB.out)))); have n7_ := qV.mk (qL (g := gb323) (o := .cells #[.slice A0_0 l0_0.length c0_0] 34 (0, 0)) (by (with_reducible repeat (first | refine qH ?_ _ | refine qI ?_ | refine qG ?_ _)); refine jO ?_ NB323_344.out _; (with_reducible repeat (first | refine qH ?_ _ | refine qI ?_ | refine qG ?_ _)); exact BK323.out) hb); have n8_ := qV.mk (qL (g := gb324) (o := .cells #[.int .i64 a1_0, .slice A1_1 l1_1.length c1_1, .slice A1_2 l1_2.length c1_2, .int .i64 a1_3] 61 (0, 0)) (by (with_reducible repeat (first | refine qH ?_ _ | refine qI ?_ | refine qG ?_ _)); refine jO ?_ NB324_344.out _; (with_reducible repeat (first | refine qH ?_ _ | refine qI ?_ | refine qG ?_ _)); exact BK324.out) hb); have n9_ := qV.mk (qL (g := gb344) (o := .cells #[.slice Ao53 t341.length co53] 39 (0, 0)) (by (with_reducible repeat (first | refine qH ?_ _ | refine qI ?_ | refine qG ?_ _)); refine jQ (cs := #[.slice none 0 0]) ?_ 0 _ rfl; (with_reducible repeat (first | refine qH ?_ _ | refine qI ?_ | refine qG ?_ _)); exact BK344.out) hb); have n10_ := qV.mk (qE (by repeat (first | (with_reducible first | exact HB.out | apply qA | apply qB | apply qC | refine qD ?_ GE323.out | refine qD ?_ GE324.out | refine qD ?_ GE344.out) | exact HB.out)) hb); clear HO329 HO333 HO336 HO340 HO343 BK323 BK324 BK344 HB; have HO329 := n0_; have HO333 := n1_; have HO336 := n2_; have HO340 := n3_; have HO343 := n4_; have HO348 := n5_; have HO351 := n6_; have BK323 := n7_; have BK324 := n8_; have BK344 := n9_; have HB := n10_; clear n0_ n1_ n2_ n3_ n4_ n5_ n6_ n7_ n8_ n9_ n10_; (try clear hb); (try clear hb2); (try clear hk); (try clear hi); (try clear ho0); (try clear ho1)) | ((with_reducible refine gate_dst (N := 8) rfl ?_); refine qX ?hg (N := 8) ?hd (cs := #[.int .i64 0, .slice none 0 0, .slice none 0 0, .int .i64 0]) (t := 66) ?hr ?_; (case hd => rfl); (case hg => rfl); (case hr => first | (go_simp; done) | (go_simp; rfl)); intro gb353 hg w59 hbox hb; have n0_ := qV.mk (Kd.qZ (by (with_reducible repeat (first | apply Kd.qP | apply Kd.qQ | apply Kd.qR)); exact HO329.out) hb); have n1_ := qV.mk (Kd.qY (by (with_reducible repeat (first | apply Kd.qM | apply Kd.qN | apply Kd.qO)); exact HO333.out) hb); have n2_ := qV.mk (Kd.qY (by (with_reducible repeat (first | apply Kd.qM | apply Kd.qN | apply Kd.qO)); exact HO336.out) hb); have n3_ := qV.mk (Kd.qY (by (with_reducible repeat (first | apply Kd.qM | apply Kd.qN | apply Kd.qO)); exact HO340.out) hb); have n4_ := qV.mk (Kd.qZ (by (with_reducible repeat (first | apply Kd.qP | apply Kd.qQ | apply Kd.qR)); exact HO343.out) hb); have n5_ := qV.mk (Kd.qY (by (with_reducible repeat (first | apply Kd.qM | apply Kd.qN | apply Kd.qO)); exact HO348.out) hb); have n6_ := qV.mk (Kd.qY (by (with_reducible repeat (first | apply Kd.qM | apply Kd.qN | apply Kd.qO)); exact HO351.out) hb); have n7_ := qV.mk (qL (g := gb323) (o := .cells #[.slice A0_0 l0_0.length c0_0] 34 (0, 0)) (by (with_reducible repeat (first | refine qH ?_ _ | refine qI ?_ | refine qG ?_ _)); exact BK323.out) hb); have n8_ := qV.mk (qL (g := gb324) (o := .cells #[.int .i64 a1_0, .slice A1_1 l1_1.length c1_1, .slice A1_2 l1_2.length c1_2, .int .i64 a1_3] 61 (0, 0)) (by (with_reducible repeat (first | refine qH ?_ _ | refine qI ?_ | refine qG ?_ _)); exact BK324.out) hb); have n9_ := qV.mk (qL (g := gb344) (o := .cells #[.slice Ao53 t341.length co53] 39 (0, 0)) (by (with_reducible repeat (first | refine qH ?_ _ | refine qI ?_ | refine qG ?_ _)); exact BK344.out) hb); have n10_ := qV.mk (qE (by repeat (first | (with_reducible first | exact HB.out | apply qA | apply qB | apply qC | refine qD ?_ GE323.out | refine qD ?_ GE324.out | refine qD ?_ GE344.out) | exact HB.out)) hb); have n11_ := qV.mk (hbox); have n12_ := qV.mk ((by rw [hg]; exact (qF (by repeat (first | (with_reducible first | exact HB.out | apply qA | apply qB | apply qC | refine qD ?_ GE323.out | refine qD ?_ GE324.out | refine qD ?_ GE344.out) | exact HB.out))) : w.heap.size ≤ gb353)); have n13_ := qV.mk ((by rw [hg]; exact (qF (by repeat (first | (with_reducible first | exact HB.out | apply qA | apply qB | apply qC | refine qD ?_ GE323.out | refine qD ?_ GE324.out | refine qD ?_ GE344.out) | exact HB.out))) : w.heap.size ≤ gb353)); have n14_ := qV.mk ((by rw [hg]; exact Nat.ne_of_lt (jR (g := gb323) (o := .cells #[.slice A0_0 l0_0.length c0_0] 34 (0, 0)) (by (with_reducible repeat (first | refine qH ?_ _ | refine qI ?_ | refine qG ?_ _)); exact BK323.out)) : gb323 ≠ gb353)); have n15_ := qV.mk ((by rw [hg]; exact Nat.ne_of_gt (jR (g := gb323) (o := .cells #[.slice A0_0 l0_0.length c0_0] 34 (0, 0)) (by (with_reducible repeat (first | refine qH ?_ _ | refine qI ?_ | refine qG ?_ _)); exact BK323.out)) : gb353 ≠ gb323)); have n16_ := qV.mk ((by rw [hg]; exact Nat.ne_of_lt (jR (g := gb324) (o := .cells #[.int .i64 a1_0, .slice A1_1 l1_1.length c1_1, .slice A1_2 l1_2.length c1_2, .int .i64 a1_3] 61 (0, 0)) (by (with_reducible repeat (first | refine qH ?_ _ | refine qI ?_ | refine qG ?_ _)); exact BK324.out)) : gb324 ≠ gb353)); have n17_ := qV.mk ((by rw [hg]; exact Nat.ne_of_gt (jR (g := gb324) (o := .cells #[.int .i64 a1_0, .slice A1_1 l1_1.length c1_1, .slice A1_2 l1_2.length c1_2, .int .i64 a1_3] 61 (0, 0)) (by (with_reducible repeat (first | refine qH ?_ _ | refine qI ?_ | refine qG ?_ _)); exact BK324.out)) : gb353 ≠ gb324)); have n18_ := qV.mk ((by rw [hg]; exact Nat.ne_of_lt (jR (g := gb344) (o := .cells #[.slice Ao53 t341.length co53] 39 (0, 0)) (by (with_reducible repeat (first | refine qH ?_ _ | refine qI ?_ | refine qG ?_ _)); exact BK344.out)) : gb344 ≠ gb353)); have n19_ := qV.mk ((by rw [hg]; exact Nat.ne_of_gt (jR (g := gb344) (o := .cells #[.slice Ao53 t341.length co53] 39 (0, 0)) (by (with_reducible repeat (first | refine qH ?_ _ | refine qI ?_ | refine qG ?_ _)); exact BK344.out)) : gb353 ≠ gb344)); clear HO329 HO333 HO336 HO340 HO343 HO348 HO351 BK323 BK324 BK344 HB; have HO329 := n0_; have HO333 := n1_; have HO336 := n2_; have HO340 := n3_; have HO343 := n4_; have HO348 := n5_; have HO351 := n6_; have BK323 := n7_; have BK324 := n8_; have BK344 := n9_; have HB := n10_; have BK353 := n11_; have GW353 := n12_; have GE353 := n13_; have NB323_353 := n14_; have NB353_323 := n15_; have NB324_353 := n16_; have NB353_324 := n17_; have NB344_353 := n18_; have NB353_344 := n19_; clear n0_ n1_ n2_ n3_ n4_ n5_ n6_ n7_ n8_ n9_ n10_ n11_ n12_ n13_ n14_ n15_ n16_ n17_ n18_ n19_ hb hbox hg; have hnb60 := NB353_323.out; have hnc60 := NB323_353.out; have hnb61 := NB353_324.out; have hnc61 := NB324_353.out; have hnb62 := NB353_344.out; have hnc62 := NB344_353.out; have hcz63_0 : w59.cell? ⟨gb353, 0, none⟩ = some (.int .i64 0) := (qJ BK353.out 0).trans rfl; have hcz63_1 : w59.cell? ⟨gb353, 1, none⟩ = some (.slice none 0 0) := (qJ BK353.out 1).trans rfl; have hcz63_2 : w59.cell? ⟨gb353, 2, none⟩ = some (.slice none 0 0) := (qJ BK353.out 2).trans rfl; have hcz63_3 : w59.cell? ⟨gb353, 3, none⟩ = some (.int .i64 0) := (qJ BK353.out 3).trans rfl; have hfz63_0 := qK BK353.out 0; have hfz63_1 := qK BK353.out 1; have hfz63_2 := qK BK353.out 2; have hfz63_3 := qK BK353.out 3; obtain ⟨Ao64, co64, eo64⟩ := Kd.zB HO348.out; subst eo64; obtain ⟨Ao65, co65, eo65⟩ := Kd.zB HO351.out; subst eo65; have hcz66_0 : w59.cell? ⟨gb344, 0, none⟩ = some (.slice Ao53 t341.length co53) := (qJ BK344.out 0).trans rfl; have hfz66_0 := qK BK344.out 0) | ((with_reducible refine gate_callee (f := 46) rfl ?_); refine qW (some 35) rfl rfl Tryd.func46 (by kernel_rfl) rfl #[.agg #[.slice Ao53 t341.length co53], .agg #[.int .i64 t345, .slice Ao64 t346.length co64, .slice Ao65 t349.length co65, .int .i64 t352]] rfl (by (try simp only [List.map_toArray, List.map_cons, List.map_nil]); first | done | rfl) ?_; (with_reducible refine (impl_Read.calls k _ _ t341 t345 _ _ t346 _ _ t349 t352 t354 _ ?side1 ?side2 ?side3 ?side4 ?side5 ?side6 ?sideT A24.out).mono ?_); (case sideT => refine Table.holds_below HT.out ?_ HT0.out; repeat (first | (with_reducible first | exact HB.out | apply qA | apply qB | apply qC | refine qD ?_ GE323.out | refine qD ?_ GE324.out | refine qD ?_ GE344.out | refine qD ?_ GE353.out) | exact HB.out)); (case side1 => refine (Kd.zD (e := 85) (base := w.heap.size) (ok := fun k_ => ((True ∧ some k_ ≠ (.slice Ao46 t327.length co46 : Value).ownBlock) ∧ some k_ ≠ (v339 : Value).ownBlock)) (n := t341.length) (c := co53) ?_).2.2; exact (by (with_reducible repeat (first | apply Kd.qP | apply Kd.qQ | apply Kd.qR)); exact (Kd.zH (Kd.S_far (p := ⟨gb353, 3, none⟩) (Kd.S_far (p := ⟨gb353, 2, none⟩) (Kd.S_far (p := ⟨gb353, 1, none⟩) (Kd.S_far (p := ⟨gb353, 0, none⟩) (Kd.S_types HO343.out BK353.out (by decide)) (fun _ hk => hk.2) (.int .i64 t345)) (fun _ hk => hk.2) (.slice Ao64 t346.length co64)) (fun _ hk => hk.2) (.slice Ao65 t349.length co65)) (fun _ hk => hk.2) (.int .i64 t352)) (fun _ h_ => h_.1)))); (case side2 => exact (Kd.zD HO343.out).2.1); (case side3 => refine (Kd.zC (e := 2) (base := w.heap.size) (ok := fun k_ => ((some k_ ≠ (.slice Ao65 t349.length co65 : Value).ownBlock ∧ some k_ ≠ (.slice Ao47 t331.length co47 : Value).ownBlock) ∧ some k_ ≠ (.slice Ao48 t334.length co48 : Value).ownBlock)) (n := t346.length) (c := co64) ?_).2.2; exact (by (with_reducible repeat (first | apply Kd.qM | apply Kd.qN | apply Kd.qO)); exact (Kd.zG (Kd.R_far (p := ⟨gb353, 3, none⟩) (Kd.R_far (p := ⟨gb353, 2, none⟩) (Kd.R_far (p := ⟨gb353, 1, none⟩) (Kd.R_far (p := ⟨gb353, 0, none⟩) (Kd.R_types HO348.out BK353.out (by decide)) (fun _ hk => hk.2) (.int .i64 t345)) (fun _ hk => hk.2) (.slice Ao64 t346.length co64)) (fun _ hk => hk.2) (.slice Ao65 t349.length co65)) (fun _ hk => hk.2) (.int .i64 t352)) (fun _ h_ => h_.1)))); (case side4 => exact (Kd.zC HO348.out).2.1); (case side5 => refine (Kd.zC (e := 2) (base := w.heap.size) (ok := fun k_ => ((some k_ ≠ (.slice Ao64 t346.length co64 : Value).ownBlock ∧ some k_ ≠ (.slice Ao47 t331.length co47 : Value).ownBlock) ∧ some k_ ≠ (.slice Ao48 t334.length co48 : Value).ownBlock)) (n := t349.length) (c := co65) ?_).2.2; exact (by (with_reducible repeat (first | apply Kd.qM | apply Kd.qN | apply Kd.qO)); exact (Kd.zG (Kd.R_far (p := ⟨gb353, 3, none⟩) (Kd.R_far (p := ⟨gb353, 2, none⟩) (Kd.R_far (p := ⟨gb353, 1, none⟩) (Kd.R_far (p := ⟨gb353, 0, none⟩) (Kd.R_types HO351.out BK353.out (by decide)) (fun _ hk => hk.2) (.int .i64 t345)) (fun _ hk => hk.2) (.slice Ao64 t346.length co64)) (fun _ hk => hk.2) (.slice Ao65 t349.length co65)) (fun _ hk => hk.2) (.int .i64 t352)) (fun _ h_ => h_.1)))); (case side6 => exact (Kd.zC HO351.out).2.1); rintro e w67 ⟨v355, rfl, ho0, hb⟩; refine ⟨_, rfl, ?_⟩; have n0_ := qV.mk (Kd.S_elder' (by (with_reducible repeat (first | apply Kd.qP | apply Kd.qQ | apply Kd.qR)); exact (Kd.zH (Kd.S_far (p := ⟨gb353, 3, none⟩) (Kd.S_far (p := ⟨gb353, 2, none⟩) (Kd.S_far (p := ⟨gb353, 1, none⟩) (Kd.S_far (p := ⟨gb353, 0, none⟩) (Kd.S_types HO329.out BK353.out (by decide)) (fun _ hk => hk.2) (.int .i64 t345)) (fun _ hk => hk.2) (.slice Ao64 t346.length co64)) (fun _ hk => hk.2) (.slice Ao65 t349.length co65)) (fun _ hk => hk.2) (.int .i64 t352)) (fun _ h_ => h_.1))) (Kd.R_base ho0) hb); have n1_ := qV.mk (Kd.qY (by (with_reducible repeat (first | apply Kd.qM | apply Kd.qN | apply Kd.qO)); exact (Kd.zG (Kd.R_far (p := ⟨gb353, 3, none⟩) (Kd.R_far (p := ⟨gb353, 2, none⟩) (Kd.R_far (p := ⟨gb353, 1, none⟩) (Kd.R_far (p := ⟨gb353, 0, none⟩) (Kd.R_types HO333.out BK353.out (by decide)) (fun _ hk => hk.2) (.int .i64 t345)) (fun _ hk => hk.2) (.slice Ao64 t346.length co64)) (fun _ hk => hk.2) (.slice Ao65 t349.length co65)) (fun _ hk => hk.2) (.int .i64 t352)) (fun _ h_ => h_.1))) hb); have n2_ := qV.mk (Kd.qY (by (with_reducible repeat (first | apply Kd.qM | apply Kd.qN | apply Kd.qO)); exact (Kd.zG (Kd.R_far (p := ⟨gb353, 3, none⟩) (Kd.R_far (p := ⟨gb353, 2, none⟩) (Kd.R_far (p := ⟨gb353, 1, none⟩) (Kd.R_far (p := ⟨gb353, 0, none⟩) (Kd.R_types HO336.out BK353.out (by decide)) (fun _ hk => hk.2) (.int .i64 t345)) (fun _ hk => hk.2) (.slice Ao64 t346.length co64)) (fun _ hk => hk.2) (.slice Ao65 t349.length co65)) (fun _ hk => hk.2) (.int .i64 t352)) (fun _ h_ => h_.1))) hb); have n3_ := qV.mk (Kd.R_elder' (by (with_reducible repeat (first | apply Kd.qM | apply Kd.qN | apply Kd.qO)); exact (Kd.zG (Kd.R_far (p := ⟨gb353, 3, none⟩) (Kd.R_far (p := ⟨gb353, 2, none⟩) (Kd.R_far (p := ⟨gb353, 1, none⟩) (Kd.R_far (p := ⟨gb353, 0, none⟩) (Kd.R_types HO340.out BK353.out (by decide)) (fun _ hk => hk.2) (.int .i64 t345)) (fun _ hk => hk.2) (.slice Ao64 t346.length co64)) (fun _ hk => hk.2) (.slice Ao65 t349.length co65)) (fun _ hk => hk.2) (.int .i64 t352)) (fun _ h_ => h_.1))) (Kd.R_base ho0) hb); have n4_ := qV.mk (Kd.S_elder' (by (with_reducible repeat (first | apply Kd.qP | apply Kd.qQ | apply Kd.qR)); exact (Kd.zH (Kd.S_far (p := ⟨gb353, 3, none⟩) (Kd.S_far (p := ⟨gb353, 2, none⟩) (Kd.S_far (p := ⟨gb353, 1, none⟩) (Kd.S_far (p := ⟨gb353, 0, none⟩) (Kd.S_types HO343.out BK353.out (by decide)) (fun _ hk => hk.2) (.int .i64 t345)) (fun _ hk => hk.2) (.slice Ao64 t346.length co64)) (fun _ hk => hk.2) (.slice Ao65 t349.length co65)) (fun _ hk => hk.2) (.int .i64 t352)) (fun _ h_ => h_.1))) (Kd.R_base ho0) hb); have n5_ := qV.mk (Kd.qY (by (with_reducible repeat (first | apply Kd.qM | apply Kd.qN | apply Kd.qO)); exact (Kd.zG (Kd.R_far (p := ⟨gb353, 3, none⟩) (Kd.R_far (p := ⟨gb353, 2, none⟩) (Kd.R_far (p := ⟨gb353, 1, none⟩) (Kd.R_far (p := ⟨gb353, 0, none⟩) (Kd.R_types HO348.out BK353.out (by decide)) (fun _ hk => hk.2) (.int .i64 t345)) (fun _ hk => hk.2) (.slice Ao64 t346.length co64)) (fun _ hk => hk.2) (.slice Ao65 t349.length co65)) (fun _ hk => hk.2) (.int .i64 t352)) (fun _ h_ => h_.1))) hb); have n6_ := qV.mk (Kd.qY (by (with_reducible repeat (first | apply Kd.qM | apply Kd.qN | apply Kd.qO)); exact (Kd.zG (Kd.R_far (p := ⟨gb353, 3, none⟩) (Kd.R_far (p := ⟨gb353, 2, none⟩) (Kd.R_far (p := ⟨gb353, 1, none⟩) (Kd.R_far (p := ⟨gb353, 0, none⟩) (Kd.R_types HO351.out BK353.out (by decide)) (fun _ hk => hk.2) (.int .i64 t345)) (fun _ hk => hk.2) (.slice Ao64 t346.length co64)) (fun _ hk => hk.2) (.slice Ao65 t349.length co65)) (fun _ hk => hk.2) (.int .i64 t352)) (fun _ h_ => h_.1))) hb); have n7_ := qV.mk (Kd.R_lower (Kd.R_new' ho0 (Kd.R_lt (by (with_reducible repeat (first | apply Kd.qM | apply Kd.qN | apply Kd.qO)); exact (Kd.zG (Kd.R_far (p := ⟨gb353, 3, none⟩) (Kd.R_far (p := ⟨gb353, 2, none⟩) (Kd.R_far (p := ⟨gb353, 1, none⟩) (Kd.R_far (p := ⟨gb353, 0, none⟩) (Kd.R_types HO340.out BK353.out (by decide)) (fun _ hk => hk.2) (.int .i64 t345)) (fun _ hk => hk.2) (.slice Ao64 t346.length co64)) (fun _ hk => hk.2) (.slice Ao65 t349.length co65)) (fun _ hk => hk.2) (.int .i64 t352)) (fun _ h_ => h_.1))))) (qF (by repeat (first | (with_reducible first | exact HB.out | apply qA | apply qB | apply qC | refine qD ?_ GE323.out | refine qD ?_ GE324.out | refine qD ?_ GE344.out | refine qD ?_ GE353.out) | exact HB.out)))); have n8_ := qV.mk (qL (g := gb323) (o := .cells #[.slice A0_0 l0_0.length c0_0] 34 (0, 0)) (by (with_reducible repeat (first | refine qH ?_ _ | refine qI ?_ | refine qG ?_ _)); refine jO ?_ NB323_353.out _; (with_reducible repeat (first | refine qH ?_ _ | refine qI ?_ | refine qG ?_ _)); refine jO ?_ NB323_353.out _; (with_reducible repeat (first | refine qH ?_ _ | refine qI ?_ | refine qG ?_ _)); refine jO ?_ NB323_353.out _; (with_reducible repeat (first | refine qH ?_ _ | refine qI ?_ | refine qG ?_ _)); refine jO ?_ NB323_353.out _; (with_reducible repeat (first | refine qH ?_ _ | refine qI ?_ | refine qG ?_ _)); exact BK323.out) hb); have n9_ := qV.mk (qL (g := gb324) (o := .cells #[.int .i64 a1_0, .slice A1_1 l1_1.length c1_1, .slice A1_2 l1_2.length c1_2, .int .i64 a1_3] 61 (0, 0)) (by (with_reducible repeat (first | refine qH ?_ _ | refine qI ?_ | refine qG ?_ _)); refine jO ?_ NB324_353.out _; (with_reducible repeat (first | refine qH ?_ _ | refine qI ?_ | refine qG ?_ _)); refine jO ?_ NB324_353.out _; (with_reducible repeat (first | refine qH ?_ _ | refine qI ?_ | refine qG ?_ _)); refine jO ?_ NB324_353.out _; (with_reducible repeat (first | refine qH ?_ _ | refine qI ?_ | refine qG ?_ _)); refine jO ?_ NB324_353.out _; (with_reducible repeat (first | refine qH ?_ _ | refine qI ?_ | refine qG ?_ _)); exact BK324.out) hb); have n10_ := qV.mk (qL (g := gb344) (o := .cells #[.slice Ao53 t341.length co53] 39 (0, 0)) (by (with_reducible repeat (first | refine qH ?_ _ | refine qI ?_ | refine qG ?_ _)); refine jO ?_ NB344_353.out _; (with_reducible repeat (first | refine qH ?_ _ | refine qI ?_ | refine qG ?_ _)); refine jO ?_ NB344_353.out _; (with_reducible repeat (first | refine qH ?_ _ | refine qI ?_ | refine qG ?_ _)); refine jO ?_ NB344_353.out _; (with_reducible repeat (first | refine qH ?_ _ | refine qI ?_ | refine qG ?_ _)); refine jO ?_ NB344_353.out _; (with_reducible repeat (first | refine qH ?_ _ | refine qI ?_ | refine qG ?_ _)); exact BK344.out) hb); have n11_ := qV.mk (qL (g := gb353) (o := .cells #[.int .i64 t345, .slice Ao64 t346.length co64, .slice Ao65 t349.length co65, .int .i64 t352] 66 (0, 0)) (by (with_reducible repeat (first | refine qH ?_ _ | refine qI ?_ | refine qG ?_ _)); refine jQ (cs := #[.int .i64 t345, .slice Ao64 t346.length co64, .slice Ao65 t349.length co65, .int .i64 0]) ?_ 3 _ rfl; (with_reducible repeat (first | refine qH ?_ _ | refine qI ?_ | refine qG ?_ _)); refine jQ (cs := #[.int .i64 t345, .slice Ao64 t346.length co64, .slice none 0 0, .int .i64 0]) ?_ 2 _ rfl; (with_reducible repeat (first | refine qH ?_ _ | refine qI ?_ | refine qG ?_ _)); refine jQ (cs := #[.int .i64 t345, .slice none 0 0, .slice none 0 0, .int .i64 0]) ?_ 1 _ rfl; (with_reducible repeat (first | refine qH ?_ _ | refine qI ?_ | refine qG ?_ _)); refine jQ (cs := #[.int .i64 0, .slice none 0 0, .slice none 0 0, .int .i64 0]) ?_ 0 _ rfl; (with_reducible repeat (first | refine qH ?_ _ | refine qI ?_ | refine qG ?_ _)); exact BK353.out) hb); have n12_ := qV.mk (qE (by repeat (first | (with_reducible first | exact HB.out | apply qA | apply qB | apply qC | refine qD ?_ GE323.out | refine qD ?_ GE324.out | refine qD ?_ GE344.out | refine qD ?_ GE353.out) | exact HB.out)) hb); clear HO329 HO333 HO336 HO340 HO343 HO348 HO351 BK323 BK324 BK344 BK353 HB; have HO329 := n0_; have HO333 := n1_; have HO336 := n2_; have HO340 := n3_; have HO343 := n4_; have HO348 := n5_; have HO351 := n6_; have HO356 := n7_; have BK323 := n8_; have BK324 := n9_; have BK344 := n10_; have BK353 := n11_; have HB := n12_; clear n0_ n1_ n2_ n3_ n4_ n5_ n6_ n7_ n8_ n9_ n10_ n11_ n12_; (try clear hb); (try clear hb2); (try clear hk); (try clear hi); (try clear ho0); obtain ⟨Ao68, co68, eo68⟩ := Kd.zB HO356.out; subst eo68; obtain ⟨Ao69, co69, eo69⟩ := Kd.zB HO340.out; subst eo69) | ((with_reducible refine gate_callee (f := 47) rfl ?_); refine qW (some 38) rfl rfl Tryd.func47 (by kernel_rfl) rfl #[.slice Ao68 t354.length co68, .slice Ao69 t338.length co69] rfl (by (try simp only [List.map_toArray, List.map_cons, List.map_nil]); first | done | rfl) ?_; (with_reducible refine (jB.calls k _ _ t354 _ _ t338 true _ ?side1 ?side2 ?side3 ?side4 A25.out).mono ?_); (case side1 => repeat (first | exact (Kd.zC HO356.out).2.2 | (with_reducible refine Kd.qS ?_ _) | (with_reducible refine Kd.qT ?_ _) | (with_reducible refine Kd.qU ?_))); (case side2 => exact (Kd.zC HO356.out).2.1); (case side3 => repeat (first | exact (Kd.zC HO340.out).2.2 | (with_reducible refine Kd.qS ?_ _) | (with_reducible refine Kd.qT ?_ _) | (with_reducible refine Kd.qU ?_))); (case side4 => exact (Kd.zC HO340.out).2.1); rintro e w70 ⟨rfl, hb⟩; refine ⟨_, rfl, ?_⟩; have n0_ := qV.mk (Kd.qZ (by (with_reducible repeat (first | apply Kd.qP | apply Kd.qQ | apply Kd.qR)); exact HO329.out) hb); have n1_ := qV.mk (Kd.qY (by (with_reducible repeat (first | apply Kd.qM | apply Kd.qN | apply Kd.qO)); exact HO333.out) hb); have n2_ := qV.mk (Kd.qY (by (with_reducible repeat (first | apply Kd.qM | apply Kd.qN | apply Kd.qO)); exact HO336.out) hb); have n3_ := qV.mk (Kd.qY (by (with_reducible repeat (first | apply Kd.qM | apply Kd.qN | apply Kd.qO)); exact HO340.out) hb); have n4_ := qV.mk (Kd.qZ (by (with_reducible repeat (first | apply Kd.qP | apply Kd.qQ | apply Kd.qR)); exact HO343.out) hb); have n5_ := qV.mk (Kd.qY (by (with_reducible repeat (first | apply Kd.qM | apply Kd.qN | apply Kd.qO)); exact HO348.out) hb); have n6_ := qV.mk (Kd.qY (by (with_reducible repeat (first | apply Kd.qM | apply Kd.qN | apply Kd.qO)); exact HO351.out) hb); have n7_ := qV.mk (Kd.qY (by (with_reducible repeat (first | apply Kd.qM | apply Kd.qN | apply Kd.qO)); exact HO356.out) hb); have n8_ := qV.mk (qL (g := gb323) (o := .cells #[.slice A0_0 l0_0.length c0_0] 34 (0, 0)) (by (with_reducible repeat (first | refine qH ?_ _ | refine qI ?_ | refine qG ?_ _)); exact BK323.out) hb); have n9_ := qV.mk (qL (g := gb324) (o := .cells #[.int .i64 a1_0, .slice A1_1 l1_1.length c1_1, .slice A1_2 l1_2.length c1_2, .int .i64 a1_3] 61 (0, 0)) (by (with_reducible repeat (first | refine qH ?_ _ | refine qI ?_ | refine qG ?_ _)); exact BK324.out) hb); have n10_ := qV.mk (qL (g := gb344) (o := .cells #[.slice Ao53 t341.length co53] 39 (0, 0)) (by (with_reducible repeat (first | refine qH ?_ _ | refine qI ?_ | refine qG ?_ _)); exact BK344.out) hb); have n11_ := qV.mk (qL (g := gb353) (o := .cells #[.int .i64 t345, .slice Ao64 t346.length co64, .slice Ao65 t349.length co65, .int .i64 t352] 66 (0, 0)) (by (with_reducible repeat (first | refine qH ?_ _ | refine qI ?_ | refine qG ?_ _)); exact BK353.out) hb); have n12_ := qV.mk (qE (by repeat (first | (with_reducible first | exact HB.out | apply qA | apply qB | apply qC | refine qD ?_ GE323.out | refine qD ?_ GE324.out | refine qD ?_ GE344.out | refine qD ?_ GE353.out) | exact HB.out)) hb); clear HO329 HO333 HO336 HO340 HO343 HO348 HO351 HO356 BK323 BK324 BK344 BK353 HB; have HO329 := n0_; have HO333 := n1_; have HO336 := n2_; have HO340 := n3_; have HO343 := n4_; have HO348 := n5_; have HO351 := n6_; have HO356 := n7_; have BK323 := n8_; have BK324 := n9_; have BK344 := n10_; have BK353 := n11_; have HB := n12_; clear n0_ n1_ n2_ n3_ n4_ n5_ n6_ n7_ n8_ n9_ n10_ n11_ n12_; (try clear hb); (try clear hb2); (try clear hk); (try clear hi)))
      have n0_ := qV.mk (Kd.qR HO329.out)
      have n1_ := qV.mk (Kd.qO HO333.out)
      have n2_ := qV.mk (Kd.qO HO336.out)
      have n3_ := qV.mk (Kd.qO HO340.out)
      have n4_ := qV.mk (Kd.qR HO343.out)
      have n5_ := qV.mk (Kd.qO HO348.out)
      have n6_ := qV.mk (Kd.qO HO351.out)
      have n7_ := qV.mk (Kd.qO HO356.out)
      have n8_ := qV.mk (qI BK323.out)
      have n9_ := qV.mk (qI BK324.out)
      have n10_ := qV.mk (qI BK344.out)
      have n11_ := qV.mk (qI BK353.out)
      have n12_ := qV.mk (qC HB.out)
      clear HO329 HO333 HO336 HO340 HO343 HO348 HO351 HO356 BK323 BK324 BK344 BK353 HB
      have HO329 := n0_
      have HO333 := n1_
      have HO336 := n2_
      have HO340 := n3_
      have HO343 := n4_
      have HO348 := n5_
      have HO351 := n6_
      have HO356 := n7_
      have BK323 := n8_
      have BK324 := n9_
      have BK344 := n10_
      have BK353 := n11_
      have HB := n12_
      clear n0_ n1_ n2_ n3_ n4_ n5_ n6_ n7_ n8_ n9_ n10_ n11_ n12_
      refine start_ (n := 5) (S := fun w' => w'.cell? ⟨gb344, 0, none⟩ = some (.slice Ao53 t341.length co53) ∧ w'.cell? ⟨gb323, 0, none⟩ = some (.slice A0_0 l0_0.length c0_0)) (ds := []) #[false, false, false, false, false] (by kernel_rfl) rfl rfl ⟨(qJ BK344.out 0).trans rfl, (qJ BK323.out 0).trans rfl⟩ (fun hHeld => ?_)
      generalize w70.drew = w71 at HO329 HO333 HO336 HO340 HO343 HO348 HO351 HO356 BK323 BK324 BK344 BK353 HB hHeld ⊢
      refine take_ (i := 0) (N := some 40) (v := ?_) (a' := ?_) #[true, false, false, false, false] rfl rfl (by kernel_rfl) (fun _ _ _ h => h) (Or.inl ⟨by rfl, ?_⟩) hHeld ?_ ?_
      rotate_left
      ·rintro w' ⟨s0, s1⟩
       go_simp
       with_reducible rfl
      rotate_left
      ·simp only [Act.put, List.setIfInBounds_toArray, List.set_cons_zero, List.set_cons_succ, i64_w, i32_w]
       rfl
      refine take_ (i := 1) (N := some 41) (v := ?_) (a' := ?_) #[true, true, false, false, false] rfl rfl (by kernel_rfl) (fun _ _ _ h => h) (Or.inl ⟨by rfl, ?_⟩) hHeld ?_ ?_
      rotate_left
      ·rintro w' ⟨s0, s1⟩
       go_simp
       with_reducible rfl
      rotate_left
      ·simp only [Act.put, List.setIfInBounds_toArray, List.set_cons_zero, List.set_cons_succ, i64_w, i32_w]
       rfl
      refine one_ (i := 2) (N := some 42) #[true, true, true, false, false] rfl rfl (by kernel_rfl) (by decide) (fun K hK => ?_)
      refine goes_ Tryd.func24 (by kernel_rfl) rfl #[.agg #[.slice A0_0 l0_0.length c0_0]] (by rfl) rfl rfl (by (try simp only [List.map_toArray, List.map_cons, List.map_nil]); first | done | rfl) ?_
      with_reducible refine (laws_toHeap.calls k _ _ l0_0 t358 _ ?side1 ?side2 A27.out).mono ?_
      (case side1 => repeat (first | exact (Kd.zA HR0_0.out HB.out) | (with_reducible refine Kd.qS ?_ _) | (with_reducible refine Kd.qT ?_ _) | (with_reducible refine Kd.qU ?_)))
      (case side2 => exact HC0_0.out)
      rintro e w72 ⟨v359, rfl, ho0, hb⟩
      refine ⟨_, rfl, ?_⟩
      have n0_ := qV.mk (Kd.S_elder' (by (with_reducible repeat (first | apply Kd.qP | apply Kd.qQ | apply Kd.qR)); exact HO329.out) (Kd.S_base ho0) hb)
      have n1_ := qV.mk (Kd.qY (by (with_reducible repeat (first | apply Kd.qM | apply Kd.qN | apply Kd.qO)); exact HO333.out) hb)
      have n2_ := qV.mk (Kd.qY (by (with_reducible repeat (first | apply Kd.qM | apply Kd.qN | apply Kd.qO)); exact HO336.out) hb)
      have n3_ := qV.mk (Kd.qY (by (with_reducible repeat (first | apply Kd.qM | apply Kd.qN | apply Kd.qO)); exact HO340.out) hb)
      have n4_ := qV.mk (Kd.S_elder' (by (with_reducible repeat (first | apply Kd.qP | apply Kd.qQ | apply Kd.qR)); exact HO343.out) (Kd.S_base ho0) hb)
      have n5_ := qV.mk (Kd.qY (by (with_reducible repeat (first | apply Kd.qM | apply Kd.qN | apply Kd.qO)); exact HO348.out) hb)
      have n6_ := qV.mk (Kd.qY (by (with_reducible repeat (first | apply Kd.qM | apply Kd.qN | apply Kd.qO)); exact HO351.out) hb)
      have n7_ := qV.mk (Kd.qY (by (with_reducible repeat (first | apply Kd.qM | apply Kd.qN | apply Kd.qO)); exact HO356.out) hb)
      have n8_ := qV.mk (Kd.S_lower (Kd.S_new' (Kd.S_new' (Kd.S_new' (Kd.S_new' ho0 (Kd.S_lt (by (with_reducible repeat (first | apply Kd.qP | apply Kd.qQ | apply Kd.qR)); exact HO329.out))) (Kd.R_lt (by (with_reducible repeat (first | apply Kd.qM | apply Kd.qN | apply Kd.qO)); exact HO340.out))) (Kd.S_lt (by (with_reducible repeat (first | apply Kd.qP | apply Kd.qQ | apply Kd.qR)); exact HO343.out))) (Kd.R_lt (by (with_reducible repeat (first | apply Kd.qM | apply Kd.qN | apply Kd.qO)); exact HO356.out))) (qF (by repeat (first | (with_reducible first | exact HB.out | apply qA | apply qB | apply qC | refine qD ?_ GE323.out | refine qD ?_ GE324.out | refine qD ?_ GE344.out | refine qD ?_ GE353.out) | exact HB.out))))
      have n9_ := qV.mk (qL (g := gb323) (o := .cells #[.slice A0_0 l0_0.length c0_0] 34 (0, 0)) (by (with_reducible repeat (first | refine qH ?_ _ | refine qI ?_ | refine qG ?_ _)); exact BK323.out) hb)
      have n10_ := qV.mk (qL (g := gb324) (o := .cells #[.int .i64 a1_0, .slice A1_1 l1_1.length c1_1, .slice A1_2 l1_2.length c1_2, .int .i64 a1_3] 61 (0, 0)) (by (with_reducible repeat (first | refine qH ?_ _ | refine qI ?_ | refine qG ?_ _)); exact BK324.out) hb)
      have n11_ := qV.mk (qL (g := gb344) (o := .cells #[.slice Ao53 t341.length co53] 39 (0, 0)) (by (with_reducible repeat (first | refine qH ?_ _ | refine qI ?_ | refine qG ?_ _)); exact BK344.out) hb)
      have n12_ := qV.mk (qL (g := gb353) (o := .cells #[.int .i64 t345, .slice Ao64 t346.length co64, .slice Ao65 t349.length co65, .int .i64 t352] 66 (0, 0)) (by (with_reducible repeat (first | refine qH ?_ _ | refine qI ?_ | refine qG ?_ _)); exact BK353.out) hb)
      have n13_ := qV.mk (qE (by repeat (first | (with_reducible first | exact HB.out | apply qA | apply qB | apply qC | refine qD ?_ GE323.out | refine qD ?_ GE324.out | refine qD ?_ GE344.out | refine qD ?_ GE353.out) | exact HB.out)) hb)
      clear HO329 HO333 HO336 HO340 HO343 HO348 HO351 HO356 BK323 BK324 BK344 BK353 HB
      have HO329 := n0_
      have HO333 := n1_
      have HO336 := n2_
      have HO340 := n3_
      have HO343 := n4_
      have HO348 := n5_
      have HO351 := n6_
      have HO356 := n7_
      have HO360 := n8_
      have BK323 := n9_
      have BK324 := n10_
      have BK344 := n11_
      have BK353 := n12_
      have HB := n13_
      clear n0_ n1_ n2_ n3_ n4_ n5_ n6_ n7_ n8_ n9_ n10_ n11_ n12_ n13_
      (try clear hb)
      (try clear hb2)
      (try clear hk)
      (try clear hi)
      (try clear ho0)
      obtain ⟨Ao73, co73, eo73⟩ := Kd.S_slice HO360.out
      (first | subst eo73 | (injection eo73 with f1_ f2_ f3_; have f4_ := f1_.symm; have f5_ := f3_.symm; clear f1_ f2_ f3_; subst f4_; subst f5_))
      refine hK.out _ _ ⟨(qJ BK344.out 0).trans rfl, (qJ BK323.out 0).trans rfl⟩ (fun hHeld => ?_)
      clear hK K
      refine norm_ (a' := ?_) ?_ ?_
      rotate_left
      ·show Act.put _ (some 42) _ = _
       simp only [Act.put, List.setIfInBounds_toArray, List.set_cons_zero, List.set_cons_succ, i64_w, i32_w]
       rfl
      refine one_ (i := 3) (N := some 43) #[true, true, true, true, false] rfl rfl (by kernel_rfl) (by decide) (fun K hK => ?_)
      refine goes_ Tryd.func26 (by kernel_rfl) rfl #[.agg #[.slice Ao53 t341.length co53], .agg #[.slice Ao73 t358.length co73]] (by rfl) rfl rfl (by (try simp only [List.map_toArray, List.map_cons, List.map_nil]); first | done | rfl) ?_
      with_reducible refine (laws_eqHeap.calls k _ _ t341 _ _ t358 true _ ?side1 ?side2 ?side3 ?side4 A28.out).mono ?_
      (case side1 => repeat (first | exact (Kd.zD HO343.out).2.2 | (with_reducible refine Kd.qS ?_ _) | (with_reducible refine Kd.qT ?_ _) | (with_reducible refine Kd.qU ?_)))
      (case side2 => exact (Kd.zD HO343.out).2.1)
      (case side3 => repeat (first | exact (Kd.zD HO360.out).2.2 | (with_reducible refine Kd.qS ?_ _) | (with_reducible refine Kd.qT ?_ _) | (with_reducible refine Kd.qU ?_)))
      (case side4 => exact (Kd.zD HO360.out).2.1)
      rintro e w74 ⟨rfl, hb⟩
      refine ⟨_, rfl, ?_⟩
      have n0_ := qV.mk (Kd.qZ (by (with_reducible repeat (first | apply Kd.qP | apply Kd.qQ | apply Kd.qR)); exact HO329.out) hb)
      have n1_ := qV.mk (Kd.qY (by (with_reducible repeat (first | apply Kd.qM | apply Kd.qN | apply Kd.qO)); exact HO333.out) hb)
      have n2_ := qV.mk (Kd.qY (by (with_reducible repeat (first | apply Kd.qM | apply Kd.qN | apply Kd.qO)); exact HO336.out) hb)
      have n3_ := qV.mk (Kd.qY (by (with_reducible repeat (first | apply Kd.qM | apply Kd.qN | apply Kd.qO)); exact HO340.out) hb)
      have n4_ := qV.mk (Kd.qZ (by (with_reducible repeat (first | apply Kd.qP | apply Kd.qQ | apply Kd.qR)); exact HO343.out) hb)
      have n5_ := qV.mk (Kd.qY (by (with_reducible repeat (first | apply Kd.qM | apply Kd.qN | apply Kd.qO)); exact HO348.out) hb)
      have n6_ := qV.mk (Kd.qY (by (with_reducible repeat (first | apply Kd.qM | apply Kd.qN | apply Kd.qO)); exact HO351.out) hb)
      have n7_ := qV.mk (Kd.qY (by (with_reducible repeat (first | apply Kd.qM | apply Kd.qN | apply Kd.qO)); exact HO356.out) hb)
      have n8_ := qV.mk (Kd.qZ (by (with_reducible repeat (first | apply Kd.qP | apply Kd.qQ | apply Kd.qR)); exact HO360.out) hb)
      have n9_ := qV.mk (qL (g := gb323) (o := .cells #[.slice A0_0 l0_0.length c0_0] 34 (0, 0)) (by (with_reducible repeat (first | refine qH ?_ _ | refine qI ?_ | refine qG ?_ _)); exact BK323.out) hb)
      have n10_ := qV.mk (qL (g := gb324) (o := .cells #[.int .i64 a1_0, .slice A1_1 l1_1.length c1_1, .slice A1_2 l1_2.length c1_2, .int .i64 a1_3] 61 (0, 0)) (by (with_reducible repeat (first | refine qH ?_ _ | refine qI ?_ | refine qG ?_ _)); exact BK324.out) hb)
      have n11_ := qV.mk (qL (g := gb344) (o := .cells #[.slice Ao53 t341.length co53] 39 (0, 0)) (by (with_reducible repeat (first | refine qH ?_ _ | refine qI ?_ | refine qG ?_ _)); exact BK344.out) hb)
      have n12_ := qV.mk (qL (g := gb353) (o := .cells #[.int .i64 t345, .slice Ao64 t346.length co64, .slice Ao65 t349.length co65, .int .i64 t352] 66 (0, 0)) (by (with_reducible repeat (first | refine qH ?_ _ | refine qI ?_ | refine qG ?_ _)); exact BK353.out) hb)
      have n13_ := qV.mk (qE (by repeat (first | (with_reducible first | exact HB.out | apply qA | apply qB | apply qC | refine qD ?_ GE323.out | refine qD ?_ GE324.out | refine qD ?_ GE344.out | refine qD ?_ GE353.out) | exact HB.out)) hb)
      clear HO329 HO333 HO336 HO340 HO343 HO348 HO351 HO356 HO360 BK323 BK324 BK344 BK353 HB
      have HO329 := n0_
      have HO333 := n1_
      have HO336 := n2_
      have HO340 := n3_
      have HO343 := n4_
      have HO348 := n5_
      have HO351 := n6_
      have HO356 := n7_
      have HO360 := n8_
      have BK323 := n9_
      have BK324 := n10_
      have BK344 := n11_
      have BK353 := n12_
      have HB := n13_
      clear n0_ n1_ n2_ n3_ n4_ n5_ n6_ n7_ n8_ n9_ n10_ n11_ n12_ n13_
      (try clear hb)
      (try clear hb2)
      (try clear hk)
      (try clear hi)
      refine hK.out _ _ ⟨(qJ BK344.out 0).trans rfl, (qJ BK323.out 0).trans rfl⟩ (fun hHeld => ?_)
      clear hK K
      refine norm_ (a' := ?_) ?_ ?_
      rotate_left
      ·show Act.put _ (some 43) _ = _
       simp only [Act.put, List.setIfInBounds_toArray, List.set_cons_zero, List.set_cons_succ, i64_w, i32_w]
       rfl
      refine pure_ (i := 4) (N := some 44) (v := ?_) (a' := ?_) #[true, true, true, true, true] rfl rfl (by kernel_rfl) (fun _ _ _ h => h) (Or.inl ⟨by rfl, ?_⟩) ?_ ?_
      rotate_left
      ·intro w'
       go_simp
       with_reducible rfl
      rotate_left
      ·simp only [Act.put, List.setIfInBounds_toArray, List.set_cons_zero, List.set_cons_succ, i64_w, i32_w]
       rfl
      refine done_ (by kernel_rfl) ?_
      try go_wp2
      have n0_ := qV.mk (Kd.qR HO329.out)
      have n1_ := qV.mk (Kd.qO HO333.out)
      have n2_ := qV.mk (Kd.qO HO336.out)
      have n3_ := qV.mk (Kd.qO HO340.out)
      have n4_ := qV.mk (Kd.qR HO343.out)
      have n5_ := qV.mk (Kd.qO HO348.out)
      have n6_ := qV.mk (Kd.qO HO351.out)
      have n7_ := qV.mk (Kd.qO HO356.out)
      have n8_ := qV.mk (Kd.qR HO360.out)
      have n9_ := qV.mk (qI BK323.out)
      have n10_ := qV.mk (qI BK324.out)
      have n11_ := qV.mk (qI BK344.out)
      have n12_ := qV.mk (qI BK353.out)
      have n13_ := qV.mk (qC HB.out)
      clear HO329 HO333 HO336 HO340 HO343 HO348 HO351 HO356 HO360 BK323 BK324 BK344 BK353 HB
      have HO329 := n0_
      have HO333 := n1_
      have HO336 := n2_
      have HO340 := n3_
      have HO343 := n4_
      have HO348 := n5_
      have HO351 := n6_
      have HO356 := n7_
      have HO360 := n8_
      have BK323 := n9_
      have BK324 := n10_
      have BK344 := n11_
      have BK353 := n12_
      have HB := n13_
      clear n0_ n1_ n2_ n3_ n4_ n5_ n6_ n7_ n8_ n9_ n10_ n11_ n12_ n13_
      refine start_ (n := 5) (S := fun w' => w'.cell? ⟨gb353, 0, none⟩ = some (.int .i64 t345) ∧ w'.cell? ⟨gb353, 1, none⟩ = some (.slice Ao64 t346.length co64) ∧ w'.cell? ⟨gb353, 2, none⟩ = some (.slice Ao65 t349.length co65) ∧ w'.cell? ⟨gb353, 3, none⟩ = some (.int .i64 t352) ∧ w'.cell? ⟨gb324, 0, none⟩ = some (.int .i64 a1_0) ∧ w'.cell? ⟨gb324, 1, none⟩ = some (.slice A1_1 l1_1.length c1_1) ∧ w'.cell? ⟨gb324, 2, none⟩ = some (.slice A1_2 l1_2.length c1_2) ∧ w'.cell? ⟨gb324, 3, none⟩ = some (.int .i64 a1_3)) (ds := []) #[false, false, false, false, false] (by kernel_rfl) rfl rfl ⟨(qJ BK353.out 0).trans rfl, (qJ BK353.out 1).trans rfl, (qJ BK353.out 2).trans rfl, (qJ BK353.out 3).trans rfl, (qJ BK324.out 0).trans rfl, (qJ BK324.out 1).trans rfl, (qJ BK324.out 2).trans rfl, (qJ BK324.out 3).trans rfl⟩ (fun hHeld => ?_)
      generalize w74.drew = w75 at HO329 HO333 HO336 HO340 HO343 HO348 HO351 HO356 HO360 BK323 BK324 BK344 BK353 HB hHeld ⊢
      refine take_ (i := 0) (N := some 45) (v := ?_) (a' := ?_) #[true, false, false, false, false] rfl rfl (by kernel_rfl) (fun _ _ _ h => h) (Or.inl ⟨by rfl, ?_⟩) hHeld ?_ ?_
      rotate_left
      ·rintro w' ⟨s0, s1, s2, s3, s4, s5, s6, s7⟩
       go_simp
       with_reducible rfl
      rotate_left
      ·simp only [Act.put, List.setIfInBounds_toArray, List.set_cons_zero, List.set_cons_succ, i64_w, i32_w]
       rfl
      refine take_ (i := 1) (N := some 46) (v := ?_) (a' := ?_) #[true, true, false, false, false] rfl rfl (by kernel_rfl) (fun _ _ _ h => h) (Or.inl ⟨by rfl, ?_⟩) hHeld ?_ ?_
      rotate_left
      ·rintro w' ⟨s0, s1, s2, s3, s4, s5, s6, s7⟩
       go_simp
       with_reducible rfl
      rotate_left
      ·simp only [Act.put, List.setIfInBounds_toArray, List.set_cons_zero, List.set_cons_succ, i64_w, i32_w]
       rfl
      refine one_ (i := 2) (N := some 47) #[true, true, true, false, false] rfl rfl (by kernel_rfl) (by decide) (fun K hK => ?_)
      refine goes_ Tryd.func37 (by kernel_rfl) rfl #[.agg #[.int .i64 a1_0, .slice A1_1 l1_1.length c1_1, .slice A1_2 l1_2.length c1_2, .int .i64 a1_3]] (by rfl) rfl rfl (by (try simp only [List.map_toArray, List.map_cons, List.map_nil]); first | done | rfl) ?_
      with_reducible refine (laws_toArray.calls k a1_0 _ _ l1_1 _ _ l1_2 a1_3 t362 t363 t366 t369 _ ?side1 ?side2 ?side3 ?side4 A30.out).mono ?_
      (case side1 => repeat (first | exact (Kd.zA HR1_1.out HB.out) | (with_reducible refine Kd.qS ?_ _) | (with_reducible refine Kd.qT ?_ _) | (with_reducible refine Kd.qU ?_)))
      (case side2 => exact HC1_1.out)
      (case side3 => repeat (first | exact (Kd.zA HR1_2.out HB.out) | (with_reducible refine Kd.qS ?_ _) | (with_reducible refine Kd.qT ?_ _) | (with_reducible refine Kd.qU ?_)))
      (case side4 => exact HC1_2.out)
      rintro e w76 ⟨v364, v367, rfl, ho0, ho1, hb⟩
      refine ⟨_, rfl, ?_⟩
      have n0_ := qV.mk (Kd.qZ (by (with_reducible repeat (first | apply Kd.qP | apply Kd.qQ | apply Kd.qR)); exact HO329.out) hb)
      have n1_ := qV.mk (Kd.zG (Kd.R_told (Kd.R_told (Kd.R_old (by (with_reducible repeat (first | apply Kd.qM | apply Kd.qN | apply Kd.qO)); exact HO333.out) hb) (Kd.R_base ho0)) (Kd.R_base ho1)) (fun _ h_ => h_.1))
      have n2_ := qV.mk (Kd.zG (Kd.R_told (Kd.R_told (Kd.R_old (by (with_reducible repeat (first | apply Kd.qM | apply Kd.qN | apply Kd.qO)); exact HO336.out) hb) (Kd.R_base ho0)) (Kd.R_base ho1)) (fun _ h_ => h_.1))
      have n3_ := qV.mk (Kd.qY (by (with_reducible repeat (first | apply Kd.qM | apply Kd.qN | apply Kd.qO)); exact HO340.out) hb)
      have n4_ := qV.mk (Kd.qZ (by (with_reducible repeat (first | apply Kd.qP | apply Kd.qQ | apply Kd.qR)); exact HO343.out) hb)
      have n5_ := qV.mk (Kd.zG (Kd.R_told (Kd.R_told (Kd.R_old (by (with_reducible repeat (first | apply Kd.qM | apply Kd.qN | apply Kd.qO)); exact HO348.out) hb) (Kd.R_base ho0)) (Kd.R_base ho1)) (fun _ h_ => h_.1))
      have n6_ := qV.mk (Kd.zG (Kd.R_told (Kd.R_told (Kd.R_old (by (with_reducible repeat (first | apply Kd.qM | apply Kd.qN | apply Kd.qO)); exact HO351.out) hb) (Kd.R_base ho0)) (Kd.R_base ho1)) (fun _ h_ => h_.1))
      have n7_ := qV.mk (Kd.qY (by (with_reducible repeat (first | apply Kd.qM | apply Kd.qN | apply Kd.qO)); exact HO356.out) hb)
      have n8_ := qV.mk (Kd.qZ (by (with_reducible repeat (first | apply Kd.qP | apply Kd.qQ | apply Kd.qR)); exact HO360.out) hb)
      have n9_ := qV.mk (Kd.R_lower (Kd.R_new' (Kd.R_new' (Kd.R_new' (Kd.R_new' ho0 (Kd.R_lt (by (with_reducible repeat (first | apply Kd.qM | apply Kd.qN | apply Kd.qO)); exact HO333.out))) (Kd.R_lt (by (with_reducible repeat (first | apply Kd.qM | apply Kd.qN | apply Kd.qO)); exact HO336.out))) (Kd.R_lt (by (with_reducible repeat (first | apply Kd.qM | apply Kd.qN | apply Kd.qO)); exact HO348.out))) (Kd.R_lt (by (with_reducible repeat (first | apply Kd.qM | apply Kd.qN | apply Kd.qO)); exact HO351.out))) (qF (by repeat (first | (with_reducible first | exact HB.out | apply qA | apply qB | apply qC | refine qD ?_ GE323.out | refine qD ?_ GE324.out | refine qD ?_ GE344.out | refine qD ?_ GE353.out) | exact HB.out))))
      have n10_ := qV.mk (Kd.R_lower (Kd.R_new' (Kd.R_new' (Kd.R_new' (Kd.R_new' ho1 (Kd.R_lt (by (with_reducible repeat (first | apply Kd.qM | apply Kd.qN | apply Kd.qO)); exact HO333.out))) (Kd.R_lt (by (with_reducible repeat (first | apply Kd.qM | apply Kd.qN | apply Kd.qO)); exact HO336.out))) (Kd.R_lt (by (with_reducible repeat (first | apply Kd.qM | apply Kd.qN | apply Kd.qO)); exact HO348.out))) (Kd.R_lt (by (with_reducible repeat (first | apply Kd.qM | apply Kd.qN | apply Kd.qO)); exact HO351.out))) (qF (by repeat (first | (with_reducible first | exact HB.out | apply qA | apply qB | apply qC | refine qD ?_ GE323.out | refine qD ?_ GE324.out | refine qD ?_ GE344.out | refine qD ?_ GE353.out) | exact HB.out))))
      have n11_ := qV.mk (qL (g := gb323) (o := .cells #[.slice A0_0 l0_0.length c0_0] 34 (0, 0)) (by (with_reducible repeat (first | refine qH ?_ _ | refine qI ?_ | refine qG ?_ _)); exact BK323.out) hb)
      have n12_ := qV.mk (qL (g := gb324) (o := .cells #[.int .i64 a1_0, .slice A1_1 l1_1.length c1_1, .slice A1_2 l1_2.length c1_2, .int .i64 a1_3] 61 (0, 0)) (by (with_reducible repeat (first | refine qH ?_ _ | refine qI ?_ | refine qG ?_ _)); exact BK324.out) hb)
      have n13_ := qV.mk (qL (g := gb344) (o := .cells #[.slice Ao53 t341.length co53] 39 (0, 0)) (by (with_reducible repeat (first | refine qH ?_ _ | refine qI ?_ | refine qG ?_ _)); exact BK344.out) hb)
      have n14_ := qV.mk (qL (g := gb353) (o := .cells #[.int .i64 t345, .slice Ao64 t346.length co64, .slice Ao65 t349.length co65, .int .i64 t352] 66 (0, 0)) (by (with_reducible repeat (first | refine qH ?_ _ | refine qI ?_ | refine qG ?_ _)); exact BK353.out) hb)
      have n15_ := qV.mk (qE (by repeat (first | (with_reducible first | exact HB.out | apply qA | apply qB | apply qC | refine qD ?_ GE323.out | refine qD ?_ GE324.out | refine qD ?_ GE344.out | refine qD ?_ GE353.out) | exact HB.out)) hb)
      clear HO329 HO333 HO336 HO340 HO343 HO348 HO351 HO356 HO360 BK323 BK324 BK344 BK353 HB
      have HO329 := n0_
      have HO333 := n1_
      have HO336 := n2_
      have HO340 := n3_
      have HO343 := n4_
      have HO348 := n5_
      have HO351 := n6_
      have HO356 := n7_
      have HO360 := n8_
      have HO365 := n9_
      have HO368 := n10_
      have BK323 := n11_
      have BK324 := n12_
      have BK344 := n13_
      have BK353 := n14_
      have HB := n15_
      clear n0_ n1_ n2_ n3_ n4_ n5_ n6_ n7_ n8_ n9_ n10_ n11_ n12_ n13_ n14_ n15_
      (try clear hb)
      (try clear hb2)
      (try clear hk)
      (try clear hi)
      (try clear ho0)
      (try clear ho1)
      obtain ⟨Ao77, co77, eo77⟩ := Kd.zB HO365.out
      (first | subst eo77 | (injection eo77 with f1_ f2_ f3_; have f4_ := f1_.symm; have f5_ := f3_.symm; clear f1_ f2_ f3_; subst f4_; subst f5_))
      obtain ⟨Ao78, co78, eo78⟩ := Kd.zB HO368.out
      (first | subst eo78 | (injection eo78 with f1_ f2_ f3_; have f4_ := f1_.symm; have f5_ := f3_.symm; clear f1_ f2_ f3_; subst f4_; subst f5_))
      refine hK.out _ _ ⟨(qJ BK353.out 0).trans rfl, (qJ BK353.out 1).trans rfl, (qJ BK353.out 2).trans rfl, (qJ BK353.out 3).trans rfl, (qJ BK324.out 0).trans rfl, (qJ BK324.out 1).trans rfl, (qJ BK324.out 2).trans rfl, (qJ BK324.out 3).trans rfl⟩ (fun hHeld => ?_)
      clear hK K
      refine norm_ (a' := ?_) ?_ ?_
      rotate_left
      ·show Act.put _ (some 47) _ = _
       simp only [Act.put, List.setIfInBounds_toArray, List.set_cons_zero, List.set_cons_succ, i64_w, i32_w]
       rfl
      refine one_ (i := 3) (N := some 48) #[true, true, true, true, false] rfl rfl (by kernel_rfl) (by decide) (fun K hK => ?_)
      refine goes_ Tryd.func39 (by kernel_rfl) rfl #[.agg #[.int .i64 t345, .slice Ao64 t346.length co64, .slice Ao65 t349.length co65, .int .i64 t352], .agg #[.int .i64 t362, .slice Ao77 t363.length co77, .slice Ao78 t366.length co78, .int .i64 t369]] (by rfl) rfl rfl (by (try simp only [List.map_toArray, List.map_cons, List.map_nil]); first | done | rfl) ?_
      with_reducible refine (laws_eqArray.calls k t345 _ _ t346 _ _ t349 t352 t362 _ _ t363 _ _ t366 t369 true _ ?side1 ?side2 ?side3 ?side4 ?side5 ?side6 ?side7 ?side8 A31.out).mono ?_
      (case side1 => repeat (first | exact (Kd.zC HO348.out).2.2 | (with_reducible refine Kd.qS ?_ _) | (with_reducible refine Kd.qT ?_ _) | (with_reducible refine Kd.qU ?_)))
      (case side2 => exact (Kd.zC HO348.out).2.1)
      (case side3 => repeat (first | exact (Kd.zC HO351.out).2.2 | (with_reducible refine Kd.qS ?_ _) | (with_reducible refine Kd.qT ?_ _) | (with_reducible refine Kd.qU ?_)))
      (case side4 => exact (Kd.zC HO351.out).2.1)
      (case side5 => repeat (first | exact (Kd.zC HO365.out).2.2 | (with_reducible refine Kd.qS ?_ _) | (with_reducible refine Kd.qT ?_ _) | (with_reducible refine Kd.qU ?_)))
      (case side6 => exact (Kd.zC HO365.out).2.1)
      (case side7 => repeat (first | exact (Kd.zC HO368.out).2.2 | (with_reducible refine Kd.qS ?_ _) | (with_reducible refine Kd.qT ?_ _) | (with_reducible refine Kd.qU ?_)))
      (case side8 => exact (Kd.zC HO368.out).2.1)
      rintro e w79 ⟨rfl, hb⟩
      refine ⟨_, rfl, ?_⟩
      have n0_ := qV.mk (Kd.qZ (by (with_reducible repeat (first | apply Kd.qP | apply Kd.qQ | apply Kd.qR)); exact HO329.out) hb)
      have n1_ := qV.mk (Kd.qY (by (with_reducible repeat (first | apply Kd.qM | apply Kd.qN | apply Kd.qO)); exact HO333.out) hb)
      have n2_ := qV.mk (Kd.qY (by (with_reducible repeat (first | apply Kd.qM | apply Kd.qN | apply Kd.qO)); exact HO336.out) hb)
      have n3_ := qV.mk (Kd.qY (by (with_reducible repeat (first | apply Kd.qM | apply Kd.qN | apply Kd.qO)); exact HO340.out) hb)
      have n4_ := qV.mk (Kd.qZ (by (with_reducible repeat (first | apply Kd.qP | apply Kd.qQ | apply Kd.qR)); exact HO343.out) hb)
      have n5_ := qV.mk (Kd.qY (by (with_reducible repeat (first | apply Kd.qM | apply Kd.qN | apply Kd.qO)); exact HO348.out) hb)
      have n6_ := qV.mk (Kd.qY (by (with_reducible repeat (first | apply Kd.qM | apply Kd.qN | apply Kd.qO)); exact HO351.out) hb)
      have n7_ := qV.mk (Kd.qY (by (with_reducible repeat (first | apply Kd.qM | apply Kd.qN | apply Kd.qO)); exact HO356.out) hb)
      have n8_ := qV.mk (Kd.qZ (by (with_reducible repeat (first | apply Kd.qP | apply Kd.qQ | apply Kd.qR)); exact HO360.out) hb)
      have n9_ := qV.mk (Kd.qY (by (with_reducible repeat (first | apply Kd.qM | apply Kd.qN | apply Kd.qO)); exact HO365.out) hb)
      have n10_ := qV.mk (Kd.qY (by (with_reducible repeat (first | apply Kd.qM | apply Kd.qN | apply Kd.qO)); exact HO368.out) hb)
      have n11_ := qV.mk (qL (g := gb323) (o := .cells #[.slice A0_0 l0_0.length c0_0] 34 (0, 0)) (by (with_reducible repeat (first | refine qH ?_ _ | refine qI ?_ | refine qG ?_ _)); exact BK323.out) hb)
      have n12_ := qV.mk (qL (g := gb324) (o := .cells #[.int .i64 a1_0, .slice A1_1 l1_1.length c1_1, .slice A1_2 l1_2.length c1_2, .int .i64 a1_3] 61 (0, 0)) (by (with_reducible repeat (first | refine qH ?_ _ | refine qI ?_ | refine qG ?_ _)); exact BK324.out) hb)
      have n13_ := qV.mk (qL (g := gb344) (o := .cells #[.slice Ao53 t341.length co53] 39 (0, 0)) (by (with_reducible repeat (first | refine qH ?_ _ | refine qI ?_ | refine qG ?_ _)); exact BK344.out) hb)
      have n14_ := qV.mk (qL (g := gb353) (o := .cells #[.int .i64 t345, .slice Ao64 t346.length co64, .slice Ao65 t349.length co65, .int .i64 t352] 66 (0, 0)) (by (with_reducible repeat (first | refine qH ?_ _ | refine qI ?_ | refine qG ?_ _)); exact BK353.out) hb)
      have n15_ := qV.mk (qE (by repeat (first | (with_reducible first | exact HB.out | apply qA | apply qB | apply qC | refine qD ?_ GE323.out | refine qD ?_ GE324.out | refine qD ?_ GE344.out | refine qD ?_ GE353.out) | exact HB.out)) hb)
      clear HO329 HO333 HO336 HO340 HO343 HO348 HO351 HO356 HO360 HO365 HO368 BK323 BK324 BK344 BK353 HB
      have HO329 := n0_
      have HO333 := n1_
      have HO336 := n2_
      have HO340 := n3_
      have HO343 := n4_
      have HO348 := n5_
      have HO351 := n6_
      have HO356 := n7_
      have HO360 := n8_
      have HO365 := n9_
      have HO368 := n10_
      have BK323 := n11_
      have BK324 := n12_
      have BK344 := n13_
      have BK353 := n14_
      have HB := n15_
      clear n0_ n1_ n2_ n3_ n4_ n5_ n6_ n7_ n8_ n9_ n10_ n11_ n12_ n13_ n14_ n15_
      (try clear hb)
      (try clear hb2)
      (try clear hk)
      (try clear hi)
      refine hK.out _ _ ⟨(qJ BK353.out 0).trans rfl, (qJ BK353.out 1).trans rfl, (qJ BK353.out 2).trans rfl, (qJ BK353.out 3).trans rfl, (qJ BK324.out 0).trans rfl, (qJ BK324.out 1).trans rfl, (qJ BK324.out 2).trans rfl, (qJ BK324.out 3).trans rfl⟩ (fun hHeld => ?_)
      clear hK K
      refine norm_ (a' := ?_) ?_ ?_
      rotate_left
      ·show Act.put _ (some 48) _ = _
       simp only [Act.put, List.setIfInBounds_toArray, List.set_cons_zero, List.set_cons_succ, i64_w, i32_w]
       rfl
      refine pure_ (i := 4) (N := some 49) (v := ?_) (a' := ?_) #[true, true, true, true, true] rfl rfl (by kernel_rfl) (fun _ _ _ h => h) (Or.inl ⟨by rfl, ?_⟩) ?_ ?_
      rotate_left
      ·intro w'
       go_simp
       with_reducible rfl
      rotate_left
      ·simp only [Act.put, List.setIfInBounds_toArray, List.set_cons_zero, List.set_cons_succ, i64_w, i32_w]
       rfl
      refine done_ (by kernel_rfl) ?_
      have hcz80_0 : w79.cell? ⟨gb344, 0, none⟩ = some (.slice Ao53 t341.length co53) := (qJ BK344.out 0).trans rfl
      have hfz80_0 := qK BK344.out 0
      go_upto_region 21 with (first | ((with_reducible refine gate_callee (f := 48) rfl ?_); refine qW (some 52) rfl rfl Tryd.func48 (by kernel_rfl) rfl #[.agg #[.slice Ao53 t341.length co53], .int .i64 1] rfl (by (try simp only [List.map_toArray, List.map_cons, List.map_nil]); first | done | rfl) ?_; (with_reducible refine (laws_markHeap.calls ?sideP _ t341 1 t371 w _ ?side1 ?side2 A33.out).mono ?_); (case side1 => repeat (first | (with_reducible first | exact HB.out | apply qA | apply qB | apply qC | refine qD ?_ GE323.out | refine qD ?_ GE324.out | refine qD ?_ GE344.out | refine qD ?_ GE353.out) | exact HB.out)); (case side2 => exact HO343.out); rintro e w81 ⟨rfl, hb, hkp, l9_, hy9⟩; refine ⟨_, rfl, ?_⟩; have n0_ := qV.mk (S_gone HO329.out w81); have n1_ := qV.mk (Kd.zG (Kd.zE (Kd.R_bound HO333.out) hkp (fun k_ e_ hs_ => tag_apart e_.2.2.2 hs_.2.2.2)) (fun k_ e_ => e_.1.1)); have n2_ := qV.mk (Kd.zG (Kd.zE (Kd.R_bound HO336.out) hkp (fun k_ e_ hs_ => tag_apart e_.2.2.2 hs_.2.2.2)) (fun k_ e_ => e_.1.1)); have n3_ := qV.mk (Kd.R_reok rfl (Kd.zE (Kd.zK rfl HO340.out) hkp (fun k_ e_ hs_ => hs_.1.1.1.2 e_)) (fun k_ e_ => HO340.out.1 k_ e_)); have n4_ := qV.mk (hy9); have n5_ := qV.mk (Kd.zG (Kd.zE (Kd.R_bound HO348.out) hkp (fun k_ e_ hs_ => tag_apart e_.2.2.2 hs_.2.2.2)) (fun k_ e_ => e_.1.1)); have n6_ := qV.mk (Kd.zG (Kd.zE (Kd.R_bound HO351.out) hkp (fun k_ e_ hs_ => tag_apart e_.2.2.2 hs_.2.2.2)) (fun k_ e_ => e_.1.1)); have n7_ := qV.mk (Kd.R_reok rfl (Kd.zE (Kd.zK rfl HO356.out) hkp (fun k_ e_ hs_ => hs_.1.1.2 e_)) (fun k_ e_ => HO356.out.1 k_ e_)); have n8_ := qV.mk (S_gone HO360.out w81); have n9_ := qV.mk (Kd.zG (Kd.zE (Kd.R_bound HO365.out) hkp (fun k_ e_ hs_ => tag_apart e_.2.2.2 hs_.2.2.2)) (fun k_ e_ => e_.1.1)); have n10_ := qV.mk (Kd.zG (Kd.zE (Kd.R_bound HO368.out) hkp (fun k_ e_ hs_ => tag_apart e_.2.2.2 hs_.2.2.2)) (fun k_ e_ => e_.1.1)); have n11_ := qV.mk (zO BK323.out hkp (fun hs_ => tag_none BK323.out (by decide) hs_.2.2.2)); have n12_ := qV.mk (zO BK324.out hkp (fun hs_ => tag_none BK324.out (by decide) hs_.2.2.2)); have n13_ := qV.mk (zO BK344.out hkp (fun hs_ => tag_none BK344.out (by decide) hs_.2.2.2)); have n14_ := qV.mk (zO BK353.out hkp (fun hs_ => tag_none BK353.out (by decide) hs_.2.2.2)); have n15_ := qV.mk (hb); clear HO329 HO333 HO336 HO340 HO343 HO348 HO351 HO356 HO360 HO365 HO368 BK323 BK324 BK344 BK353 HB; have HO329 := n0_; have HO333 := n1_; have HO336 := n2_; have HO340 := n3_; have HO343 := n4_; have HO348 := n5_; have HO351 := n6_; have HO356 := n7_; have HO360 := n8_; have HO365 := n9_; have HO368 := n10_; have BK323 := n11_; have BK324 := n12_; have BK344 := n13_; have BK353 := n14_; have HB := n15_; clear n0_ n1_ n2_ n3_ n4_ n5_ n6_ n7_ n8_ n9_ n10_ n11_ n12_ n13_ n14_ n15_; (try clear hb); (try clear hb2); (try clear hk); (try clear hi); have hcz82_0 : w81.cell? ⟨gb353, 0, none⟩ = some (.int .i64 t345) := (qJ BK353.out 0).trans rfl; have hcz82_1 : w81.cell? ⟨gb353, 1, none⟩ = some (.slice Ao64 t346.length co64) := (qJ BK353.out 1).trans rfl; have hcz82_2 : w81.cell? ⟨gb353, 2, none⟩ = some (.slice Ao65 t349.length co65) := (qJ BK353.out 2).trans rfl; have hcz82_3 : w81.cell? ⟨gb353, 3, none⟩ = some (.int .i64 t352) := (qJ BK353.out 3).trans rfl; have hfz82_0 := qK BK353.out 0; have hfz82_1 := qK BK353.out 1; have hfz82_2 := qK BK353.out 2; have hfz82_3 := qK BK353.out 3) | ((with_reducible refine gate_callee (f := 49) rfl ?_); refine qW (some 55) rfl rfl Tryd.func49 (by kernel_rfl) rfl #[.agg #[.int .i64 t345, .slice Ao64 t346.length co64, .slice Ao65 t349.length co65, .int .i64 t352], .int .i64 t371] rfl (by (try simp only [List.map_toArray, List.map_cons, List.map_nil]); first | done | rfl) ?_; (with_reducible refine (laws_markArray.calls k t345 (fun k_ => some k_ = (.slice Ao64 t346.length co64 : Value).ownBlock) (.slice Ao64 t346.length co64) t346 (fun k_ => some k_ = (.slice Ao65 t349.length co65 : Value).ownBlock) (.slice Ao65 t349.length co65) t349 t352 t371 t372 t373 t374 w _ ?side1 ?side2 ?side3 ?side4 ?side5 A34.out).mono ?_); (case side1 => repeat (first | (with_reducible first | exact HB.out | apply qA | apply qB | apply qC | refine qD ?_ GE323.out | refine qD ?_ GE324.out | refine qD ?_ GE344.out | refine qD ?_ GE353.out) | exact HB.out)); (case side2 => exact Kd.zK rfl HO348.out); (case side3 => exact fun k_ e_ => (HO348.out.1 k_ e_.symm).1.1.1.1); (case side4 => exact Kd.zK rfl HO351.out); (case side5 => exact fun k_ e_ => (HO351.out.1 k_ e_.symm).1.1.1.1); rintro e w83 ⟨rfl, hy0, hy1, hb, hkp⟩; refine ⟨_, rfl, ?_⟩; have n0_ := qV.mk (zO (by (with_reducible repeat (first | refine qH ?_ _ | refine qI ?_ | refine qG ?_ _)); exact BK323.out) hkp (fun hs_ => Or.elim hs_ (fun e_ => (fun e_ => (Kd.R_ne HO348.out BK323.out (by decide)) e_) e_) (fun e_ => (fun e_ => (Kd.R_ne HO351.out BK323.out (by decide)) e_) e_))); have n1_ := qV.mk (zO (by (with_reducible repeat (first | refine qH ?_ _ | refine qI ?_ | refine qG ?_ _)); exact BK324.out) hkp (fun hs_ => Or.elim hs_ (fun e_ => (fun e_ => (Kd.R_ne HO348.out BK324.out (by decide)) e_) e_) (fun e_ => (fun e_ => (Kd.R_ne HO351.out BK324.out (by decide)) e_) e_))); have n2_ := qV.mk (Kd.zH (ok' := fun k_ => some k_ ≠ (.slice Ao69 t338.length co69 : Value).ownBlock ∧ some k_ ≠ (.slice Ao53 t341.length co53 : Value).ownBlock ∧ some k_ ≠ (.slice Ao68 t354.length co68 : Value).ownBlock ∧ some k_ ≠ (.slice Ao73 t358.length co73 : Value).ownBlock) (Kd.zF ((Kd.zM (Kd.zM HO329.out (Kd.zN HO348.out) (by decide)) (Kd.zN HO351.out) (by decide))) hkp (fun k_ hk_ hs_ => Or.elim hs_ (fun e_ => (hk_.1.2) e_) (fun e_ => (hk_.2) e_))) (fun k_ hk_ => ⟨hk_.1.1.1.1.1.1.2, hk_.1.1.1.1.1.2, hk_.1.1.1.1.2, hk_.1.1.1.2⟩)); have n3_ := qV.mk (Kd.zG (ok' := fun k_ => some k_ ≠ (.slice Ao48 t334.length co48 : Value).ownBlock ∧ some k_ ≠ (.slice Ao64 t346.length co64 : Value).ownBlock ∧ some k_ ≠ (.slice Ao65 t349.length co65 : Value).ownBlock ∧ some k_ ≠ (.slice Ao77 t363.length co77 : Value).ownBlock ∧ some k_ ≠ (.slice Ao78 t366.length co78 : Value).ownBlock) (Kd.zE (HO333.out) hkp (fun k_ hk_ hs_ => Or.elim hs_ (fun e_ => (hk_.1.1.1.2) e_) (fun e_ => (hk_.1.1.2) e_))) (fun k_ hk_ => ⟨hk_.1.1.1.1.1, hk_.1.1.1.1.2, hk_.1.1.1.2, hk_.1.1.2, hk_.1.2⟩)); have n4_ := qV.mk (Kd.zG (ok' := fun k_ => some k_ ≠ (.slice Ao47 t331.length co47 : Value).ownBlock ∧ some k_ ≠ (.slice Ao64 t346.length co64 : Value).ownBlock ∧ some k_ ≠ (.slice Ao65 t349.length co65 : Value).ownBlock ∧ some k_ ≠ (.slice Ao77 t363.length co77 : Value).ownBlock ∧ some k_ ≠ (.slice Ao78 t366.length co78 : Value).ownBlock) (Kd.zE (HO336.out) hkp (fun k_ hk_ hs_ => Or.elim hs_ (fun e_ => (hk_.1.1.1.2) e_) (fun e_ => (hk_.1.1.2) e_))) (fun k_ hk_ => ⟨hk_.1.1.1.1.1, hk_.1.1.1.1.2, hk_.1.1.1.2, hk_.1.1.2, hk_.1.2⟩)); have n5_ := qV.mk (Kd.zG (ok' := fun k_ => some k_ ≠ (.slice Ao68 t354.length co68 : Value).ownBlock) (Kd.zE ((Kd.zL (Kd.zL HO340.out (Kd.zN HO348.out) (by decide)) (Kd.zN HO351.out) (by decide))) hkp (fun k_ hk_ hs_ => Or.elim hs_ (fun e_ => (hk_.1.2) e_) (fun e_ => (hk_.2) e_))) (fun k_ hk_ => hk_.1.1.1.2)); have n6_ := qV.mk (Kd.zH (ok' := fun k_ => some k_ ≠ (.slice Ao46 t327.length co46 : Value).ownBlock ∧ some k_ ≠ (.slice Ao69 t338.length co69 : Value).ownBlock ∧ some k_ ≠ (.slice Ao68 t354.length co68 : Value).ownBlock ∧ some k_ ≠ (.slice Ao73 t358.length co73 : Value).ownBlock) (Kd.zF ((Kd.zM (Kd.zM HO343.out (Kd.zN HO348.out) (by decide)) (Kd.zN HO351.out) (by decide))) hkp (fun k_ hk_ hs_ => Or.elim hs_ (fun e_ => (hk_.1.2) e_) (fun e_ => (hk_.2) e_))) (fun k_ hk_ => ⟨hk_.1.1.1.1.1.1.2, hk_.1.1.1.1.1.2, hk_.1.1.1.1.2, hk_.1.1.1.2⟩)); have n7_ := qV.mk (zO (by (with_reducible repeat (first | refine qH ?_ _ | refine qI ?_ | refine qG ?_ _)); exact BK344.out) hkp (fun hs_ => Or.elim hs_ (fun e_ => (fun e_ => (Kd.R_ne HO348.out BK344.out (by decide)) e_) e_) (fun e_ => (fun e_ => (Kd.R_ne HO351.out BK344.out (by decide)) e_) e_))); have n8_ := qV.mk (Kd.R_reok rfl hy0 (fun k_ e_ => HO348.out.1 k_ e_)); have n9_ := qV.mk (Kd.R_reok rfl hy1 (fun k_ e_ => HO351.out.1 k_ e_)); have n10_ := qV.mk (zO (by (with_reducible repeat (first | refine qH ?_ _ | refine qI ?_ | refine qG ?_ _)); exact BK353.out) hkp (fun hs_ => Or.elim hs_ (fun e_ => (fun e_ => (Kd.R_ne HO348.out BK353.out (by decide)) e_) e_) (fun e_ => (fun e_ => (Kd.R_ne HO351.out BK353.out (by decide)) e_) e_))); have n11_ := qV.mk (Kd.zG (ok' := fun k_ => some k_ ≠ (.slice Ao69 t338.length co69 : Value).ownBlock) (Kd.zE ((Kd.zL (Kd.zL HO356.out (Kd.zN HO348.out) (by decide)) (Kd.zN HO351.out) (by decide))) hkp (fun k_ hk_ hs_ => Or.elim hs_ (fun e_ => (hk_.1.2) e_) (fun e_ => (hk_.2) e_))) (fun k_ hk_ => hk_.1.1.1.2)); have n12_ := qV.mk (Kd.zH (ok' := fun k_ => some k_ ≠ (.slice Ao46 t327.length co46 : Value).ownBlock ∧ some k_ ≠ (.slice Ao69 t338.length co69 : Value).ownBlock ∧ some k_ ≠ (.slice Ao53 t341.length co53 : Value).ownBlock ∧ some k_ ≠ (.slice Ao68 t354.length co68 : Value).ownBlock) (Kd.zF ((Kd.zM (Kd.zM HO360.out (Kd.zN HO348.out) (by decide)) (Kd.zN HO351.out) (by decide))) hkp (fun k_ hk_ hs_ => Or.elim hs_ (fun e_ => (hk_.1.2) e_) (fun e_ => (hk_.2) e_))) (fun k_ hk_ => ⟨hk_.1.1.1.1.1.1.2, hk_.1.1.1.1.1.2, hk_.1.1.1.1.2, hk_.1.1.1.2⟩)); have n13_ := qV.mk (Kd.zG (ok' := fun k_ => some k_ ≠ (.slice Ao47 t331.length co47 : Value).ownBlock ∧ some k_ ≠ (.slice Ao48 t334.length co48 : Value).ownBlock ∧ some k_ ≠ (.slice Ao64 t346.length co64 : Value).ownBlock ∧ some k_ ≠ (.slice Ao65 t349.length co65 : Value).ownBlock ∧ some k_ ≠ (.slice Ao78 t366.length co78 : Value).ownBlock) (Kd.zE (HO365.out) hkp (fun k_ hk_ hs_ => Or.elim hs_ (fun e_ => (hk_.1.2) e_) (fun e_ => (hk_.2) e_))) (fun k_ hk_ => ⟨hk_.1.1.1.1.2, hk_.1.1.1.2, hk_.1.1.2, hk_.1.2, hk_.1.1.1.1.1⟩)); have n14_ := qV.mk (Kd.zG (ok' := fun k_ => some k_ ≠ (.slice Ao47 t331.length co47 : Value).ownBlock ∧ some k_ ≠ (.slice Ao48 t334.length co48 : Value).ownBlock ∧ some k_ ≠ (.slice Ao64 t346.length co64 : Value).ownBlock ∧ some k_ ≠ (.slice Ao65 t349.length co65 : Value).ownBlock ∧ some k_ ≠ (.slice Ao77 t363.length co77 : Value).ownBlock) (Kd.zE (HO368.out) hkp (fun k_ hk_ hs_ => Or.elim hs_ (fun e_ => (hk_.1.2) e_) (fun e_ => (hk_.2) e_))) (fun k_ hk_ => ⟨hk_.1.1.1.1.2, hk_.1.1.1.2, hk_.1.1.2, hk_.1.2, hk_.1.1.1.1.1⟩)); have n15_ := qV.mk (hb); clear BK323 BK324 HO329 HO333 HO336 HO340 HO343 BK344 HO348 HO351 BK353 HO356 HO360 HO365 HO368 HB; have BK323 := n0_; have BK324 := n1_; have HO329 := n2_; have HO333 := n3_; have HO336 := n4_; have HO340 := n5_; have HO343 := n6_; have BK344 := n7_; have HO348 := n8_; have HO351 := n9_; have BK353 := n10_; have HO356 := n11_; have HO360 := n12_; have HO365 := n13_; have HO368 := n14_; have HB := n15_; clear n0_ n1_ n2_ n3_ n4_ n5_ n6_ n7_ n8_ n9_ n10_ n11_ n12_ n13_ n14_ n15_; (try clear hb); (try clear hkp); (try clear hy0); (try clear hy1)))
      (try simp only [Act.put, List.setIfInBounds_toArray, List.set_cons_zero, List.set_cons_succ])
      go_cut [63] (fun v63 wc => ∃ (kq : Nat) (x63_34 : Bool), v63 = .bool x63_34 ∧ qV (laws_FnExactRead.j0 kq t338 t354 x63_34 l0_0 a1_0 l1_1 l1_2 a1_3 = some true) ∧ qV (kq ≤ k) ∧ qV (Kd.R k27 27 wc w.heap.size (fun k_ => some k_ ≠ ((.slice Ao68 t354.length co68) : Value).ownBlock) (.slice Ao69 t338.length co69) t338) ∧ qV (Kd.R k27 27 wc w.heap.size (fun k_ => some k_ ≠ ((.slice Ao69 t338.length co69) : Value).ownBlock) (.slice Ao68 t354.length co68) t354) ∧ qV (Kd.S k85 85 wc w.heap.size (fun k_ => some k_ ≠ ((.slice Ao69 t338.length co69) : Value).ownBlock ∧ some k_ ≠ ((.slice Ao68 t354.length co68) : Value).ownBlock) (.slice Ao53 t341.length co53) l9_) ∧ qV (Kd.R (Kd.int .i64) 2 wc w.heap.size (fun k_ => some k_ ≠ ((.slice Ao65 t349.length co65) : Value).ownBlock) (.slice Ao64 t346.length co64) t373) ∧ qV (Kd.R (Kd.int .i64) 2 wc w.heap.size (fun k_ => some k_ ≠ ((.slice Ao64 t346.length co64) : Value).ownBlock) (.slice Ao65 t349.length co65) t374) ∧ qV (wc.heap[gb323]? = some (.cells #[(.slice A0_0 l0_0.length c0_0)] 34 (0, 0))) ∧ qV (wc.heap[gb324]? = some (.cells #[.int .i64 a1_0, (.slice A1_1 l1_1.length c1_1), (.slice A1_2 l1_2.length c1_2), .int .i64 a1_3] 61 (0, 0))) ∧ qV (wc.heap[gb344]? = some (.cells #[(.slice Ao53 t341.length co53)] 39 (0, 0))) ∧ qV (wc.heap[gb353]? = some (.cells #[.int .i64 t345, (.slice Ao64 t346.length co64), (.slice Ao65 t349.length co65), .int .i64 t352] 66 (0, 0))) ∧ qV (Below w.heap.size w wc))
      case first =>
       have H := HC35.out
       clear HC35
       by_cases c84 : t372 < 0
       ·rw [if_pos c84] at H
        have c84b0 : decide (t372 < 0) = true := decide_eq_true c84
        clear c84
        (first | rw [c84b0] | (simp only [i64_w, i32_w]; rw [c84b0]) | skip)
        have H' := qV.mk H
        clear H
        go_wp2
        go_meet
        case rel => exact ⟨_, (true), (by first | rfl | (simp; done) | (simp [*]; done)), H', ⟨by first | omega | exact Nat.le_refl _⟩, ⟨by (with_reducible repeat (first | apply Kd.qM | apply Kd.qN | apply Kd.qO)); exact HO340.out⟩, ⟨by (with_reducible repeat (first | apply Kd.qM | apply Kd.qN | apply Kd.qO)); exact HO356.out⟩, ⟨by (with_reducible repeat (first | apply Kd.qP | apply Kd.qQ | apply Kd.qR)); exact Kd.zH HO343.out (fun _ hk => ⟨hk.2.1, hk.2.2.1⟩)⟩, ⟨by (with_reducible repeat (first | apply Kd.qM | apply Kd.qN | apply Kd.qO)); exact Kd.zG HO348.out (fun _ hk => hk.1.1.1.1)⟩, ⟨by (with_reducible repeat (first | apply Kd.qM | apply Kd.qN | apply Kd.qO)); exact Kd.zG HO351.out (fun _ hk => hk.1.1.1.1)⟩, ⟨by (with_reducible repeat (first | refine qH ?_ _ | refine qI ?_ | refine qG ?_ _)); exact BK323.out⟩, ⟨by (with_reducible repeat (first | refine qH ?_ _ | refine qI ?_ | refine qG ?_ _)); exact BK324.out⟩, ⟨by (with_reducible repeat (first | refine qH ?_ _ | refine qI ?_ | refine qG ?_ _)); exact BK344.out⟩, ⟨by (with_reducible repeat (first | refine qH ?_ _ | refine qI ?_ | refine qG ?_ _)); exact BK353.out⟩, ⟨by repeat (first | (with_reducible first | exact HB.out | apply qA | apply qB | apply qC | refine qD ?_ GE323.out | refine qD ?_ GE324.out | refine qD ?_ GE344.out | refine qD ?_ GE353.out) | exact HB.out)⟩⟩
       ·rw [if_neg c84] at H
        have c84b0 : decide (t372 < 0) = false := decide_eq_false c84
        clear c84
        (first | rw [c84b0] | (simp only [i64_w, i32_w]; rw [c84b0]) | skip)
        replace H := Option.bind_eq_some_iff.mp H
        obtain ⟨t375, A850, H⟩ := H
        try dsimp only at H
        have A85 := qV.mk A850
        clear A850
        have H' := qV.mk H
        clear H
        go_wp2_with (first | (go_at_call 47; (with_reducible refine (jB.calls k _ _ t354 _ _ t338 t375 _ ?side1 ?side2 ?side3 ?side4 A85.out).mono ?_); (case side1 => repeat (first | exact (Kd.zC HO356.out).2.2 | (with_reducible refine Kd.qS ?_ _) | (with_reducible refine Kd.qT ?_ _) | (with_reducible refine Kd.qU ?_))); (case side2 => exact (Kd.zC HO356.out).2.1); (case side3 => repeat (first | exact (Kd.zC HO340.out).2.2 | (with_reducible refine Kd.qS ?_ _) | (with_reducible refine Kd.qT ?_ _) | (with_reducible refine Kd.qU ?_))); (case side4 => exact (Kd.zC HO340.out).2.1); rintro e w86 ⟨rfl, hb⟩; have n0_ := qV.mk (Kd.qZ (by (with_reducible repeat (first | apply Kd.qP | apply Kd.qQ | apply Kd.qR)); exact HO329.out) hb); have n1_ := qV.mk (Kd.qY (by (with_reducible repeat (first | apply Kd.qM | apply Kd.qN | apply Kd.qO)); exact HO333.out) hb); have n2_ := qV.mk (Kd.qY (by (with_reducible repeat (first | apply Kd.qM | apply Kd.qN | apply Kd.qO)); exact HO336.out) hb); have n3_ := qV.mk (Kd.qY (by (with_reducible repeat (first | apply Kd.qM | apply Kd.qN | apply Kd.qO)); exact HO340.out) hb); have n4_ := qV.mk (Kd.qZ (by (with_reducible repeat (first | apply Kd.qP | apply Kd.qQ | apply Kd.qR)); exact HO343.out) hb); have n5_ := qV.mk (Kd.qY (by (with_reducible repeat (first | apply Kd.qM | apply Kd.qN | apply Kd.qO)); exact HO348.out) hb); have n6_ := qV.mk (Kd.qY (by (with_reducible repeat (first | apply Kd.qM | apply Kd.qN | apply Kd.qO)); exact HO351.out) hb); have n7_ := qV.mk (Kd.qY (by (with_reducible repeat (first | apply Kd.qM | apply Kd.qN | apply Kd.qO)); exact HO356.out) hb); have n8_ := qV.mk (Kd.qZ (by (with_reducible repeat (first | apply Kd.qP | apply Kd.qQ | apply Kd.qR)); exact HO360.out) hb); have n9_ := qV.mk (Kd.qY (by (with_reducible repeat (first | apply Kd.qM | apply Kd.qN | apply Kd.qO)); exact HO365.out) hb); have n10_ := qV.mk (Kd.qY (by (with_reducible repeat (first | apply Kd.qM | apply Kd.qN | apply Kd.qO)); exact HO368.out) hb); have n11_ := qV.mk (qL (g := gb323) (o := .cells #[.slice A0_0 l0_0.length c0_0] 34 (0, 0)) (by (with_reducible repeat (first | refine qH ?_ _ | refine qI ?_ | refine qG ?_ _)); exact BK323.out) hb); have n12_ := qV.mk (qL (g := gb324) (o := .cells #[.int .i64 a1_0, .slice A1_1 l1_1.length c1_1, .slice A1_2 l1_2.length c1_2, .int .i64 a1_3] 61 (0, 0)) (by (with_reducible repeat (first | refine qH ?_ _ | refine qI ?_ | refine qG ?_ _)); exact BK324.out) hb); have n13_ := qV.mk (qL (g := gb344) (o := .cells #[.slice Ao53 t341.length co53] 39 (0, 0)) (by (with_reducible repeat (first | refine qH ?_ _ | refine qI ?_ | refine qG ?_ _)); exact BK344.out) hb); have n14_ := qV.mk (qL (g := gb353) (o := .cells #[.int .i64 t345, .slice Ao64 t346.length co64, .slice Ao65 t349.length co65, .int .i64 t352] 66 (0, 0)) (by (with_reducible repeat (first | refine qH ?_ _ | refine qI ?_ | refine qG ?_ _)); exact BK353.out) hb); have n15_ := qV.mk (qE (by repeat (first | (with_reducible first | exact HB.out | apply qA | apply qB | apply qC | refine qD ?_ GE323.out | refine qD ?_ GE324.out | refine qD ?_ GE344.out | refine qD ?_ GE353.out) | exact HB.out)) hb); clear HO329 HO333 HO336 HO340 HO343 HO348 HO351 HO356 HO360 HO365 HO368 BK323 BK324 BK344 BK353 HB; have HO329 := n0_; have HO333 := n1_; have HO336 := n2_; have HO340 := n3_; have HO343 := n4_; have HO348 := n5_; have HO351 := n6_; have HO356 := n7_; have HO360 := n8_; have HO365 := n9_; have HO368 := n10_; have BK323 := n11_; have BK324 := n12_; have BK344 := n13_; have BK353 := n14_; have HB := n15_; clear n0_ n1_ n2_ n3_ n4_ n5_ n6_ n7_ n8_ n9_ n10_ n11_ n12_ n13_ n14_ n15_; (try clear hb); (try clear hb2); (try clear hk); (try clear hi)))
        go_meet
        case rel => exact ⟨_, (!t375), (by first | rfl | (simp; done) | (simp [*]; done)), H', ⟨by first | omega | exact Nat.le_refl _⟩, ⟨by (with_reducible repeat (first | apply Kd.qM | apply Kd.qN | apply Kd.qO)); exact HO340.out⟩, ⟨by (with_reducible repeat (first | apply Kd.qM | apply Kd.qN | apply Kd.qO)); exact HO356.out⟩, ⟨by (with_reducible repeat (first | apply Kd.qP | apply Kd.qQ | apply Kd.qR)); exact Kd.zH HO343.out (fun _ hk => ⟨hk.2.1, hk.2.2.1⟩)⟩, ⟨by (with_reducible repeat (first | apply Kd.qM | apply Kd.qN | apply Kd.qO)); exact Kd.zG HO348.out (fun _ hk => hk.1.1.1.1)⟩, ⟨by (with_reducible repeat (first | apply Kd.qM | apply Kd.qN | apply Kd.qO)); exact Kd.zG HO351.out (fun _ hk => hk.1.1.1.1)⟩, ⟨by (with_reducible repeat (first | refine qH ?_ _ | refine qI ?_ | refine qG ?_ _)); exact BK323.out⟩, ⟨by (with_reducible repeat (first | refine qH ?_ _ | refine qI ?_ | refine qG ?_ _)); exact BK324.out⟩, ⟨by (with_reducible repeat (first | refine qH ?_ _ | refine qI ?_ | refine qG ?_ _)); exact BK344.out⟩, ⟨by (with_reducible repeat (first | refine qH ?_ _ | refine qI ?_ | refine qG ?_ _)); exact BK353.out⟩, ⟨by repeat (first | (with_reducible first | exact HB.out | apply qA | apply qB | apply qC | refine qD ?_ GE323.out | refine qD ?_ GE324.out | refine qD ?_ GE344.out | refine qD ?_ GE353.out) | exact HB.out)⟩⟩
      case rest =>
       clear HC35
       try clear c1
       try clear c2
       try clear p2
       try clear c3
       try clear c4
       try clear c5
       try clear c6
       try clear c8
       try clear c24
       try clear c26
       try clear c37
       try clear c39
       try clear c45
       try clear c46
       try clear c47
       try clear c48
       try clear c49
       try clear c54
       try clear c55
       try clear c60
       try clear c61
       try clear c62
       try clear c84
       try clear c84b0
       try clear hcz50_0
       try clear hcz56_0
       try clear hcz57_0
       try clear hcz57_1
       try clear hcz57_2
       try clear hcz57_3
       try clear hcz63_0
       try clear hcz63_1
       try clear hcz63_2
       try clear hcz63_3
       try clear hcz66_0
       try clear hcz80_0
       try clear hcz82_0
       try clear hcz82_1
       try clear hcz82_2
       try clear hcz82_3
       try clear hfz50_0
       try clear hfz56_0
       try clear hfz57_0
       try clear hfz57_1
       try clear hfz57_2
       try clear hfz57_3
       try clear hfz63_0
       try clear hfz63_1
       try clear hfz63_2
       try clear hfz63_3
       try clear hfz66_0
       try clear hfz80_0
       try clear hfz82_0
       try clear hfz82_1
       try clear hfz82_2
       try clear hfz82_3
       obtain ⟨kq, x63_34, rfl, HA, HJ34, HO_6, HO_9, HO_345000, HO_354001, HO_354002, BK323, BK324, BK344, BK353, HB⟩ := hcut
       have hl354001_34 := (Kd.zC HO_354001.out).1
       rw [hl354001_34] at HO_354001
       (try simp only [hl354001_34])
       (try simp only [hl354001_34] at BK323)
       (try simp only [hl354001_34] at BK324)
       (try simp only [hl354001_34] at BK344)
       (try simp only [hl354001_34] at BK353)
       (try simp only [hl354001_34] at HO_6)
       (try simp only [hl354001_34] at HO_9)
       (try simp only [hl354001_34] at HO_345000)
       (try simp only [hl354001_34] at HO_354002)
       have hl354002_34 := (Kd.zC HO_354002.out).1
       rw [hl354002_34] at HO_354002
       (try simp only [hl354002_34])
       (try simp only [hl354002_34] at BK323)
       (try simp only [hl354002_34] at BK324)
       (try simp only [hl354002_34] at BK344)
       (try simp only [hl354002_34] at BK353)
       (try simp only [hl354002_34] at HO_6)
       (try simp only [hl354002_34] at HO_9)
       (try simp only [hl354002_34] at HO_345000)
       (try simp only [hl354002_34] at HO_354001)
       cases kq with
       | zero => exact absurd HA.out (by simp [laws_FnExactRead.j0])
       | succ kj34 =>
        have H := HA.out
        clear HA
        simp only [laws_FnExactRead.j0] at H
        by_cases c87 : x63_34 = true
        ·subst c87
         rw [if_pos rfl] at H
         exact absurd (Option.some.inj H) (by decide)
        ·replace c87 := Bool.eq_false_iff.mpr c87
         subst c87
         rw [if_neg (show ¬ (false = true) by decide)] at H
         replace H := Option.bind_eq_some_iff.mp H
         obtain ⟨⟨t376, t377⟩, A880, H⟩ := H
         try dsimp only at H
         have A88 := qV.mk A880
         clear A880
         replace H := Option.bind_eq_some_iff.mp H
         obtain ⟨t378, A890, H⟩ := H
         try dsimp only at H
         have A89 := qV.mk A890
         clear A890
         by_cases c90 : t378 < 0
         ·rw [if_pos c90] at H
          have c90b0 : decide (t378 < 0) = true := decide_eq_true c90
          clear c90
          exact absurd (Option.some.inj H) (by decide)
         ·rw [if_neg c90] at H
          have c90b0 : decide (t378 < 0) = false := decide_eq_false c90
          clear c90
          by_cases c92 : t378 = t376
          ·rw [if_pos c92] at H
           have c92b0 : (t378 == t376) = true := beq_iff_eq.mpr c92
           have c92b1 : (t378 != t376) = false := bne_eq_false_iff_eq.mpr c92
           clear c92
           replace H := Option.bind_eq_some_iff.mp H
           obtain ⟨t379, A930, H⟩ := H
           try dsimp only at H
           have A93 := qV.mk A930
           clear A930
           replace H := Option.bind_eq_some_iff.mp H
           obtain ⟨⟨t382, t383, t386, t389⟩, A940, H⟩ := H
           try dsimp only at H
           have A94 := qV.mk A940
           clear A940
           replace H := Option.bind_eq_some_iff.mp H
           obtain ⟨t390, A950, H⟩ := H
           try dsimp only at H
           have A95 := qV.mk A950
           clear A950
           replace H := Option.bind_eq_some_iff.mp H
           obtain ⟨t393, A960, H⟩ := H
           try dsimp only at H
           have A96 := qV.mk A960
           clear A960
           by_cases c97 : t393 = true
           ·subst c97
            rw [if_pos rfl] at H
            replace H := Option.bind_eq_some_iff.mp H
            obtain ⟨t394, A980, H⟩ := H
            try dsimp only at H
            have A98 := qV.mk A980
            clear A980
            by_cases c99 : t394 < 0
            ·rw [if_pos c99] at H
             have c99b0 : decide (t394 < 0) = true := decide_eq_true c99
             clear c99
             exact absurd (Option.some.inj H) (by decide)
            ·rw [if_neg c99] at H
             have c99b0 : decide (t394 < 0) = false := decide_eq_false c99
             clear c99
             by_cases c110 : t394 = t376
             ·rw [if_pos c110] at H
              have c110b0 : (t394 == t376) = true := beq_iff_eq.mpr c110
              have c110b1 : (t394 != t376) = false := bne_eq_false_iff_eq.mpr c110
              clear c110 H
              try go_wp2_with (first | ((with_reducible refine gate_callee (f := 50) rfl ?_); refine qW (some 66) rfl rfl Tryd.func50 (by kernel_rfl) rfl #[.slice Ao68 t354.length co68, .int .i64 1] rfl (by (try simp only [List.map_toArray, List.map_cons, List.map_nil]); first | done | rfl) ?_; (with_reducible refine (jC.calls kj34 (fun k_ => some k_ = (.slice Ao68 t354.length co68 : Value).ownBlock) (.slice Ao68 t354.length co68) t354 1 t376 t377 w _ ?side1 ?side2 A88.out).mono ?_); (case side1 => repeat (first | (with_reducible first | exact HB.out | apply qA | apply qB | apply qC | refine qD ?_ GE323.out | refine qD ?_ GE324.out | refine qD ?_ GE344.out | refine qD ?_ GE353.out) | exact HB.out)); (case side2 => exact Kd.zK rfl HO_9.out); rintro e w111 ⟨rfl, hy0, hb, hkp⟩; refine ⟨_, rfl, ?_⟩; have n0_ := qV.mk (Kd.zG (ok' := fun k_ => some k_ ≠ (.slice Ao68 t354.length co68 : Value).ownBlock) (Kd.zE (HO_6.out) hkp (fun k_ hk_ hs_ => (hk_) hs_)) (fun k_ hk_ => hk_.1)); have n1_ := qV.mk (Kd.R_reok rfl hy0 (fun k_ e_ => HO_9.out.1 k_ e_)); have n2_ := qV.mk (Kd.zH (ok' := fun k_ => some k_ ≠ (.slice Ao69 t338.length co69 : Value).ownBlock ∧ some k_ ≠ (.slice Ao68 t354.length co68 : Value).ownBlock) (Kd.zF (HO_345000.out) hkp (fun k_ hk_ hs_ => (hk_.2) hs_)) (fun k_ hk_ => ⟨hk_.1.1, hk_.1.2⟩)); have n3_ := qV.mk (Kd.zG (ok' := fun k_ => some k_ ≠ (.slice Ao65 t374.length co65 : Value).ownBlock) (Kd.zE ((Kd.zL HO_354001.out (Kd.zN HO_9.out) (by decide))) hkp (fun k_ hk_ hs_ => (hk_.2) hs_)) (fun k_ hk_ => hk_.1.1)); have n4_ := qV.mk (Kd.zG (ok' := fun k_ => some k_ ≠ (.slice Ao64 t373.length co64 : Value).ownBlock) (Kd.zE ((Kd.zL HO_354002.out (Kd.zN HO_9.out) (by decide))) hkp (fun k_ hk_ hs_ => (hk_.2) hs_)) (fun k_ hk_ => hk_.1.1)); have n5_ := qV.mk (zO (by (with_reducible repeat (first | refine qH ?_ _ | refine qI ?_ | refine qG ?_ _)); exact BK323.out) hkp (fun hs_ => (fun e_ => (Kd.R_ne HO_9.out BK323.out (by decide)) e_) hs_)); have n6_ := qV.mk (zO (by (with_reducible repeat (first | refine qH ?_ _ | refine qI ?_ | refine qG ?_ _)); exact BK324.out) hkp (fun hs_ => (fun e_ => (Kd.R_ne HO_9.out BK324.out (by decide)) e_) hs_)); have n7_ := qV.mk (zO (by (with_reducible repeat (first | refine qH ?_ _ | refine qI ?_ | refine qG ?_ _)); exact BK344.out) hkp (fun hs_ => (fun e_ => (Kd.R_ne HO_9.out BK344.out (by decide)) e_) hs_)); have n8_ := qV.mk (zO (by (with_reducible repeat (first | refine qH ?_ _ | refine qI ?_ | refine qG ?_ _)); exact BK353.out) hkp (fun hs_ => (fun e_ => (Kd.R_ne HO_9.out BK353.out (by decide)) e_) hs_)); have n9_ := qV.mk (hb); clear HO_6 HO_9 HO_345000 HO_354001 HO_354002 BK323 BK324 BK344 BK353 HB; have HO_6 := n0_; have HO_9 := n1_; have HO_345000 := n2_; have HO_354001 := n3_; have HO_354002 := n4_; have BK323 := n5_; have BK324 := n6_; have BK344 := n7_; have BK353 := n8_; have HB := n9_; clear n0_ n1_ n2_ n3_ n4_ n5_ n6_ n7_ n8_ n9_; (try clear hb); (try clear hkp); (try clear hy0)) | ((with_reducible refine gate_callee (f := 51) rfl ?_); refine qW (some 69) rfl rfl Tryd.func51 (by kernel_rfl) rfl #[.slice Ao68 t377.length co68, .int .i64 1] rfl (by (try simp only [List.map_toArray, List.map_cons, List.map_nil]); first | done | (rw [show t377.length = t354.length from (Kd.zC HO_9.out).1.symm] <;> rfl) | rfl | (simp only [List.length_drop, List.length_take]; rfl)) ?_; (with_reducible refine (jL.calls kj34 _ _ t377 1 t378 _ ?side1 ?side2 A89.out).mono ?_); (case side1 => repeat (first | exact (Kd.zC HO_9.out).2.2 | (with_reducible refine Kd.qS ?_ _) | (with_reducible refine Kd.qT ?_ _) | (with_reducible refine Kd.qU ?_))); (case side2 => rw [show t377.length = t354.length from (Kd.zC HO_9.out).1.symm]; exact (Kd.zC HO_9.out).2.1); rintro e w' ⟨rfl, ⟨nd, rfl⟩⟩; refine ⟨_, rfl, ?_⟩))
              (try (rw [drewN_self w111]; generalize hq_ : World.drewN w111 _ = w111; have n0_ : qV (Kd.S k85 85 w111 w.heap.size (fun k_ => some k_ ≠ (.slice Ao69 t338.length co69 : Value).ownBlock ∧ some k_ ≠ (.slice Ao68 t354.length co68 : Value).ownBlock) (.slice Ao53 t341.length co53) l9_) := ⟨by rw [← hq_]; exact (by (with_reducible repeat (first | apply Kd.qP | apply Kd.qQ | apply Kd.qR)); exact HO_345000.out)⟩; have n1_ : qV (Kd.R (Kd.int .i64) 2 w111 w.heap.size (fun k_ => some k_ ≠ (.slice Ao65 t374.length co65 : Value).ownBlock) (.slice Ao64 t373.length co64) t373) := ⟨by rw [← hq_]; exact (by (with_reducible repeat (first | apply Kd.qM | apply Kd.qN | apply Kd.qO)); exact HO_354001.out)⟩; have n2_ : qV (Kd.R (Kd.int .i64) 2 w111 w.heap.size (fun k_ => some k_ ≠ (.slice Ao64 t373.length co64 : Value).ownBlock) (.slice Ao65 t374.length co65) t374) := ⟨by rw [← hq_]; exact (by (with_reducible repeat (first | apply Kd.qM | apply Kd.qN | apply Kd.qO)); exact HO_354002.out)⟩; have n3_ : qV (Kd.R k27 27 w111 w.heap.size (fun k_ => some k_ ≠ (.slice Ao68 t354.length co68 : Value).ownBlock) (.slice Ao69 t338.length co69) t338) := ⟨by rw [← hq_]; exact (by (with_reducible repeat (first | apply Kd.qM | apply Kd.qN | apply Kd.qO)); exact HO_6.out)⟩; have n4_ : qV (Kd.R k27 27 w111 w.heap.size (fun k_ => some k_ ≠ (.slice Ao69 t338.length co69 : Value).ownBlock) (.slice Ao68 t354.length co68) t377) := ⟨by rw [← hq_]; exact (by (with_reducible repeat (first | apply Kd.qM | apply Kd.qN | apply Kd.qO)); exact HO_9.out)⟩; have n5_ : qV (w111.heap[gb323]? = some (.cells #[.slice A0_0 l0_0.length c0_0] 34 (0, 0))) := ⟨by rw [← hq_]; exact (by (with_reducible repeat (first | refine qH ?_ _ | refine qI ?_ | refine qG ?_ _)); exact BK323.out)⟩; have n6_ : qV (w111.heap[gb324]? = some (.cells #[.int .i64 a1_0, .slice A1_1 l1_1.length c1_1, .slice A1_2 l1_2.length c1_2, .int .i64 a1_3] 61 (0, 0))) := ⟨by rw [← hq_]; exact (by (with_reducible repeat (first | refine qH ?_ _ | refine qI ?_ | refine qG ?_ _)); exact BK324.out)⟩; have n7_ : qV (w111.heap[gb344]? = some (.cells #[.slice Ao53 t341.length co53] 39 (0, 0))) := ⟨by rw [← hq_]; exact (by (with_reducible repeat (first | refine qH ?_ _ | refine qI ?_ | refine qG ?_ _)); exact BK344.out)⟩; have n8_ : qV (w111.heap[gb353]? = some (.cells #[.int .i64 t345, .slice Ao64 t373.length co64, .slice Ao65 t374.length co65, .int .i64 t352] 66 (0, 0))) := ⟨by rw [← hq_]; exact (by (with_reducible repeat (first | refine qH ?_ _ | refine qI ?_ | refine qG ?_ _)); exact BK353.out)⟩; have n9_ : qV (Below w.heap.size w w111) := ⟨by rw [← hq_]; exact (by repeat (first | (with_reducible first | exact HB.out | apply qA | apply qB | apply qC | refine qD ?_ GE323.out | refine qD ?_ GE324.out | refine qD ?_ GE344.out | refine qD ?_ GE353.out) | exact HB.out))⟩; clear HO_345000 HO_354001 HO_354002 HO_6 HO_9 BK323 BK324 BK344 BK353 HB hq_; have HO_345000 := n0_; have HO_354001 := n1_; have HO_354002 := n2_; have HO_6 := n3_; have HO_9 := n4_; have BK323 := n5_; have BK324 := n6_; have BK344 := n7_; have BK353 := n8_; have HB := n9_; clear n0_ n1_ n2_ n3_ n4_ n5_ n6_ n7_ n8_ n9_))
              have n0_ := qV.mk (Kd.qO HO_6.out)
              have n1_ := qV.mk (Kd.qO HO_9.out)
              have n2_ := qV.mk (Kd.qR HO_345000.out)
              have n3_ := qV.mk (Kd.qO HO_354001.out)
              have n4_ := qV.mk (Kd.qO HO_354002.out)
              have n5_ := qV.mk (qI BK323.out)
              have n6_ := qV.mk (qI BK324.out)
              have n7_ := qV.mk (qI BK344.out)
              have n8_ := qV.mk (qI BK353.out)
              have n9_ := qV.mk (qC HB.out)
              clear HO_6 HO_9 HO_345000 HO_354001 HO_354002 BK323 BK324 BK344 BK353 HB
              have HO_6 := n0_
              have HO_9 := n1_
              have HO_345000 := n2_
              have HO_354001 := n3_
              have HO_354002 := n4_
              have BK323 := n5_
              have BK324 := n6_
              have BK344 := n7_
              have BK353 := n8_
              have HB := n9_
              clear n0_ n1_ n2_ n3_ n4_ n5_ n6_ n7_ n8_ n9_
              refine start_ (n := 6) (S := fun w' => w'.cell? ⟨gb323, 0, none⟩ = some (.slice A0_0 l0_0.length c0_0) ∧ w'.cell? ⟨gb324, 0, none⟩ = some (.int .i64 a1_0) ∧ w'.cell? ⟨gb324, 1, none⟩ = some (.slice A1_1 l1_1.length c1_1) ∧ w'.cell? ⟨gb324, 2, none⟩ = some (.slice A1_2 l1_2.length c1_2) ∧ w'.cell? ⟨gb324, 3, none⟩ = some (.int .i64 a1_3)) (ds := []) #[false, false, false, false, false, false] (by kernel_rfl) rfl rfl ⟨(qJ BK323.out 0).trans rfl, (qJ BK324.out 0).trans rfl, (qJ BK324.out 1).trans rfl, (qJ BK324.out 2).trans rfl, (qJ BK324.out 3).trans rfl⟩ (fun hHeld => ?_)
              generalize w111.drew = w112 at HO_6 HO_9 HO_345000 HO_354001 HO_354002 BK323 BK324 BK344 BK353 HB hHeld ⊢
              refine take_ (i := 0) (N := some 75) (v := ?_) (a' := ?_) #[true, false, false, false, false, false] rfl rfl (by kernel_rfl) (fun _ _ _ h => h) (Or.inl ⟨by rfl, ?_⟩) hHeld ?_ ?_
              rotate_left
              ·rintro w' ⟨s0, s1, s2, s3, s4⟩
               go_simp
               with_reducible rfl
              rotate_left
              ·simp only [Act.put, List.setIfInBounds_toArray, List.set_cons_zero, List.set_cons_succ, i64_w, i32_w]
               rfl
              refine take_ (i := 2) (N := some 77) (v := ?_) (a' := ?_) #[true, false, true, false, false, false] rfl rfl (by kernel_rfl) (fun _ _ _ h => h) (Or.inl ⟨by rfl, ?_⟩) hHeld ?_ ?_
              rotate_left
              ·rintro w' ⟨s0, s1, s2, s3, s4⟩
               go_simp
               with_reducible rfl
              rotate_left
              ·simp only [Act.put, List.setIfInBounds_toArray, List.set_cons_zero, List.set_cons_succ, i64_w, i32_w]
               rfl
              refine one_ (i := 1) (N := some 76) #[true, true, true, false, false, false] rfl rfl (by kernel_rfl) (by decide) (fun K hK => ?_)
              refine goes_ Tryd.func24 (by kernel_rfl) rfl #[.agg #[.slice A0_0 l0_0.length c0_0]] (by rfl) rfl rfl (by (try simp only [List.map_toArray, List.map_cons, List.map_nil]); first | done | rfl) ?_
              with_reducible refine (laws_toHeap.calls kj34 _ _ l0_0 t379 _ ?side1 ?side2 A93.out).mono ?_
              (case side1 => repeat (first | exact (Kd.zA HR0_0.out HB.out) | (with_reducible refine Kd.qS ?_ _) | (with_reducible refine Kd.qT ?_ _) | (with_reducible refine Kd.qU ?_)))
              (case side2 => exact HC0_0.out)
              rintro e w113 ⟨v380, rfl, ho0, hb⟩
              refine ⟨_, rfl, ?_⟩
              have n0_ := qV.mk (Kd.qY (by (with_reducible repeat (first | apply Kd.qM | apply Kd.qN | apply Kd.qO)); exact HO_6.out) hb)
              have n1_ := qV.mk (Kd.qY (by (with_reducible repeat (first | apply Kd.qM | apply Kd.qN | apply Kd.qO)); exact HO_9.out) hb)
              have n2_ := qV.mk (Kd.S_elder' (by (with_reducible repeat (first | apply Kd.qP | apply Kd.qQ | apply Kd.qR)); exact HO_345000.out) (Kd.S_base ho0) hb)
              have n3_ := qV.mk (Kd.qY (by (with_reducible repeat (first | apply Kd.qM | apply Kd.qN | apply Kd.qO)); exact HO_354001.out) hb)
              have n4_ := qV.mk (Kd.qY (by (with_reducible repeat (first | apply Kd.qM | apply Kd.qN | apply Kd.qO)); exact HO_354002.out) hb)
              have n5_ := qV.mk (Kd.S_lower (Kd.S_new' (Kd.S_new' (Kd.S_new' ho0 (Kd.R_lt (by (with_reducible repeat (first | apply Kd.qM | apply Kd.qN | apply Kd.qO)); exact HO_6.out))) (Kd.R_lt (by (with_reducible repeat (first | apply Kd.qM | apply Kd.qN | apply Kd.qO)); exact HO_9.out))) (Kd.S_lt (by (with_reducible repeat (first | apply Kd.qP | apply Kd.qQ | apply Kd.qR)); exact HO_345000.out))) (qF (by repeat (first | (with_reducible first | exact HB.out | apply qA | apply qB | apply qC | refine qD ?_ GE323.out | refine qD ?_ GE324.out | refine qD ?_ GE344.out | refine qD ?_ GE353.out) | exact HB.out))))
              have n6_ := qV.mk (qL (g := gb323) (o := .cells #[.slice A0_0 l0_0.length c0_0] 34 (0, 0)) (by (with_reducible repeat (first | refine qH ?_ _ | refine qI ?_ | refine qG ?_ _)); exact BK323.out) hb)
              have n7_ := qV.mk (qL (g := gb324) (o := .cells #[.int .i64 a1_0, .slice A1_1 l1_1.length c1_1, .slice A1_2 l1_2.length c1_2, .int .i64 a1_3] 61 (0, 0)) (by (with_reducible repeat (first | refine qH ?_ _ | refine qI ?_ | refine qG ?_ _)); exact BK324.out) hb)
              have n8_ := qV.mk (qL (g := gb344) (o := .cells #[.slice Ao53 t341.length co53] 39 (0, 0)) (by (with_reducible repeat (first | refine qH ?_ _ | refine qI ?_ | refine qG ?_ _)); exact BK344.out) hb)
              have n9_ := qV.mk (qL (g := gb353) (o := .cells #[.int .i64 t345, .slice Ao64 t373.length co64, .slice Ao65 t374.length co65, .int .i64 t352] 66 (0, 0)) (by (with_reducible repeat (first | refine qH ?_ _ | refine qI ?_ | refine qG ?_ _)); exact BK353.out) hb)
              have n10_ := qV.mk (qE (by repeat (first | (with_reducible first | exact HB.out | apply qA | apply qB | apply qC | refine qD ?_ GE323.out | refine qD ?_ GE324.out | refine qD ?_ GE344.out | refine qD ?_ GE353.out) | exact HB.out)) hb)
              clear HO_6 HO_9 HO_345000 HO_354001 HO_354002 BK323 BK324 BK344 BK353 HB
              have HO_6 := n0_
              have HO_9 := n1_
              have HO_345000 := n2_
              have HO_354001 := n3_
              have HO_354002 := n4_
              have HO381 := n5_
              have BK323 := n6_
              have BK324 := n7_
              have BK344 := n8_
              have BK353 := n9_
              have HB := n10_
              clear n0_ n1_ n2_ n3_ n4_ n5_ n6_ n7_ n8_ n9_ n10_
              (try clear hb)
              (try clear hb2)
              (try clear hk)
              (try clear hi)
              (try clear ho0)
              refine hK.out _ _ ⟨(qJ BK323.out 0).trans rfl, (qJ BK324.out 0).trans rfl, (qJ BK324.out 1).trans rfl, (qJ BK324.out 2).trans rfl, (qJ BK324.out 3).trans rfl⟩ (fun hHeld => ?_)
              clear hK K
              refine norm_ (a' := ?_) ?_ ?_
              rotate_left
              ·show Act.put _ (some 76) _ = _
               simp only [Act.put, List.setIfInBounds_toArray, List.set_cons_zero, List.set_cons_succ, i64_w, i32_w]
               rfl
              refine one_ (i := 3) (N := some 78) #[true, true, true, true, false, false] rfl rfl (by kernel_rfl) (by decide) (fun K hK => ?_)
              refine goes_ Tryd.func37 (by kernel_rfl) rfl #[.agg #[.int .i64 a1_0, .slice A1_1 l1_1.length c1_1, .slice A1_2 l1_2.length c1_2, .int .i64 a1_3]] (by rfl) rfl rfl (by (try simp only [List.map_toArray, List.map_cons, List.map_nil]); first | done | rfl) ?_
              with_reducible refine (laws_toArray.calls kj34 a1_0 _ _ l1_1 _ _ l1_2 a1_3 t382 t383 t386 t389 _ ?side1 ?side2 ?side3 ?side4 A94.out).mono ?_
              (case side1 => repeat (first | exact (Kd.zA HR1_1.out HB.out) | (with_reducible refine Kd.qS ?_ _) | (with_reducible refine Kd.qT ?_ _) | (with_reducible refine Kd.qU ?_)))
              (case side2 => exact HC1_1.out)
              (case side3 => repeat (first | exact (Kd.zA HR1_2.out HB.out) | (with_reducible refine Kd.qS ?_ _) | (with_reducible refine Kd.qT ?_ _) | (with_reducible refine Kd.qU ?_)))
              (case side4 => exact HC1_2.out)
              rintro e w114 ⟨v384, v387, rfl, ho0, ho1, hb⟩
              refine ⟨_, rfl, ?_⟩
              have n0_ := qV.mk (Kd.qY (by (with_reducible repeat (first | apply Kd.qM | apply Kd.qN | apply Kd.qO)); exact HO_6.out) hb)
              have n1_ := qV.mk (Kd.qY (by (with_reducible repeat (first | apply Kd.qM | apply Kd.qN | apply Kd.qO)); exact HO_9.out) hb)
              have n2_ := qV.mk (Kd.qZ (by (with_reducible repeat (first | apply Kd.qP | apply Kd.qQ | apply Kd.qR)); exact HO_345000.out) hb)
              have n3_ := qV.mk (Kd.zG (Kd.R_told (Kd.R_told (Kd.R_old (by (with_reducible repeat (first | apply Kd.qM | apply Kd.qN | apply Kd.qO)); exact HO_354001.out) hb) (Kd.R_base ho0)) (Kd.R_base ho1)) (fun _ h_ => h_.1))
              have n4_ := qV.mk (Kd.zG (Kd.R_told (Kd.R_told (Kd.R_old (by (with_reducible repeat (first | apply Kd.qM | apply Kd.qN | apply Kd.qO)); exact HO_354002.out) hb) (Kd.R_base ho0)) (Kd.R_base ho1)) (fun _ h_ => h_.1))
              have n5_ := qV.mk (Kd.qZ (by (with_reducible repeat (first | apply Kd.qP | apply Kd.qQ | apply Kd.qR)); exact HO381.out) hb)
              have n6_ := qV.mk (Kd.R_lower (Kd.R_new' (Kd.R_new' ho0 (Kd.R_lt (by (with_reducible repeat (first | apply Kd.qM | apply Kd.qN | apply Kd.qO)); exact HO_354001.out))) (Kd.R_lt (by (with_reducible repeat (first | apply Kd.qM | apply Kd.qN | apply Kd.qO)); exact HO_354002.out))) (qF (by repeat (first | (with_reducible first | exact HB.out | apply qA | apply qB | apply qC | refine qD ?_ GE323.out | refine qD ?_ GE324.out | refine qD ?_ GE344.out | refine qD ?_ GE353.out) | exact HB.out))))
              have n7_ := qV.mk (Kd.R_lower (Kd.R_new' (Kd.R_new' ho1 (Kd.R_lt (by (with_reducible repeat (first | apply Kd.qM | apply Kd.qN | apply Kd.qO)); exact HO_354001.out))) (Kd.R_lt (by (with_reducible repeat (first | apply Kd.qM | apply Kd.qN | apply Kd.qO)); exact HO_354002.out))) (qF (by repeat (first | (with_reducible first | exact HB.out | apply qA | apply qB | apply qC | refine qD ?_ GE323.out | refine qD ?_ GE324.out | refine qD ?_ GE344.out | refine qD ?_ GE353.out) | exact HB.out))))
              have n8_ := qV.mk (qL (g := gb323) (o := .cells #[.slice A0_0 l0_0.length c0_0] 34 (0, 0)) (by (with_reducible repeat (first | refine qH ?_ _ | refine qI ?_ | refine qG ?_ _)); exact BK323.out) hb)
              have n9_ := qV.mk (qL (g := gb324) (o := .cells #[.int .i64 a1_0, .slice A1_1 l1_1.length c1_1, .slice A1_2 l1_2.length c1_2, .int .i64 a1_3] 61 (0, 0)) (by (with_reducible repeat (first | refine qH ?_ _ | refine qI ?_ | refine qG ?_ _)); exact BK324.out) hb)
              have n10_ := qV.mk (qL (g := gb344) (o := .cells #[.slice Ao53 t341.length co53] 39 (0, 0)) (by (with_reducible repeat (first | refine qH ?_ _ | refine qI ?_ | refine qG ?_ _)); exact BK344.out) hb)
              have n11_ := qV.mk (qL (g := gb353) (o := .cells #[.int .i64 t345, .slice Ao64 t373.length co64, .slice Ao65 t374.length co65, .int .i64 t352] 66 (0, 0)) (by (with_reducible repeat (first | refine qH ?_ _ | refine qI ?_ | refine qG ?_ _)); exact BK353.out) hb)
              have n12_ := qV.mk (qE (by repeat (first | (with_reducible first | exact HB.out | apply qA | apply qB | apply qC | refine qD ?_ GE323.out | refine qD ?_ GE324.out | refine qD ?_ GE344.out | refine qD ?_ GE353.out) | exact HB.out)) hb)
              clear HO_6 HO_9 HO_345000 HO_354001 HO_354002 HO381 BK323 BK324 BK344 BK353 HB
              have HO_6 := n0_
              have HO_9 := n1_
              have HO_345000 := n2_
              have HO_354001 := n3_
              have HO_354002 := n4_
              have HO381 := n5_
              have HO385 := n6_
              have HO388 := n7_
              have BK323 := n8_
              have BK324 := n9_
              have BK344 := n10_
              have BK353 := n11_
              have HB := n12_
              clear n0_ n1_ n2_ n3_ n4_ n5_ n6_ n7_ n8_ n9_ n10_ n11_ n12_
              (try clear hb)
              (try clear hb2)
              (try clear hk)
              (try clear hi)
              (try clear ho0)
              (try clear ho1)
              obtain ⟨Ao115, co115, eo115⟩ := Kd.S_slice HO381.out
              (first | subst eo115 | (injection eo115 with f1_ f2_ f3_; have f4_ := f1_.symm; have f5_ := f3_.symm; clear f1_ f2_ f3_; subst f4_; subst f5_))
              obtain ⟨Ao116, co116, eo116⟩ := Kd.zB HO385.out
              (first | subst eo116 | (injection eo116 with f1_ f2_ f3_; have f4_ := f1_.symm; have f5_ := f3_.symm; clear f1_ f2_ f3_; subst f4_; subst f5_))
              obtain ⟨Ao117, co117, eo117⟩ := Kd.zB HO388.out
              (first | subst eo117 | (injection eo117 with f1_ f2_ f3_; have f4_ := f1_.symm; have f5_ := f3_.symm; clear f1_ f2_ f3_; subst f4_; subst f5_))
              refine hK.out _ _ ⟨(qJ BK323.out 0).trans rfl, (qJ BK324.out 0).trans rfl, (qJ BK324.out 1).trans rfl, (qJ BK324.out 2).trans rfl, (qJ BK324.out 3).trans rfl⟩ (fun hHeld => ?_)
              clear hK K
              refine norm_ (a' := ?_) ?_ ?_
              rotate_left
              ·show Act.put _ (some 78) _ = _
               simp only [Act.put, List.setIfInBounds_toArray, List.set_cons_zero, List.set_cons_succ, i64_w, i32_w]
               rfl
              refine one_ (i := 4) (N := some 79) #[true, true, true, true, true, false] rfl rfl (by kernel_rfl) (by decide) (fun K hK => ?_)
              refine goes_ Tryd.func46 (by kernel_rfl) rfl #[.agg #[.slice Ao115 t379.length co115], .agg #[.int .i64 t382, .slice Ao116 t383.length co116, .slice Ao117 t386.length co117, .int .i64 t389]] (by rfl) rfl rfl (by (try simp only [List.map_toArray, List.map_cons, List.map_nil]); first | done | rfl) ?_
              with_reducible refine (impl_Read.calls kj34 _ _ t379 t382 _ _ t383 _ _ t386 t389 t390 _ ?side1 ?side2 ?side3 ?side4 ?side5 ?side6 ?sideT A95.out).mono ?_
              (case sideT => refine Table.holds_below HT.out ?_ HT0.out; repeat (first | (with_reducible first | exact HB.out | apply qA | apply qB | apply qC | refine qD ?_ GE323.out | refine qD ?_ GE324.out | refine qD ?_ GE344.out | refine qD ?_ GE353.out) | exact HB.out))
              (case side1 => repeat (first | exact (Kd.zD HO381.out).2.2 | (with_reducible refine Kd.qS ?_ _) | (with_reducible refine Kd.qT ?_ _) | (with_reducible refine Kd.qU ?_)))
              (case side2 => exact (Kd.zD HO381.out).2.1)
              (case side3 => repeat (first | exact (Kd.zC HO385.out).2.2 | (with_reducible refine Kd.qS ?_ _) | (with_reducible refine Kd.qT ?_ _) | (with_reducible refine Kd.qU ?_)))
              (case side4 => exact (Kd.zC HO385.out).2.1)
              (case side5 => repeat (first | exact (Kd.zC HO388.out).2.2 | (with_reducible refine Kd.qS ?_ _) | (with_reducible refine Kd.qT ?_ _) | (with_reducible refine Kd.qU ?_)))
              (case side6 => exact (Kd.zC HO388.out).2.1)
              rintro e w118 ⟨v391, rfl, ho0, hb⟩
              refine ⟨_, rfl, ?_⟩
              have n0_ := qV.mk (Kd.R_elder' (by (with_reducible repeat (first | apply Kd.qM | apply Kd.qN | apply Kd.qO)); exact HO_6.out) (Kd.R_base ho0) hb)
              have n1_ := qV.mk (Kd.R_elder' (by (with_reducible repeat (first | apply Kd.qM | apply Kd.qN | apply Kd.qO)); exact HO_9.out) (Kd.R_base ho0) hb)
              have n2_ := qV.mk (Kd.S_elder' (by (with_reducible repeat (first | apply Kd.qP | apply Kd.qQ | apply Kd.qR)); exact HO_345000.out) (Kd.R_base ho0) hb)
              have n3_ := qV.mk (Kd.qY (by (with_reducible repeat (first | apply Kd.qM | apply Kd.qN | apply Kd.qO)); exact HO_354001.out) hb)
              have n4_ := qV.mk (Kd.qY (by (with_reducible repeat (first | apply Kd.qM | apply Kd.qN | apply Kd.qO)); exact HO_354002.out) hb)
              have n5_ := qV.mk (Kd.S_elder' (by (with_reducible repeat (first | apply Kd.qP | apply Kd.qQ | apply Kd.qR)); exact HO381.out) (Kd.R_base ho0) hb)
              have n6_ := qV.mk (Kd.qY (by (with_reducible repeat (first | apply Kd.qM | apply Kd.qN | apply Kd.qO)); exact HO385.out) hb)
              have n7_ := qV.mk (Kd.qY (by (with_reducible repeat (first | apply Kd.qM | apply Kd.qN | apply Kd.qO)); exact HO388.out) hb)
              have n8_ := qV.mk (Kd.R_lower (Kd.R_new' (Kd.R_new' ho0 (Kd.R_lt (by (with_reducible repeat (first | apply Kd.qM | apply Kd.qN | apply Kd.qO)); exact HO_6.out))) (Kd.R_lt (by (with_reducible repeat (first | apply Kd.qM | apply Kd.qN | apply Kd.qO)); exact HO_9.out))) (qF (by repeat (first | (with_reducible first | exact HB.out | apply qA | apply qB | apply qC | refine qD ?_ GE323.out | refine qD ?_ GE324.out | refine qD ?_ GE344.out | refine qD ?_ GE353.out) | exact HB.out))))
              have n9_ := qV.mk (qL (g := gb323) (o := .cells #[.slice A0_0 l0_0.length c0_0] 34 (0, 0)) (by (with_reducible repeat (first | refine qH ?_ _ | refine qI ?_ | refine qG ?_ _)); exact BK323.out) hb)
              have n10_ := qV.mk (qL (g := gb324) (o := .cells #[.int .i64 a1_0, .slice A1_1 l1_1.length c1_1, .slice A1_2 l1_2.length c1_2, .int .i64 a1_3] 61 (0, 0)) (by (with_reducible repeat (first | refine qH ?_ _ | refine qI ?_ | refine qG ?_ _)); exact BK324.out) hb)
              have n11_ := qV.mk (qL (g := gb344) (o := .cells #[.slice Ao53 t341.length co53] 39 (0, 0)) (by (with_reducible repeat (first | refine qH ?_ _ | refine qI ?_ | refine qG ?_ _)); exact BK344.out) hb)
              have n12_ := qV.mk (qL (g := gb353) (o := .cells #[.int .i64 t345, .slice Ao64 t373.length co64, .slice Ao65 t374.length co65, .int .i64 t352] 66 (0, 0)) (by (with_reducible repeat (first | refine qH ?_ _ | refine qI ?_ | refine qG ?_ _)); exact BK353.out) hb)
              have n13_ := qV.mk (qE (by repeat (first | (with_reducible first | exact HB.out | apply qA | apply qB | apply qC | refine qD ?_ GE323.out | refine qD ?_ GE324.out | refine qD ?_ GE344.out | refine qD ?_ GE353.out) | exact HB.out)) hb)
              clear HO_6 HO_9 HO_345000 HO_354001 HO_354002 HO381 HO385 HO388 BK323 BK324 BK344 BK353 HB
              have HO_6 := n0_
              have HO_9 := n1_
              have HO_345000 := n2_
              have HO_354001 := n3_
              have HO_354002 := n4_
              have HO381 := n5_
              have HO385 := n6_
              have HO388 := n7_
              have HO392 := n8_
              have BK323 := n9_
              have BK324 := n10_
              have BK344 := n11_
              have BK353 := n12_
              have HB := n13_
              clear n0_ n1_ n2_ n3_ n4_ n5_ n6_ n7_ n8_ n9_ n10_ n11_ n12_ n13_
              (try clear hb)
              (try clear hb2)
              (try clear hk)
              (try clear hi)
              (try clear ho0)
              refine hK.out _ _ ⟨(qJ BK323.out 0).trans rfl, (qJ BK324.out 0).trans rfl, (qJ BK324.out 1).trans rfl, (qJ BK324.out 2).trans rfl, (qJ BK324.out 3).trans rfl⟩ (fun hHeld => ?_)
              clear hK K
              refine norm_ (a' := ?_) ?_ ?_
              rotate_left
              ·show Act.put _ (some 79) _ = _
               simp only [Act.put, List.setIfInBounds_toArray, List.set_cons_zero, List.set_cons_succ, i64_w, i32_w]
               rfl
              refine pure_ (i := 5) (N := some 13) (v := ?_) (a' := ?_) #[true, true, true, true, true, true] rfl rfl (by kernel_rfl) (fun _ _ _ h => h) (Or.inl ⟨by rfl, ?_⟩) ?_ ?_
              rotate_left
              ·intro w'
               go_simp
               with_reducible rfl
              rotate_left
              ·simp only [Act.put, List.setIfInBounds_toArray, List.set_cons_zero, List.set_cons_succ, i64_w, i32_w]
               rfl
              refine done_ (by kernel_rfl) ?_
              obtain ⟨Ao119, co119, eo119⟩ := Kd.zB HO392.out
              subst eo119
              try go_wp2_with (first | ((with_reducible refine gate_callee (f := 47) rfl ?_); refine qW (some 82) rfl rfl Tryd.func47 (by kernel_rfl) rfl #[.slice Ao119 t390.length co119, .slice Ao69 t338.length co69] rfl (by (try simp only [List.map_toArray, List.map_cons, List.map_nil]); first | done | rfl) ?_; (with_reducible refine (jB.calls kj34 _ _ t390 _ _ t338 true _ ?side1 ?side2 ?side3 ?side4 A96.out).mono ?_); (case side1 => repeat (first | exact (Kd.zC HO392.out).2.2 | (with_reducible refine Kd.qS ?_ _) | (with_reducible refine Kd.qT ?_ _) | (with_reducible refine Kd.qU ?_))); (case side2 => exact (Kd.zC HO392.out).2.1); (case side3 => repeat (first | exact (Kd.zC HO_6.out).2.2 | (with_reducible refine Kd.qS ?_ _) | (with_reducible refine Kd.qT ?_ _) | (with_reducible refine Kd.qU ?_))); (case side4 => exact (Kd.zC HO_6.out).2.1); rintro e w120 ⟨rfl, hb⟩; refine ⟨_, rfl, ?_⟩; have n0_ := qV.mk (Kd.qY (by (with_reducible repeat (first | apply Kd.qM | apply Kd.qN | apply Kd.qO)); exact HO_6.out) hb); have n1_ := qV.mk (Kd.qY (by (with_reducible repeat (first | apply Kd.qM | apply Kd.qN | apply Kd.qO)); exact HO_9.out) hb); have n2_ := qV.mk (Kd.qZ (by (with_reducible repeat (first | apply Kd.qP | apply Kd.qQ | apply Kd.qR)); exact HO_345000.out) hb); have n3_ := qV.mk (Kd.qY (by (with_reducible repeat (first | apply Kd.qM | apply Kd.qN | apply Kd.qO)); exact HO_354001.out) hb); have n4_ := qV.mk (Kd.qY (by (with_reducible repeat (first | apply Kd.qM | apply Kd.qN | apply Kd.qO)); exact HO_354002.out) hb); have n5_ := qV.mk (Kd.qZ (by (with_reducible repeat (first | apply Kd.qP | apply Kd.qQ | apply Kd.qR)); exact HO381.out) hb); have n6_ := qV.mk (Kd.qY (by (with_reducible repeat (first | apply Kd.qM | apply Kd.qN | apply Kd.qO)); exact HO385.out) hb); have n7_ := qV.mk (Kd.qY (by (with_reducible repeat (first | apply Kd.qM | apply Kd.qN | apply Kd.qO)); exact HO388.out) hb); have n8_ := qV.mk (Kd.qY (by (with_reducible repeat (first | apply Kd.qM | apply Kd.qN | apply Kd.qO)); exact HO392.out) hb); have n9_ := qV.mk (qL (g := gb323) (o := .cells #[.slice A0_0 l0_0.length c0_0] 34 (0, 0)) (by (with_reducible repeat (first | refine qH ?_ _ | refine qI ?_ | refine qG ?_ _)); exact BK323.out) hb); have n10_ := qV.mk (qL (g := gb324) (o := .cells #[.int .i64 a1_0, .slice A1_1 l1_1.length c1_1, .slice A1_2 l1_2.length c1_2, .int .i64 a1_3] 61 (0, 0)) (by (with_reducible repeat (first | refine qH ?_ _ | refine qI ?_ | refine qG ?_ _)); exact BK324.out) hb); have n11_ := qV.mk (qL (g := gb344) (o := .cells #[.slice Ao53 t341.length co53] 39 (0, 0)) (by (with_reducible repeat (first | refine qH ?_ _ | refine qI ?_ | refine qG ?_ _)); exact BK344.out) hb); have n12_ := qV.mk (qL (g := gb353) (o := .cells #[.int .i64 t345, .slice Ao64 t373.length co64, .slice Ao65 t374.length co65, .int .i64 t352] 66 (0, 0)) (by (with_reducible repeat (first | refine qH ?_ _ | refine qI ?_ | refine qG ?_ _)); exact BK353.out) hb); have n13_ := qV.mk (qE (by repeat (first | (with_reducible first | exact HB.out | apply qA | apply qB | apply qC | refine qD ?_ GE323.out | refine qD ?_ GE324.out | refine qD ?_ GE344.out | refine qD ?_ GE353.out) | exact HB.out)) hb); clear HO_6 HO_9 HO_345000 HO_354001 HO_354002 HO381 HO385 HO388 HO392 BK323 BK324 BK344 BK353 HB; have HO_6 := n0_; have HO_9 := n1_; have HO_345000 := n2_; have HO_354001 := n3_; have HO_354002 := n4_; have HO381 := n5_; have HO385 := n6_; have HO388 := n7_; have HO392 := n8_; have BK323 := n9_; have BK324 := n10_; have BK344 := n11_; have BK353 := n12_; have HB := n13_; clear n0_ n1_ n2_ n3_ n4_ n5_ n6_ n7_ n8_ n9_ n10_ n11_ n12_ n13_; (try clear hb); (try clear hb2); (try clear hk); (try clear hi)) | ((with_reducible refine gate_callee (f := 51) rfl ?_); refine qW (some 86) rfl rfl Tryd.func51 (by kernel_rfl) rfl #[.slice Ao68 t377.length co68, .int .i64 1] rfl (by (try simp only [List.map_toArray, List.map_cons, List.map_nil]); first | done | (rw [show t377.length = t354.length from (Kd.zC HO_9.out).1.symm] <;> rfl) | rfl | (simp only [List.length_drop, List.length_take]; rfl)) ?_; (with_reducible refine (jL.calls kj34 _ _ t377 1 t394 _ ?side1 ?side2 A98.out).mono ?_); (case side1 => repeat (first | exact (Kd.zC HO_9.out).2.2 | (with_reducible refine Kd.qS ?_ _) | (with_reducible refine Kd.qT ?_ _) | (with_reducible refine Kd.qU ?_))); (case side2 => rw [show t377.length = t354.length from (Kd.zC HO_9.out).1.symm]; exact (Kd.zC HO_9.out).2.1); rintro e w' ⟨rfl, ⟨nd, rfl⟩⟩; refine ⟨_, rfl, ?_⟩))
              go_ret
              exact ⟨by first | rfl | (simp [zS, zR] <;> rfl) | (simp [*, zS, zR] <;> rfl), by repeat (first | (with_reducible first | exact HB.out | apply qA | apply qB | apply qC | refine qD ?_ GE323.out | refine qD ?_ GE324.out | refine qD ?_ GE344.out | refine qD ?_ GE353.out) | exact HB.out)⟩
             ·rw [if_neg c110] at H
              have c110b0 : (t394 == t376) = false := beq_eq_false_iff_ne.mpr c110
              have c110b1 : (t394 != t376) = true := bne_iff_ne.mpr c110
              exact absurd (Option.some.inj H) (by decide)
           ·replace c97 := Bool.eq_false_iff.mpr c97
            subst c97
            rw [if_neg (show ¬ (false = true) by decide)] at H
            exact absurd (Option.some.inj H) (by decide)
          ·rw [if_neg c92] at H
           have c92b0 : (t378 == t376) = false := beq_eq_false_iff_ne.mpr c92
           have c92b1 : (t378 != t376) = true := bne_iff_ne.mpr c92
           exact absurd (Option.some.inj H) (by decide)
     ·replace c32 := Bool.eq_false_iff.mpr c32
      subst c32
      rw [if_neg (show ¬ (false = true) by decide)] at H
      exact absurd (Option.some.inj H) (by decide)
    ·replace c29 := Bool.eq_false_iff.mpr c29
     subst c29
     rw [if_neg (show ¬ (false = true) by decide)] at H
     exact absurd (Option.some.inj H) (by decide)
   ·replace c26 := Bool.eq_false_iff.mpr c26
    subst c26
    rw [if_neg (show ¬ (false = true) by decide)] at H
    exact absurd (Option.some.inj H) (by decide)

end Go.Proofs.YtpmdgmnpkdoamabDoor.DFnExactRead
