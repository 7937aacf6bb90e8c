/- Proved here: what the functions answer that the law on Read comes to (the lines were written by a program). Conditions: those that stand ahead in each theorem. -/
import Derived.Test.YtpmdgmnpkdoamabDoorRdDFnExactReadx0
import Derived.Test.YtpmdgmnpkdoamabDoorRdDFnExactReadx7
namespace Go.Proofs.YtpmdgmnpkdoamabDoor.DFnExactRead
open Go.RowKit Go.Proofs.YtpmdgmnpkdoamabDoorW.PrintWords Go.Proofs.YtpmdgmnpkdoamabDoorW.PrintLast Go.Proofs.YtpmdgmnpkdoamabDoorW.PrintMore
attribute [local go_sem] Vc.run_store_float' max2_int min2_int max_two min_two max_three min_three max_four min_four   -- for this text's walks alone
set_option linter.unusedVariables false
set_option linter.unusedSimpArgs false

def spec_Read.f (k : Nat) (l0_0 : List (S85)) (a1_0 : Int) (l1_1 : List Int) (l1_2 : List Int) (a1_3 : Int) : Option ((List (S27))) := (spec_ValidArray.f k l0_0 a1_0 l1_1 l1_2 a1_3).bind fun t263 => (if t263 = true then ((jM.f k l0_0 a1_0 l1_1 l1_2 a1_3).bind fun t264 => (some t264)) else (some (([] : List (S27)))))
theorem spec_Read.mono : ∀ a0 a1 a2 a3 a4 k, LeO (spec_Read.f k a0 a1 a2 a3 a4) (spec_Read.f (k + 1) a0 a1 a2 a3 a4) := by
 intro a0 a1 a2 a3 a4 k
 unfold spec_Read.f
 repeat' first
   | (with_reducible exact spec_ValidArray.mono _ _ _ _ _ _)
   | (with_reducible exact jM.mono _ _ _ _ _ _)
   | (with_reducible exact LeO.refl _)
   | (with_reducible exact LeO.none _)
   | (with_reducible refine LeO.ite ?_ ?_)
   | (with_reducible refine LeO.bind ?_ (fun _ => ?_))
   | exact spec_ValidArray.mono _ _ _ _ _ _
   | exact jM.mono _ _ _ _ _ _
   | exact LeO.none _
   | refine LeO.ite ?_ ?_
   | refine LeO.bind ?_ (fun _ => ?_)
set_option maxHeartbeats 8000000 in
set_option maxRecDepth 100000 in
theorem spec_Read.calls (k : Nat) (A0_0 : Option Addr) (c0_0 : Nat) (l0_0 : List (S85)) (a1_0 : Int) (A1_1 : Option Addr) (c1_1 : Nat) (l1_1 : List Int) (A1_2 : Option Addr) (c1_2 : Nat) (l1_2 : List Int) (a1_3 : Int) (r : List (S27)) (w : World) (hr0_0 : Kd.C k85 w A0_0 l0_0.length l0_0) (hc0_0 : l0_0.length ≤ c0_0) (hr1_1 : Kd.C (Kd.int .i64) w A1_1 l1_1.length l1_1) (hc1_1 : l1_1.length ≤ c1_1) (hr1_2 : Kd.C (Kd.int .i64) w A1_2 l1_2.length l1_2) (hc1_2 : l1_2.length ≤ c1_2) (hT : Table.Holds w) (h : spec_Read.f k l0_0 a1_0 l1_1 l1_2 a1_3 = some r) :
  Calls Tryd.prog 45 #[.agg #[.slice A0_0 l0_0.length c0_0], .agg #[.int .i64 a1_0, .slice A1_1 l1_1.length c1_1, .slice A1_2 l1_2.length c1_2, .int .i64 a1_3]] w fun e w' => ∃ v0_ : Value, e = .returned (v0_) ∧ Kd.R k27 27 w' w.heap.size (fun _ => True) v0_ r ∧ Below w.heap.size w w' := by
 have HT0 := qV.mk (World.block_lt_of_cell? w _ (hT 0 0 (by omega) (by omega)))
 have HT := qV.mk hT
 clear hT
 have hu39 := Tryd.underlying39
 have hu66 := Tryd.underlying66
 have hu64 := Tryd.underlying64
 have HR0_0 := qV.mk hr0_0
 have HC0_0 := qV.mk hc0_0
 clear hr0_0 hc0_0
 have HR1_1 := qV.mk hr1_1
 have HC1_1 := qV.mk hc1_1
 clear hr1_1 hc1_1
 have HR1_2 := qV.mk hr1_2
 have HC1_2 := qV.mk hc1_2
 clear hr1_2 hc1_2
 have HB := qV.mk (Below.refl w.heap.size w)
 have H : ((spec_ValidArray.f k l0_0 a1_0 l1_1 l1_2 a1_3).bind fun t263 => (if t263 = true then ((jM.f k l0_0 a1_0 l1_1 l1_2 a1_3).bind fun t264 => (some t264)) else (some (([] : List (S27)))))) = some r := h
 clear h
 replace H := Option.bind_eq_some_iff.mp H
 obtain ⟨t263, A30, H⟩ := H
 try dsimp only at H
 have A3 := qV.mk A30
 clear A30
 by_cases c4 : t263 = true
 ·subst c4
  rw [if_pos rfl] at H
  replace H := Option.bind_eq_some_iff.mp H
  obtain ⟨t264, A50, H⟩ := H
  try dsimp only at H
  have A5 := qV.mk A50
  clear A50
  obtain rfl := Option.some.inj H
  go_enter Tryd.func45, Tryd.ntmps45
  go_wp2_with (first | ((with_reducible refine gate_dst (N := 2) rfl ?_); refine qX ?hg (N := 2) ?hd (cs := #[.slice A0_0 l0_0.length c0_0]) (t := 39) ?hr ?_; (case hd => rfl); (case hg => rfl); (case hr => first | (go_simp; done) | (go_simp; rfl)); intro gb261 hg w6 hbox hb; have n0_ := qV.mk (qE (by repeat (first | (with_reducible first | exact HB.out | apply qA | apply qB | apply qC) | exact HB.out)) hb); have n1_ := qV.mk (hbox); have n2_ := qV.mk ((by rw [hg]; exact (qF (by repeat (first | (with_reducible first | exact HB.out | apply qA | apply qB | apply qC) | exact HB.out))) : w.heap.size ≤ gb261)); have n3_ := qV.mk ((by rw [hg]; exact (qF (by repeat (first | (with_reducible first | exact HB.out | apply qA | apply qB | apply qC) | exact HB.out))) : w.heap.size ≤ gb261)); clear HB; have HB := n0_; have BK261 := n1_; have GW261 := n2_; have GE261 := n3_; clear n0_ n1_ n2_ n3_; clear hb hbox hg) | ((with_reducible refine gate_dst (N := 3) rfl ?_); refine qX ?hg (N := 3) ?hd (cs := #[.int .i64 a1_0, .slice A1_1 l1_1.length c1_1, .slice A1_2 l1_2.length c1_2, .int .i64 a1_3]) (t := 66) ?hr ?_; (case hd => rfl); (case hg => rfl); (case hr => first | (go_simp; done) | (go_simp; rfl)); intro gb262 hg w7 hbox hb; have n0_ := qV.mk (qL (g := gb261) (o := .cells #[.slice A0_0 l0_0.length c0_0] 39 (0, 0)) (by (with_reducible repeat (first | refine qH ?_ _ | refine qI ?_ | refine qG ?_ _)); exact BK261.out) hb); have n1_ := qV.mk (qE (by repeat (first | (with_reducible first | exact HB.out | apply qA | apply qB | apply qC | refine qD ?_ GE261.out) | exact HB.out)) hb); have n2_ := qV.mk (hbox); have n3_ := qV.mk ((by rw [hg]; exact (qF (by repeat (first | (with_reducible first | exact HB.out | apply qA | apply qB | apply qC | refine qD ?_ GE261.out) | exact HB.out))) : w.heap.size ≤ gb262)); have n4_ := qV.mk ((by rw [hg]; exact (qF (by repeat (first | (with_reducible first | exact HB.out | apply qA | apply qB | apply qC | refine qD ?_ GE261.out) | exact HB.out))) : w.heap.size ≤ gb262)); have n5_ := qV.mk ((by rw [hg]; exact Nat.ne_of_lt (jR (g := gb261) (o := .cells #[.slice A0_0 l0_0.length c0_0] 39 (0, 0)) (by (with_reducible repeat (first | refine qH ?_ _ | refine qI ?_ | refine qG ?_ _)); exact BK261.out)) : gb261 ≠ gb262)); have n6_ := qV.mk ((by rw [hg]; exact Nat.ne_of_gt (jR (g := gb261) (o := .cells #[.slice A0_0 l0_0.length c0_0] 39 (0, 0)) (by (with_reducible repeat (first | refine qH ?_ _ | refine qI ?_ | refine qG ?_ _)); exact BK261.out)) : gb262 ≠ gb261)); clear BK261 HB; have BK261 := n0_; have HB := n1_; have BK262 := n2_; have GW262 := n3_; have GE262 := n4_; have NB261_262 := n5_; have NB262_261 := n6_; clear n0_ n1_ n2_ n3_ n4_ n5_ n6_ hb hbox hg; have hnb8 := NB261_262.out; have hnc8 := NB262_261.out; have hcz9_0 : w7.cell? ⟨gb261, 0, none⟩ = some (.slice A0_0 l0_0.length c0_0) := (qJ BK261.out 0).trans rfl; have hfz9_0 := qK BK261.out 0; have hcz10_0 : w7.cell? ⟨gb262, 0, none⟩ = some (.int .i64 a1_0) := (qJ BK262.out 0).trans rfl; have hcz10_1 : w7.cell? ⟨gb262, 1, none⟩ = some (.slice A1_1 l1_1.length c1_1) := (qJ BK262.out 1).trans rfl; have hcz10_2 : w7.cell? ⟨gb262, 2, none⟩ = some (.slice A1_2 l1_2.length c1_2) := (qJ BK262.out 2).trans rfl; have hcz10_3 : w7.cell? ⟨gb262, 3, none⟩ = some (.int .i64 a1_3) := (qJ BK262.out 3).trans rfl; have hfz10_0 := qK BK262.out 0; have hfz10_1 := qK BK262.out 1; have hfz10_2 := qK BK262.out 2; have hfz10_3 := qK BK262.out 3) | ((with_reducible refine gate_callee (f := 36) rfl ?_); refine qW (some 7) rfl rfl Tryd.func36 (by kernel_rfl) rfl #[.agg #[.slice A0_0 l0_0.length c0_0], .agg #[.int .i64 a1_0, .slice A1_1 l1_1.length c1_1, .slice A1_2 l1_2.length c1_2, .int .i64 a1_3]] rfl (by (try simp only [List.map_toArray, List.map_cons, List.map_nil]); first | done | rfl) ?_; (with_reducible refine (spec_ValidArray.calls k _ _ l0_0 a1_0 _ _ l1_1 _ _ l1_2 a1_3 true _ ?side1 ?side2 ?side3 ?side4 ?side5 ?side6 A3.out).mono ?_); (case side1 => repeat (first | exact (Kd.zA HR0_0.out HB.out) | (with_reducible refine Kd.qS ?_ _) | (with_reducible refine Kd.qT ?_ _) | (with_reducible refine Kd.qU ?_))); (case side2 => exact HC0_0.out); (case side3 => repeat (first | exact (Kd.zA HR1_1.out HB.out) | (with_reducible refine Kd.qS ?_ _) | (with_reducible refine Kd.qT ?_ _) | (with_reducible refine Kd.qU ?_))); (case side4 => exact HC1_1.out); (case side5 => repeat (first | exact (Kd.zA HR1_2.out HB.out) | (with_reducible refine Kd.qS ?_ _) | (with_reducible refine Kd.qT ?_ _) | (with_reducible refine Kd.qU ?_))); (case side6 => exact HC1_2.out); rintro e w11 ⟨rfl, hb⟩; refine ⟨_, rfl, ?_⟩; have n0_ := qV.mk (qL (g := gb261) (o := .cells #[.slice A0_0 l0_0.length c0_0] 39 (0, 0)) (by (with_reducible repeat (first | refine qH ?_ _ | refine qI ?_ | refine qG ?_ _)); exact BK261.out) hb); have n1_ := qV.mk (qL (g := gb262) (o := .cells #[.int .i64 a1_0, .slice A1_1 l1_1.length c1_1, .slice A1_2 l1_2.length c1_2, .int .i64 a1_3] 66 (0, 0)) (by (with_reducible repeat (first | refine qH ?_ _ | refine qI ?_ | refine qG ?_ _)); exact BK262.out) hb); have n2_ := qV.mk (qE (by repeat (first | (with_reducible first | exact HB.out | apply qA | apply qB | apply qC | refine qD ?_ GE261.out | refine qD ?_ GE262.out) | exact HB.out)) hb); clear BK261 BK262 HB; have BK261 := n0_; have BK262 := n1_; have HB := n2_; clear n0_ n1_ n2_; (try clear hb); (try clear hb2); (try clear hk); (try clear hi); have hcz12_0 : w11.cell? ⟨gb261, 0, none⟩ = some (.slice A0_0 l0_0.length c0_0) := (qJ BK261.out 0).trans rfl; have hfz12_0 := qK BK261.out 0; have hcz13_0 : w11.cell? ⟨gb262, 0, none⟩ = some (.int .i64 a1_0) := (qJ BK262.out 0).trans rfl; have hcz13_1 : w11.cell? ⟨gb262, 1, none⟩ = some (.slice A1_1 l1_1.length c1_1) := (qJ BK262.out 1).trans rfl; have hcz13_2 : w11.cell? ⟨gb262, 2, none⟩ = some (.slice A1_2 l1_2.length c1_2) := (qJ BK262.out 2).trans rfl; have hcz13_3 : w11.cell? ⟨gb262, 3, none⟩ = some (.int .i64 a1_3) := (qJ BK262.out 3).trans rfl; have hfz13_0 := qK BK262.out 0; have hfz13_1 := qK BK262.out 1; have hfz13_2 := qK BK262.out 2; have hfz13_3 := qK BK262.out 3) | ((with_reducible refine gate_callee (f := 111) rfl ?_); refine qW (some 15) rfl rfl Tryd.func111 (by kernel_rfl) rfl #[.agg #[.slice A0_0 l0_0.length c0_0], .int .i64 a1_0, .agg #[.slice A1_1 l1_1.length c1_1, .slice A1_2 l1_2.length c1_2, .int .i64 a1_3]] rfl (by (try simp only [List.map_toArray, List.map_cons, List.map_nil]); first | done | rfl) ?_; (with_reducible refine (jM.calls k _ _ l0_0 a1_0 _ _ l1_1 _ _ l1_2 a1_3 t264 _ ?side1 ?side2 ?side3 ?side4 ?side5 ?side6 A5.out).mono ?_); (case side1 => repeat (first | exact (Kd.zA HR0_0.out HB.out) | (with_reducible refine Kd.qS ?_ _) | (with_reducible refine Kd.qT ?_ _) | (with_reducible refine Kd.qU ?_))); (case side2 => exact HC0_0.out); (case side3 => repeat (first | exact (Kd.zA HR1_1.out HB.out) | (with_reducible refine Kd.qS ?_ _) | (with_reducible refine Kd.qT ?_ _) | (with_reducible refine Kd.qU ?_))); (case side4 => exact HC1_1.out); (case side5 => repeat (first | exact (Kd.zA HR1_2.out HB.out) | (with_reducible refine Kd.qS ?_ _) | (with_reducible refine Kd.qT ?_ _) | (with_reducible refine Kd.qU ?_))); (case side6 => exact HC1_2.out); rintro e w14 ⟨v265, rfl, ho0, hb⟩; refine ⟨_, rfl, ?_⟩; have n0_ := qV.mk (Kd.R_lower ho0 (qF (by repeat (first | (with_reducible first | exact HB.out | apply qA | apply qB | apply qC | refine qD ?_ GE261.out | refine qD ?_ GE262.out) | exact HB.out)))); have n1_ := qV.mk (qL (g := gb261) (o := .cells #[.slice A0_0 l0_0.length c0_0] 39 (0, 0)) (by (with_reducible repeat (first | refine qH ?_ _ | refine qI ?_ | refine qG ?_ _)); exact BK261.out) hb); have n2_ := qV.mk (qL (g := gb262) (o := .cells #[.int .i64 a1_0, .slice A1_1 l1_1.length c1_1, .slice A1_2 l1_2.length c1_2, .int .i64 a1_3] 66 (0, 0)) (by (with_reducible repeat (first | refine qH ?_ _ | refine qI ?_ | refine qG ?_ _)); exact BK262.out) hb); have n3_ := qV.mk (qE (by repeat (first | (with_reducible first | exact HB.out | apply qA | apply qB | apply qC | refine qD ?_ GE261.out | refine qD ?_ GE262.out) | exact HB.out)) hb); clear BK261 BK262 HB; have HO266 := n0_; have BK261 := n1_; have BK262 := n2_; have HB := n3_; clear n0_ n1_ n2_ n3_; (try clear hb); (try clear hb2); (try clear hk); (try clear hi); (try clear ho0)))
  go_ret
  exact ⟨_, by first | rfl | (simp [zS, zR] <;> rfl) | (simp [*, zS, zR] <;> rfl), by (with_reducible repeat (first | apply Kd.qM | apply Kd.qN | apply Kd.qO)); exact HO266.out, by repeat (first | (with_reducible first | exact HB.out | apply qA | apply qB | apply qC | refine qD ?_ GE261.out | refine qD ?_ GE262.out) | exact HB.out)⟩
 ·replace c4 := Bool.eq_false_iff.mpr c4
  subst c4
  rw [if_neg (show ¬ (false = true) by decide)] at H
  obtain ⟨y267, hy267⟩ : ∃ y_ : List (S27), y_ = (([] : List (S27))) := ⟨_, rfl⟩
  replace H : (some y267) = some r := by first | (rw [hy267]; with_reducible exact H) | (have H2_ := (Option.bind_some _ _).symm.trans H; rw [hy267]; with_reducible exact H2_) | (have H2_ := (Option.bind_some _ _).symm.trans H; with_reducible exact H2_) | with_reducible exact H | (rw [hy267]; exact H) | exact H
  have Ny267 := qV.mk hy267
  clear hy267
  obtain rfl := Option.some.inj H
  go_enter Tryd.func45, Tryd.ntmps45
  go_wp2_with (first | ((with_reducible refine gate_dst (N := 2) rfl ?_); refine qX ?hg (N := 2) ?hd (cs := #[.slice A0_0 l0_0.length c0_0]) (t := 39) ?hr ?_; (case hd => rfl); (case hg => rfl); (case hr => first | (go_simp; done) | (go_simp; rfl)); intro gb261 hg w15 hbox hb; have n0_ := qV.mk (qE (by repeat (first | (with_reducible first | exact HB.out | apply qA | apply qB | apply qC) | exact HB.out)) hb); have n1_ := qV.mk (hbox); have n2_ := qV.mk ((by rw [hg]; exact (qF (by repeat (first | (with_reducible first | exact HB.out | apply qA | apply qB | apply qC) | exact HB.out))) : w.heap.size ≤ gb261)); have n3_ := qV.mk ((by rw [hg]; exact (qF (by repeat (first | (with_reducible first | exact HB.out | apply qA | apply qB | apply qC) | exact HB.out))) : w.heap.size ≤ gb261)); clear HB; have HB := n0_; have BK261 := n1_; have GW261 := n2_; have GE261 := n3_; clear n0_ n1_ n2_ n3_; clear hb hbox hg) | ((with_reducible refine gate_dst (N := 3) rfl ?_); refine qX ?hg (N := 3) ?hd (cs := #[.int .i64 a1_0, .slice A1_1 l1_1.length c1_1, .slice A1_2 l1_2.length c1_2, .int .i64 a1_3]) (t := 66) ?hr ?_; (case hd => rfl); (case hg => rfl); (case hr => first | (go_simp; done) | (go_simp; rfl)); intro gb262 hg w16 hbox hb; have n0_ := qV.mk (qL (g := gb261) (o := .cells #[.slice A0_0 l0_0.length c0_0] 39 (0, 0)) (by (with_reducible repeat (first | refine qH ?_ _ | refine qI ?_ | refine qG ?_ _)); exact BK261.out) hb); have n1_ := qV.mk (qE (by repeat (first | (with_reducible first | exact HB.out | apply qA | apply qB | apply qC | refine qD ?_ GE261.out) | exact HB.out)) hb); have n2_ := qV.mk (hbox); have n3_ := qV.mk ((by rw [hg]; exact (qF (by repeat (first | (with_reducible first | exact HB.out | apply qA | apply qB | apply qC | refine qD ?_ GE261.out) | exact HB.out))) : w.heap.size ≤ gb262)); have n4_ := qV.mk ((by rw [hg]; exact (qF (by repeat (first | (with_reducible first | exact HB.out | apply qA | apply qB | apply qC | refine qD ?_ GE261.out) | exact HB.out))) : w.heap.size ≤ gb262)); have n5_ := qV.mk ((by rw [hg]; exact Nat.ne_of_lt (jR (g := gb261) (o := .cells #[.slice A0_0 l0_0.length c0_0] 39 (0, 0)) (by (with_reducible repeat (first | refine qH ?_ _ | refine qI ?_ | refine qG ?_ _)); exact BK261.out)) : gb261 ≠ gb262)); have n6_ := qV.mk ((by rw [hg]; exact Nat.ne_of_gt (jR (g := gb261) (o := .cells #[.slice A0_0 l0_0.length c0_0] 39 (0, 0)) (by (with_reducible repeat (first | refine qH ?_ _ | refine qI ?_ | refine qG ?_ _)); exact BK261.out)) : gb262 ≠ gb261)); clear BK261 HB; have BK261 := n0_; have HB := n1_; have BK262 := n2_; have GW262 := n3_; have GE262 := n4_; have NB261_262 := n5_; have NB262_261 := n6_; clear n0_ n1_ n2_ n3_ n4_ n5_ n6_ hb hbox hg; have hnb17 := NB261_262.out; have hnc17 := NB262_261.out; have hcz18_0 : w16.cell? ⟨gb261, 0, none⟩ = some (.slice A0_0 l0_0.length c0_0) := (qJ BK261.out 0).trans rfl; have hfz18_0 := qK BK261.out 0; have hcz19_0 : w16.cell? ⟨gb262, 0, none⟩ = some (.int .i64 a1_0) := (qJ BK262.out 0).trans rfl; have hcz19_1 : w16.cell? ⟨gb262, 1, none⟩ = some (.slice A1_1 l1_1.length c1_1) := (qJ BK262.out 1).trans rfl; have hcz19_2 : w16.cell? ⟨gb262, 2, none⟩ = some (.slice A1_2 l1_2.length c1_2) := (qJ BK262.out 2).trans rfl; have hcz19_3 : w16.cell? ⟨gb262, 3, none⟩ = some (.int .i64 a1_3) := (qJ BK262.out 3).trans rfl; have hfz19_0 := qK BK262.out 0; have hfz19_1 := qK BK262.out 1; have hfz19_2 := qK BK262.out 2; have hfz19_3 := qK BK262.out 3) | ((with_reducible refine gate_callee (f := 36) rfl ?_); refine qW (some 7) rfl rfl Tryd.func36 (by kernel_rfl) rfl #[.agg #[.slice A0_0 l0_0.length c0_0], .agg #[.int .i64 a1_0, .slice A1_1 l1_1.length c1_1, .slice A1_2 l1_2.length c1_2, .int .i64 a1_3]] rfl (by (try simp only [List.map_toArray, List.map_cons, List.map_nil]); first | done | rfl) ?_; (with_reducible refine (spec_ValidArray.calls k _ _ l0_0 a1_0 _ _ l1_1 _ _ l1_2 a1_3 false _ ?side1 ?side2 ?side3 ?side4 ?side5 ?side6 A3.out).mono ?_); (case side1 => repeat (first | exact (Kd.zA HR0_0.out HB.out) | (with_reducible refine Kd.qS ?_ _) | (with_reducible refine Kd.qT ?_ _) | (with_reducible refine Kd.qU ?_))); (case side2 => exact HC0_0.out); (case side3 => repeat (first | exact (Kd.zA HR1_1.out HB.out) | (with_reducible refine Kd.qS ?_ _) | (with_reducible refine Kd.qT ?_ _) | (with_reducible refine Kd.qU ?_))); (case side4 => exact HC1_1.out); (case side5 => repeat (first | exact (Kd.zA HR1_2.out HB.out) | (with_reducible refine Kd.qS ?_ _) | (with_reducible refine Kd.qT ?_ _) | (with_reducible refine Kd.qU ?_))); (case side6 => exact HC1_2.out); rintro e w20 ⟨rfl, hb⟩; refine ⟨_, rfl, ?_⟩; have n0_ := qV.mk (qL (g := gb261) (o := .cells #[.slice A0_0 l0_0.length c0_0] 39 (0, 0)) (by (with_reducible repeat (first | refine qH ?_ _ | refine qI ?_ | refine qG ?_ _)); exact BK261.out) hb); have n1_ := qV.mk (qL (g := gb262) (o := .cells #[.int .i64 a1_0, .slice A1_1 l1_1.length c1_1, .slice A1_2 l1_2.length c1_2, .int .i64 a1_3] 66 (0, 0)) (by (with_reducible repeat (first | refine qH ?_ _ | refine qI ?_ | refine qG ?_ _)); exact BK262.out) hb); have n2_ := qV.mk (qE (by repeat (first | (with_reducible first | exact HB.out | apply qA | apply qB | apply qC | refine qD ?_ GE261.out | refine qD ?_ GE262.out) | exact HB.out)) hb); clear BK261 BK262 HB; have BK261 := n0_; have BK262 := n1_; have HB := n2_; clear n0_ n1_ n2_; (try clear hb); (try clear hb2); (try clear hk); (try clear hi)) | ((with_reducible refine gate_dst (N := 9) rfl ?_); refine Kd.R_lit k27 _ 27 ?hg (N := 9) ?hd (xs := ([] : List (S27))) (inner := []) (ok := fun _ => True) (okp := fun _ => True) ?hr ?hp (fun _ hk => hk) trivial (Below.refl _ _) (Nat.le_refl _) (by simp) ?_; (case hd => rfl); (case hg => rfl); (case hr => first | (go_simp; done) | (go_simp; rfl)); (case hp => exact (Reps.none _ _)); intro v268 w21 ho22 hb hg_ hnew_; clear hg_ hnew_; (first | rw [← Ny267.out] at ho22 | (simp only [Int.reduceToNat] at ho22; rw [← Ny267.out] at ho22)); have n0_ := qV.mk (Kd.R_lower ho22 (qF (by repeat (first | (with_reducible first | exact HB.out | apply qA | apply qB | apply qC | refine qD ?_ GE261.out | refine qD ?_ GE262.out) | exact HB.out)))); have n1_ := qV.mk (qL (g := gb261) (o := .cells #[.slice A0_0 l0_0.length c0_0] 39 (0, 0)) (by (with_reducible repeat (first | refine qH ?_ _ | refine qI ?_ | refine qG ?_ _)); exact BK261.out) hb); have n2_ := qV.mk (qL (g := gb262) (o := .cells #[.int .i64 a1_0, .slice A1_1 l1_1.length c1_1, .slice A1_2 l1_2.length c1_2, .int .i64 a1_3] 66 (0, 0)) (by (with_reducible repeat (first | refine qH ?_ _ | refine qI ?_ | refine qG ?_ _)); exact BK262.out) hb); have n3_ := qV.mk (qE (by repeat (first | (with_reducible first | exact HB.out | apply qA | apply qB | apply qC | refine qD ?_ GE261.out | refine qD ?_ GE262.out) | exact HB.out)) hb); clear BK261 BK262 HB; have HO269 := n0_; have BK261 := n1_; have BK262 := n2_; have HB := n3_; clear n0_ n1_ n2_ n3_; clear hb ho22))
  go_ret
  exact ⟨_, by first | rfl | (simp [zS, zR] <;> rfl) | (simp [*, zS, zR] <;> rfl), by (with_reducible repeat (first | apply Kd.qM | apply Kd.qN | apply Kd.qO)); exact HO269.out, by repeat (first | (with_reducible first | exact HB.out | apply qA | apply qB | apply qC | refine qD ?_ GE261.out | refine qD ?_ GE262.out) | exact HB.out)⟩

def zP.f (a0 : Int) (a1_0 : Int) (a1_1 : Int) (a1_2 : Int) : Option (Bool) := if a1_1.toNat < 18446744073709551616 ∧ a1_2.toNat < 18446744073709551616 then some (Vc.vcell a0 a1_0 a1_1.toNat a1_2.toNat) else none
theorem zP.calls (a0 : Int) (a1_0 : Int) (a1_1 : Int) (a1_2 : Int) (r : Bool) (w : World) (hT : Table.Holds w) (h : zP.f a0 a1_0 a1_1 a1_2 = some r) :
  Calls Tryd.prog 19 #[.int .i64 a0, .agg #[.int .i64 a1_0, .float .f64 (Int.toNat a1_1), .float .f64 (Int.toNat a1_2)]] w fun e w' => e = .returned (.bool r) ∧ Below w.heap.size w w' := by
 unfold zP.f at h
 split at h
 ·rename_i hb
  obtain rfl := Option.some.inj h
  exact Vc.impl_vcell a0 a1_0 a1_1.toNat a1_2.toNat hb.1 hb.2 w hT
 ·cases h

def impl_isDType.f (a0 : Int) : Option (Bool) := if a0 ≥ 1 then (some (decide (a0 ≤ 9))) else (some false)
set_option maxHeartbeats 8000000 in
set_option maxRecDepth 100000 in
theorem impl_isDType.calls (a0 : Int) (r : Bool) (w : World) (h : impl_isDType.f a0 = some r) :
  Calls Tryd.prog 68 #[.int .i64 a0] w fun e w' => e = .returned (.bool r) ∧ zI w w' := by
 have H : (if a0 ≥ 1 then (some (decide (a0 ≤ 9))) else (some false)) = some r := h
 clear h
 by_cases c2 : a0 ≥ 1
 ·rw [if_pos c2] at H
  have c2b0 : decide (1 ≤ a0) = true := decide_eq_true c2
  clear c2
  obtain rfl := Option.some.inj H
  go_enter Tryd.func68, Tryd.ntmps68
  go_wp2
  go_ret
  exact ⟨by first | rfl | (simp; done) | (simp [*]; done), by repeat (first | exact zI.refl _ | apply zI.step)⟩
 ·rw [if_neg c2] at H
  have c2b0 : decide (1 ≤ a0) = false := decide_eq_false c2
  clear c2
  obtain rfl := Option.some.inj H
  go_enter Tryd.func68, Tryd.ntmps68
  go_wp2
  go_ret
  exact ⟨by first | rfl | (simp; done) | (simp [*]; done), by repeat (first | exact zI.refl _ | apply zI.step)⟩

mutual
def zX.l0 : Nat → List (S85) → Int → Int → Option (Bool)
 | 0, _, _, _ => none
 | k + 1, x12, x13, x14 => if x14 < x13 then (if 0 ≤ x14 then (if x14 < (x12.length : Int) then ((impl_isDType.f ((zT x12 x14).f0)).bind fun t274 => (if t274 = true then (zX.j1 k x12 x13 x14 (decide ((((zT x12 x14).f1).length : Int) > 4096)) ((zT x12 x14).f0) ((zT x12 x14).f1)) else (zX.j1 k x12 x13 x14 true ((zT x12 x14).f0) ((zT x12 x14).f1)))) else (none)) else (none)) else (some true)
def zX.j1 : Nat → List (S85) → Int → Int → Bool → Int → List (S27) → Option (Bool)
 | 0, _, _, _, _, _, _ => none
 | k + 1, x12, x13, x14, x27, x274000, x274001 => if x27 = true then (some false) else (zX.l1 k x12 x13 x14 x274001 (x274001.length : Int) 0 x274000 x274001)
def zX.l1 : Nat → List (S85) → Int → Int → List (S27) → Int → Int → Int → List (S27) → Option (Bool)
 | 0, _, _, _, _, _, _, _, _ => none
 | k + 1, x12, x13, x14, x29, x30, x31, x274000, x274001 => if x31 < x30 then (if 0 ≤ x31 then (if x31 < (x29.length : Int) then ((zP.f x274000 ((zU x29 x31).f0) ((zU x29 x31).f1) ((zU x29 x31).f2)).bind fun t277 => (if t277 = true then (zX.l1 k x12 x13 x14 x29 x30 (wrap64 (x31 + 1)) x274000 x274001) else (some false))) else (none)) else (none)) else (zX.l0 k x12 x13 (wrap64 (x14 + 1)))
end
def zX.f (k : Nat) (l0_0 : List (S85)) : Option (Bool) := if (l0_0.length : Int) > 64 then (some false) else (zX.l0 k l0_0 (l0_0.length : Int) 0)
theorem zX.mono_l : ∀ k, (∀ y0 y1 y2, LeO (zX.l0 k y0 y1 y2) (zX.l0 (k + 1) y0 y1 y2)) ∧ (∀ y0 y1 y2 y3 y4 y5, LeO (zX.j1 k y0 y1 y2 y3 y4 y5) (zX.j1 (k + 1) y0 y1 y2 y3 y4 y5)) ∧ (∀ y0 y1 y2 y3 y4 y5 y6 y7, LeO (zX.l1 k y0 y1 y2 y3 y4 y5 y6 y7) (zX.l1 (k + 1) y0 y1 y2 y3 y4 y5 y6 y7))
 | 0 => ⟨fun _ _ _ r h => by simp [zX.l0] at h, fun _ _ _ _ _ _ r h => by simp [zX.j1] at h, fun _ _ _ _ _ _ _ _ r h => by simp [zX.l1] at h⟩
 | k + 1 => by
  obtain ⟨ih0, ih1, ih2⟩ := zX.mono_l k
  refine ⟨?_, ?_, ?_⟩
  ·intro y0 y1 y2
   unfold zX.l0
   repeat' first
   | (with_reducible exact ih0 _ _ _)
   | (with_reducible exact ih1 _ _ _ _ _ _)
   | (with_reducible exact ih2 _ _ _ _ _ _ _ _)
   | (with_reducible exact LeO.refl _)
   | (with_reducible exact LeO.none _)
   | (with_reducible refine LeO.ite ?_ ?_)
   | (with_reducible refine LeO.bind ?_ (fun _ => ?_))
   | exact ih0 _ _ _
   | exact ih1 _ _ _ _ _ _
   | exact ih2 _ _ _ _ _ _ _ _
   | exact LeO.none _
   | refine LeO.ite ?_ ?_
   | refine LeO.bind ?_ (fun _ => ?_)
  ·intro y0 y1 y2 y3 y4 y5
   unfold zX.j1
   repeat' first
   | (with_reducible exact ih0 _ _ _)
   | (with_reducible exact ih1 _ _ _ _ _ _)
   | (with_reducible exact ih2 _ _ _ _ _ _ _ _)
   | (with_reducible exact LeO.refl _)
   | (with_reducible exact LeO.none _)
   | (with_reducible refine LeO.ite ?_ ?_)
   | (with_reducible refine LeO.bind ?_ (fun _ => ?_))
   | exact ih0 _ _ _
   | exact ih1 _ _ _ _ _ _
   | exact ih2 _ _ _ _ _ _ _ _
   | exact LeO.none _
   | refine LeO.ite ?_ ?_
   | refine LeO.bind ?_ (fun _ => ?_)
  ·intro y0 y1 y2 y3 y4 y5 y6 y7
   unfold zX.l1
   repeat' first
   | (with_reducible exact ih0 _ _ _)
   | (with_reducible exact ih1 _ _ _ _ _ _)
   | (with_reducible exact ih2 _ _ _ _ _ _ _ _)
   | (with_reducible exact LeO.refl _)
   | (with_reducible exact LeO.none _)
   | (with_reducible refine LeO.ite ?_ ?_)
   | (with_reducible refine LeO.bind ?_ (fun _ => ?_))
   | exact ih0 _ _ _
   | exact ih1 _ _ _ _ _ _
   | exact ih2 _ _ _ _ _ _ _ _
   | exact LeO.none _
   | refine LeO.ite ?_ ?_
   | refine LeO.bind ?_ (fun _ => ?_)
theorem zX.mono : ∀ a0 k, LeO (zX.f k a0) (zX.f (k + 1) a0) := by
 intro a0 k
 obtain ⟨ih0, ih1, ih2⟩ := zX.mono_l k
 unfold zX.f
 repeat' first
   | (with_reducible exact ih0 _ _ _)
   | (with_reducible exact ih1 _ _ _ _ _ _)
   | (with_reducible exact ih2 _ _ _ _ _ _ _ _)
   | (with_reducible exact LeO.refl _)
   | (with_reducible exact LeO.none _)
   | (with_reducible refine LeO.ite ?_ ?_)
   | (with_reducible refine LeO.bind ?_ (fun _ => ?_))
   | exact ih0 _ _ _
   | exact ih1 _ _ _ _ _ _
   | exact ih2 _ _ _ _ _ _ _ _
   | exact LeO.none _
   | refine LeO.ite ?_ ?_
   | refine LeO.bind ?_ (fun _ => ?_)
set_option maxHeartbeats 8000000 in
set_option maxRecDepth 100000 in
theorem zX.calls (k : Nat) (A0_0 : Option Addr) (c0_0 : Nat) (l0_0 : List (S85)) (r : Bool) (w : World) (hr0_0 : Kd.C k85 w A0_0 l0_0.length l0_0) (hc0_0 : l0_0.length ≤ c0_0) (hT : Table.Holds w) (h : zX.f k l0_0 = some r) :
  Calls Tryd.prog 25 #[.agg #[.slice A0_0 l0_0.length c0_0]] w fun e w' => e = .returned (.bool r) ∧ Below w.heap.size w w' := by
 have HT0 := qV.mk (World.block_lt_of_cell? w _ (hT 0 0 (by omega) (by omega)))
 have HT := qV.mk hT
 clear hT
 have hu39 := Tryd.underlying39
 have hu85 := Tryd.underlying85
 have hu27 := Tryd.underlying27
 have HR0_0 := qV.mk hr0_0
 have HC0_0 := qV.mk hc0_0
 clear hr0_0 hc0_0
 have HB := qV.mk (Below.refl w.heap.size w)
 have H : (if (l0_0.length : Int) > 64 then (some false) else (zX.l0 k l0_0 (l0_0.length : Int) 0)) = some r := h
 clear h
 by_cases c2 : (l0_0.length : Int) > 64
 ·rw [if_pos c2] at H
  have c2b0 : decide (64 < (l0_0.length : Int)) = true := decide_eq_true c2
  have c2b1 : decide (64 < l0_0.length) = true := decide_eq_true (by omega)
  clear c2
  obtain rfl := Option.some.inj H
  go_enter Tryd.func25, Tryd.ntmps25
  go_wp2_with (first | ((with_reducible refine gate_dst (N := 1) rfl ?_); (try (refine gate_guard (by rfl) ?_; dsimp only)); refine qX ?hg (N := 1) ?hd (cs := #[.slice A0_0 l0_0.length c0_0]) (t := 39) ?hr ?_; (case hd => rfl); (case hg => rfl); (case hr => first | (go_simp; done) | (go_simp; rfl)); intro gb271 hg w3 hbox hb; have n0_ := qV.mk (qE (by repeat (first | (with_reducible first | exact HB.out | apply qA | apply qB | apply qC) | exact HB.out)) hb); have n1_ := qV.mk (hbox); have n2_ := qV.mk ((by rw [hg]; exact (qF (by repeat (first | (with_reducible first | exact HB.out | apply qA | apply qB | apply qC) | exact HB.out))) : w.heap.size ≤ gb271)); have n3_ := qV.mk ((by rw [hg]; exact (qF (by repeat (first | (with_reducible first | exact HB.out | apply qA | apply qB | apply qC) | exact HB.out))) : w.heap.size ≤ gb271)); clear HB; have HB := n0_; have BK271 := n1_; have GW271 := n2_; have GE271 := n3_; clear n0_ n1_ n2_ n3_ hb hbox hg; have hcz4_0 : w3.cell? ⟨gb271, 0, none⟩ = some (.slice A0_0 l0_0.length c0_0) := (qJ BK271.out 0).trans rfl; have hfz4_0 := qK BK271.out 0))
  go_ret
  exact ⟨by first | rfl | (simp [zS, zR] <;> rfl) | (simp [*, zS, zR] <;> rfl), by repeat (first | (with_reducible first | exact HB.out | apply qA | apply qB | apply qC | refine qD ?_ GE271.out) | exact HB.out)⟩
 ·rw [if_neg c2] at H
  have c2b0 : decide (64 < (l0_0.length : Int)) = false := decide_eq_false c2
  have c2b1 : decide (64 < l0_0.length) = false := decide_eq_false (by omega)
  clear c2
  have H' := qV.mk H
  clear H
  go_enter Tryd.func25, Tryd.ntmps25
  go_wp2_with (first | ((with_reducible refine gate_dst (N := 1) rfl ?_); (try (refine gate_guard (by rfl) ?_; dsimp only)); refine qX ?hg (N := 1) ?hd (cs := #[.slice A0_0 l0_0.length c0_0]) (t := 39) ?hr ?_; (case hd => rfl); (case hg => rfl); (case hr => first | (go_simp; done) | (go_simp; rfl)); intro gb271 hg w5 hbox hb; have n0_ := qV.mk (qE (by repeat (first | (with_reducible first | exact HB.out | apply qA | apply qB | apply qC) | exact HB.out)) hb); have n1_ := qV.mk (hbox); have n2_ := qV.mk ((by rw [hg]; exact (qF (by repeat (first | (with_reducible first | exact HB.out | apply qA | apply qB | apply qC) | exact HB.out))) : w.heap.size ≤ gb271)); have n3_ := qV.mk ((by rw [hg]; exact (qF (by repeat (first | (with_reducible first | exact HB.out | apply qA | apply qB | apply qC) | exact HB.out))) : w.heap.size ≤ gb271)); clear HB; have HB := n0_; have BK271 := n1_; have GW271 := n2_; have GE271 := n3_; clear n0_ n1_ n2_ n3_ hb hbox hg; have hcz6_0 : w5.cell? ⟨gb271, 0, none⟩ = some (.slice A0_0 l0_0.length c0_0) := (qJ BK271.out 0).trans rfl; have hfz6_0 := qK BK271.out 0))
  go_loopg [14] k (fun kq v14 w' => ∃ (x14_1 : Int), v14 = .int .i64 x14_1 ∧ qV (zX.l0 kq l0_0 (l0_0.length : Int) x14_1 = some r) ∧ qV (kq ≤ k) ∧ qV (w'.heap[gb271]? = some (.cells #[(.slice A0_0 l0_0.length c0_0)] 39 (0, 0))) ∧ qV (Below w.heap.size w w'))
  case atStart => exact ⟨(0), (by first | rfl | (simp; done) | (simp [*]; done)), H', ⟨Nat.le_refl _⟩, ⟨by (with_reducible repeat (first | refine qH ?_ _ | refine qI ?_ | refine qG ?_ _)); exact BK271.out⟩, ⟨by repeat (first | (with_reducible first | exact HB.out | apply qA | apply qB | apply qC | refine qD ?_ GE271.out) | exact HB.out)⟩⟩
  case round =>
   clear H'
   try clear c2
   try clear c2b0
   try clear c2b1
   try clear p2
   try clear hcz4_0
   try clear hcz6_0
   try clear hfz4_0
   try clear hfz6_0
   obtain ⟨x14_1, rfl, HA, HK1, BK271, HB⟩ := hrel
   cases gk with
   | zero => exact absurd HA.out (by simp [zX.l0])
   | succ k1 =>
    have H := HA.out
    clear HA
    simp only [zX.l0] at H
    by_cases c7 : x14_1 < (l0_0.length : Int)
    ·rw [if_pos c7] at H
     have c7b0 : decide (x14_1 < (l0_0.length : Int)) = true := decide_eq_true c7
     clear c7
     by_cases c8 : 0 ≤ x14_1
     ·rw [if_pos c8] at H
      have c8b0 : decide (0 ≤ x14_1) = true := decide_eq_true c8
      clear c8
      by_cases c9 : x14_1 < (l0_0.length : Int)
      ·rw [if_pos c9] at H
       have c9b0 : decide (x14_1 < (l0_0.length : Int)) = true := decide_eq_true c9
       clear c9
       have HC10 := qV.mk H
       clear H
       have p272 : 0 ≤ (x14_1 : Int) := of_decide_eq_true (by assumption)
       have q272 : x14_1 < (l0_0.length : Int) := of_decide_eq_true (by assumption)
       obtain ⟨ad272, A272_1, c272_1, e272, hx272_0, hx272_1, hl272_1, hi272_1⟩ := at_T85 HR0_0.out x14_1 p272 q272
       cases e272
       replace hx272_0 := (HB.out.cell (World.block_lt_of_cell? w _ hx272_0)).trans hx272_0
       replace hx272_1 := (HB.out.cell (World.block_lt_of_cell? w _ hx272_1)).trans hx272_1
       have HR272_1 := qV.mk hi272_1
       have HC272_1 := qV.mk hl272_1
       clear hi272_1 hl272_1
       replace p272 := eq_true p272
       replace q272 := eq_true q272
       go_upto_region 6 with (first | ((with_reducible refine gate_dst (N := 4) rfl ?_); (try (refine gate_guard (by rfl) ?_; dsimp only)); refine qX ?hg (N := 4) ?hd (cs := #[.int .i64 0, .slice none 0 0]) (t := 85) ?hr ?_; (case hd => rfl); (case hg => rfl); (case hr => first | (go_simp; done) | (go_simp; rfl)); intro gb273 hg w11 hbox hb; have n0_ := qV.mk (qL (g := gb271) (o := .cells #[.slice (some ad272) l0_0.length c0_0] 39 (0, 0)) (by (with_reducible repeat (first | refine qH ?_ _ | refine qI ?_ | refine qG ?_ _)); exact BK271.out) hb); have n1_ := qV.mk (qE (by repeat (first | (with_reducible first | exact HB.out | apply qA | apply qB | apply qC | refine qD ?_ GE271.out) | exact HB.out)) hb); have n2_ := qV.mk (hbox); have n3_ := qV.mk ((by rw [hg]; exact (qF (by repeat (first | (with_reducible first | exact HB.out | apply qA | apply qB | apply qC | refine qD ?_ GE271.out) | exact HB.out))) : w.heap.size ≤ gb273)); have n4_ := qV.mk ((by rw [hg]; exact (qF (by repeat (first | (with_reducible first | exact HB.out | apply qA | apply qB | apply qC | refine qD ?_ GE271.out) | exact HB.out))) : w.heap.size ≤ gb273)); have n5_ := qV.mk ((by rw [hg]; exact Nat.ne_of_lt (jR (g := gb271) (o := .cells #[.slice (some ad272) l0_0.length c0_0] 39 (0, 0)) (by (with_reducible repeat (first | refine qH ?_ _ | refine qI ?_ | refine qG ?_ _)); exact BK271.out)) : gb271 ≠ gb273)); have n6_ := qV.mk ((by rw [hg]; exact Nat.ne_of_gt (jR (g := gb271) (o := .cells #[.slice (some ad272) l0_0.length c0_0] 39 (0, 0)) (by (with_reducible repeat (first | refine qH ?_ _ | refine qI ?_ | refine qG ?_ _)); exact BK271.out)) : gb273 ≠ gb271)); clear BK271 HB; have BK271 := n0_; have HB := n1_; have BK273 := n2_; have GW273 := n3_; have GE273 := n4_; have NB271_273 := n5_; have NB273_271 := n6_; clear n0_ n1_ n2_ n3_ n4_ n5_ n6_ hb hbox hg; have hnb12 := NB273_271.out; have hnc12 := NB271_273.out; have hcz13_0 : w11.cell? ⟨gb273, 0, none⟩ = some (.int .i64 0) := (qJ BK273.out 0).trans rfl; have hcz13_1 : w11.cell? ⟨gb273, 1, none⟩ = some (.slice none 0 0) := (qJ BK273.out 1).trans rfl; have hfz13_0 := qK BK273.out 0; have hfz13_1 := qK BK273.out 1))
       (try simp only [Act.put, List.setIfInBounds_toArray, List.set_cons_zero, List.set_cons_succ])
       go_cut [27] (fun v27 wc => ∃ (kq : Nat) (x27_9 : Bool), v27 = .bool x27_9 ∧ qV (zX.j1 kq l0_0 (l0_0.length : Int) x14_1 x27_9 ((zT l0_0 x14_1).f0) ((zT l0_0 x14_1).f1) = some r) ∧ qV (kq ≤ k1) ∧ qV (wc.heap[gb271]? = some (.cells #[(.slice (some ad272) l0_0.length c0_0)] 39 (0, 0))) ∧ qV (wc.heap[gb273]? = some (.cells #[.int .i64 ((zT l0_0 x14_1).f0), (.slice A272_1 ((zT l0_0 x14_1).f1).length c272_1)] 85 (0, 0))) ∧ qV (Below w.heap.size w wc))
       case first =>
        have H := HC10.out
        clear HC10
        replace H := Option.bind_eq_some_iff.mp H
        obtain ⟨t274, A140, H⟩ := H
        try dsimp only at H
        have A14 := qV.mk A140
        clear A140
        by_cases c15 : t274 = true
        ·subst c15
         rw [if_pos rfl] at H
         have H' := qV.mk H
         clear H
         have hnb16 := NB273_271.out
         have hnc16 := NB271_273.out
         have hcz17_0 : w11.cell? ⟨gb273, 0, none⟩ = some (.int .i64 0) := (qJ BK273.out 0).trans rfl
         have hcz17_1 : w11.cell? ⟨gb273, 1, none⟩ = some (.slice none 0 0) := (qJ BK273.out 1).trans rfl
         have hfz17_0 := qK BK273.out 0
         have hfz17_1 := qK BK273.out 1
         go_wp2_with (first | ((with_reducible refine gate_callee (f := 68) rfl ?_); refine qW (some 20) rfl rfl Tryd.func68 (by kernel_rfl) rfl #[.int .i64 ((zT l0_0 x14_1).f0)] rfl (by (try simp only [List.map_toArray, List.map_cons, List.map_nil]); first | done | rfl) ?_; (with_reducible refine (impl_isDType.calls ((zT l0_0 x14_1).f0) true _ A14.out).mono ?_); rintro e w' ⟨rfl, ⟨nd, rfl⟩⟩; refine ⟨_, rfl, ?_⟩))
         go_meet
         case rel => exact ⟨_, (decide ((((zT l0_0 x14_1).f1).length : Int) > 4096)), (by first | rfl | (simp; done) | (simp [*]; done)), H', ⟨by have := HK1.out; first | omega | exact Nat.le_refl _⟩, ⟨by (with_reducible repeat (first | refine qH ?_ _ | refine qI ?_ | refine qG ?_ _)); refine jO ?_ NB271_273.out _; (with_reducible repeat (first | refine qH ?_ _ | refine qI ?_ | refine qG ?_ _)); refine jO ?_ NB271_273.out _; (with_reducible repeat (first | refine qH ?_ _ | refine qI ?_ | refine qG ?_ _)); exact BK271.out⟩, ⟨by (with_reducible repeat (first | refine qH ?_ _ | refine qI ?_ | refine qG ?_ _)); refine jQ (cs := #[.int .i64 ((zT l0_0 x14_1).f0), .slice none 0 0]) ?_ 1 _ rfl; (with_reducible repeat (first | refine qH ?_ _ | refine qI ?_ | refine qG ?_ _)); refine jQ (cs := #[.int .i64 0, .slice none 0 0]) ?_ 0 _ rfl; (with_reducible repeat (first | refine qH ?_ _ | refine qI ?_ | refine qG ?_ _)); exact BK273.out⟩, ⟨by repeat (first | (with_reducible first | exact HB.out | apply qA | apply qB | apply qC | refine qD ?_ GE271.out | refine qD ?_ GE273.out) | exact HB.out)⟩⟩
        ·replace c15 := Bool.eq_false_iff.mpr c15
         subst c15
         rw [if_neg (show ¬ (false = true) by decide)] at H
         have H' := qV.mk H
         clear H
         have hnb18 := NB273_271.out
         have hnc18 := NB271_273.out
         have hcz19_0 : w11.cell? ⟨gb273, 0, none⟩ = some (.int .i64 0) := (qJ BK273.out 0).trans rfl
         have hcz19_1 : w11.cell? ⟨gb273, 1, none⟩ = some (.slice none 0 0) := (qJ BK273.out 1).trans rfl
         have hfz19_0 := qK BK273.out 0
         have hfz19_1 := qK BK273.out 1
         go_wp2_with (first | ((with_reducible refine gate_callee (f := 68) rfl ?_); refine qW (some 20) rfl rfl Tryd.func68 (by kernel_rfl) rfl #[.int .i64 ((zT l0_0 x14_1).f0)] rfl (by (try simp only [List.map_toArray, List.map_cons, List.map_nil]); first | done | rfl) ?_; (with_reducible refine (impl_isDType.calls ((zT l0_0 x14_1).f0) false _ A14.out).mono ?_); rintro e w' ⟨rfl, ⟨nd, rfl⟩⟩; refine ⟨_, rfl, ?_⟩))
         go_meet
         case rel => exact ⟨_, (true), (by first | rfl | (simp; done) | (simp [*]; done)), H', ⟨by have := HK1.out; first | omega | exact Nat.le_refl _⟩, ⟨by (with_reducible repeat (first | refine qH ?_ _ | refine qI ?_ | refine qG ?_ _)); refine jO ?_ NB271_273.out _; (with_reducible repeat (first | refine qH ?_ _ | refine qI ?_ | refine qG ?_ _)); refine jO ?_ NB271_273.out _; (with_reducible repeat (first | refine qH ?_ _ | refine qI ?_ | refine qG ?_ _)); exact BK271.out⟩, ⟨by (with_reducible repeat (first | refine qH ?_ _ | refine qI ?_ | refine qG ?_ _)); refine jQ (cs := #[.int .i64 ((zT l0_0 x14_1).f0), .slice none 0 0]) ?_ 1 _ rfl; (with_reducible repeat (first | refine qH ?_ _ | refine qI ?_ | refine qG ?_ _)); refine jQ (cs := #[.int .i64 0, .slice none 0 0]) ?_ 0 _ rfl; (with_reducible repeat (first | refine qH ?_ _ | refine qI ?_ | refine qG ?_ _)); exact BK273.out⟩, ⟨by repeat (first | (with_reducible first | exact HB.out | apply qA | apply qB | apply qC | refine qD ?_ GE271.out | refine qD ?_ GE273.out) | exact HB.out)⟩⟩
       case rest =>
        clear HC10
        try clear c1
        try clear c2
        try clear c2b0
        try clear c2b1
        try clear p2
        try clear q2
        try clear hx2
        try clear c6
        try clear c7
        try clear c7b0
        try clear c8
        try clear c8b0
        try clear c9
        try clear c9b0
        try clear c12
        try clear c15
        try clear c16
        try clear c18
        try clear hcz13_0
        try clear hcz13_1
        try clear hcz17_0
        try clear hcz17_1
        try clear hcz19_0
        try clear hcz19_1
        try clear hcz4_0
        try clear hcz6_0
        try clear hfz13_0
        try clear hfz13_1
        try clear hfz17_0
        try clear hfz17_1
        try clear hfz19_0
        try clear hfz19_1
        try clear hfz4_0
        try clear hfz6_0
        try clear hx272_0
        try clear hx272_1
        try clear p2
        try clear p272
        try clear q272
        obtain ⟨kq, x27_9, rfl, HA, HJ9, BK271, BK273, HB⟩ := hcut
        cases kq with
        | zero => exact absurd HA.out (by simp [zX.j1])
        | succ kj9 =>
         have H := HA.out
         clear HA
         simp only [zX.j1] at H
         by_cases c20 : x27_9 = true
         ·subst c20
          rw [if_pos rfl] at H
          obtain rfl := Option.some.inj H
          go_wp2
          go_ret
          exact ⟨by first | rfl | (simp [zS, zR] <;> rfl) | (simp [*, zS, zR] <;> rfl), by repeat (first | (with_reducible first | exact HB.out | apply qA | apply qB | apply qC | refine qD ?_ GE271.out | refine qD ?_ GE273.out) | exact HB.out)⟩
         ·replace c20 := Bool.eq_false_iff.mpr c20
          subst c20
          rw [if_neg (show ¬ (false = true) by decide)] at H
          have H' := qV.mk H
          clear H
          have hnb21 := NB273_271.out
          have hnc21 := NB271_273.out
          have hcz22_0 : wc.cell? ⟨gb273, 0, none⟩ = some (.int .i64 ((zT l0_0 x14_1).f0)) := (qJ BK273.out 0).trans rfl
          have hcz22_1 : wc.cell? ⟨gb273, 1, none⟩ = some (.slice A272_1 ((zT l0_0 x14_1).f1).length c272_1) := (qJ BK273.out 1).trans rfl
          have hfz22_0 := qK BK273.out 0
          have hfz22_1 := qK BK273.out 1
          go_wp2
          go_loopg [31] kj9 (fun kq v31 w' => ∃ (x31_3 : Int), v31 = .int .i64 x31_3 ∧ qV (zX.l1 kq l0_0 (l0_0.length : Int) x14_1 ((zT l0_0 x14_1).f1) (((zT l0_0 x14_1).f1).length : Int) x31_3 ((zT l0_0 x14_1).f0) ((zT l0_0 x14_1).f1) = some r) ∧ qV (kq ≤ kj9) ∧ qV (w'.heap[gb271]? = some (.cells #[(.slice (some ad272) l0_0.length c0_0)] 39 (0, 0))) ∧ qV (w'.heap[gb273]? = some (.cells #[.int .i64 ((zT l0_0 x14_1).f0), (.slice A272_1 ((zT l0_0 x14_1).f1).length c272_1)] 85 (0, 0))) ∧ qV (Below w.heap.size w w'))
          case atStart => exact ⟨(0), (by first | rfl | (simp; done) | (simp [*]; done)), H', ⟨Nat.le_refl _⟩, ⟨by (with_reducible repeat (first | refine qH ?_ _ | refine qI ?_ | refine qG ?_ _)); exact BK271.out⟩, ⟨by (with_reducible repeat (first | refine qH ?_ _ | refine qI ?_ | refine qG ?_ _)); exact BK273.out⟩, ⟨by repeat (first | (with_reducible first | exact HB.out | apply qA | apply qB | apply qC | refine qD ?_ GE271.out | refine qD ?_ GE273.out) | exact HB.out)⟩⟩
          case round =>
           clear H'
           try clear c1
           try clear c2
           try clear c2b0
           try clear c2b1
           try clear p2
           try clear q2
           try clear hx2
           try clear c6
           try clear c7
           try clear c7b0
           try clear c8
           try clear c8b0
           try clear c9
           try clear c9b0
           try clear c12
           try clear c15
           try clear c16
           try clear c18
           try clear c20
           try clear c21
           try clear hcz13_0
           try clear hcz13_1
           try clear hcz17_0
           try clear hcz17_1
           try clear hcz19_0
           try clear hcz19_1
           try clear hcz22_0
           try clear hcz22_1
           try clear hcz4_0
           try clear hcz6_0
           try clear hfz13_0
           try clear hfz13_1
           try clear hfz17_0
           try clear hfz17_1
           try clear hfz19_0
           try clear hfz19_1
           try clear hfz22_0
           try clear hfz22_1
           try clear hfz4_0
           try clear hfz6_0
           try clear hx272_0
           try clear hx272_1
           try clear p2
           try clear p272
           try clear q2
           try clear q272
           obtain ⟨x31_3, rfl, HA, HK3, BK271, BK273, HB⟩ := hrel
           cases gk with
           | zero => exact absurd HA.out (by simp [zX.l1])
           | succ k3 =>
            have H := HA.out
            clear HA
            simp only [zX.l1] at H
            by_cases c23 : x31_3 < (((zT l0_0 x14_1).f1).length : Int)
            ·rw [if_pos c23] at H
             have c23b0 : decide (x31_3 < (((zT l0_0 x14_1).f1).length : Int)) = true := decide_eq_true c23
             clear c23
             by_cases c24 : 0 ≤ x31_3
             ·rw [if_pos c24] at H
              have c24b0 : decide (0 ≤ x31_3) = true := decide_eq_true c24
              clear c24
              by_cases c25 : x31_3 < (((zT l0_0 x14_1).f1).length : Int)
              ·rw [if_pos c25] at H
               have c25b0 : decide (x31_3 < (((zT l0_0 x14_1).f1).length : Int)) = true := decide_eq_true c25
               clear c25
               replace H := Option.bind_eq_some_iff.mp H
               obtain ⟨t277, A260, H⟩ := H
               try dsimp only at H
               have A26 := qV.mk A260
               clear A260
               by_cases c27 : t277 = true
               ·subst c27
                rw [if_pos rfl] at H
                have H' := qV.mk H
                clear H
                have p275 : 0 ≤ (x31_3 : Int) := of_decide_eq_true (by assumption)
                have q275 : x31_3 < (((zT l0_0 x14_1).f1).length : Int) := of_decide_eq_true (by assumption)
                obtain ⟨ad275, e275, hx275_0, hx275_1, hx275_2⟩ := at_T27 HR272_1.out x31_3 p275 q275
                cases e275
                replace hx275_0 := (HB.out.cell (World.block_lt_of_cell? w _ hx275_0)).trans hx275_0
                replace hx275_1 := (HB.out.cell (World.block_lt_of_cell? w _ hx275_1)).trans hx275_1
                replace hx275_2 := (HB.out.cell (World.block_lt_of_cell? w _ hx275_2)).trans hx275_2
                replace p275 := eq_true p275
                replace q275 := eq_true q275
                go_wp2_with (first | ((with_reducible refine gate_dst (N := 6) rfl ?_); (try (refine gate_guard (by rfl) ?_; dsimp only)); refine qX ?hg (N := 6) ?hd (cs := #[.int .i64 0, .float .f64 0, .float .f64 0]) (t := 27) ?hr ?_; (case hd => rfl); (case hg => rfl); (case hr => first | (go_simp; done) | (go_simp; rfl)); intro gb276 hg w28 hbox hb; have n0_ := qV.mk (qL (g := gb271) (o := .cells #[.slice (some ad272) l0_0.length c0_0] 39 (0, 0)) (by (with_reducible repeat (first | refine qH ?_ _ | refine qI ?_ | refine qG ?_ _)); exact BK271.out) hb); have n1_ := qV.mk (qL (g := gb273) (o := .cells #[.int .i64 ((zT l0_0 x14_1).f0), .slice (some ad275) ((zT l0_0 x14_1).f1).length c272_1] 85 (0, 0)) (by (with_reducible repeat (first | refine qH ?_ _ | refine qI ?_ | refine qG ?_ _)); exact BK273.out) hb); have n2_ := qV.mk (qE (by repeat (first | (with_reducible first | exact HB.out | apply qA | apply qB | apply qC | refine qD ?_ GE271.out | refine qD ?_ GE273.out) | exact HB.out)) hb); have n3_ := qV.mk (hbox); have n4_ := qV.mk ((by rw [hg]; exact (qF (by repeat (first | (with_reducible first | exact HB.out | apply qA | apply qB | apply qC | refine qD ?_ GE271.out | refine qD ?_ GE273.out) | exact HB.out))) : w.heap.size ≤ gb276)); have n5_ := qV.mk ((by rw [hg]; exact (qF (by repeat (first | (with_reducible first | exact HB.out | apply qA | apply qB | apply qC | refine qD ?_ GE271.out | refine qD ?_ GE273.out) | exact HB.out))) : w.heap.size ≤ gb276)); have n6_ := qV.mk ((by rw [hg]; exact Nat.ne_of_lt (jR (g := gb271) (o := .cells #[.slice (some ad272) l0_0.length c0_0] 39 (0, 0)) (by (with_reducible repeat (first | refine qH ?_ _ | refine qI ?_ | refine qG ?_ _)); exact BK271.out)) : gb271 ≠ gb276)); have n7_ := qV.mk ((by rw [hg]; exact Nat.ne_of_gt (jR (g := gb271) (o := .cells #[.slice (some ad272) l0_0.length c0_0] 39 (0, 0)) (by (with_reducible repeat (first | refine qH ?_ _ | refine qI ?_ | refine qG ?_ _)); exact BK271.out)) : gb276 ≠ gb271)); have n8_ := qV.mk ((by rw [hg]; exact Nat.ne_of_lt (jR (g := gb273) (o := .cells #[.int .i64 ((zT l0_0 x14_1).f0), .slice (some ad275) ((zT l0_0 x14_1).f1).length c272_1] 85 (0, 0)) (by (with_reducible repeat (first | refine qH ?_ _ | refine qI ?_ | refine qG ?_ _)); exact BK273.out)) : gb273 ≠ gb276)); have n9_ := qV.mk ((by rw [hg]; exact Nat.ne_of_gt (jR (g := gb273) (o := .cells #[.int .i64 ((zT l0_0 x14_1).f0), .slice (some ad275) ((zT l0_0 x14_1).f1).length c272_1] 85 (0, 0)) (by (with_reducible repeat (first | refine qH ?_ _ | refine qI ?_ | refine qG ?_ _)); exact BK273.out)) : gb276 ≠ gb273)); clear BK271 BK273 HB; have BK271 := n0_; have BK273 := n1_; have HB := n2_; have BK276 := n3_; have GW276 := n4_; have GE276 := n5_; have NB271_276 := n6_; have NB276_271 := n7_; have NB273_276 := n8_; have NB276_273 := n9_; clear n0_ n1_ n2_ n3_ n4_ n5_ n6_ n7_ n8_ n9_ hb hbox hg; have hnb29 := NB276_271.out; have hnc29 := NB271_276.out; have hnb30 := NB276_273.out; have hnc30 := NB273_276.out; have hcz31_0 : w28.cell? ⟨gb276, 0, none⟩ = some (.int .i64 0) := (qJ BK276.out 0).trans rfl; have hcz31_1 : w28.cell? ⟨gb276, 1, none⟩ = some (.float .f64 0) := (qJ BK276.out 1).trans rfl; have hcz31_2 : w28.cell? ⟨gb276, 2, none⟩ = some (.float .f64 0) := (qJ BK276.out 2).trans rfl; have hfz31_0 := qK BK276.out 0; have hfz31_1 := qK BK276.out 1; have hfz31_2 := qK BK276.out 2; have hnb32 := NB273_271.out; have hnc32 := NB271_273.out; have hcz33_0 : w28.cell? ⟨gb273, 0, none⟩ = some (.int .i64 ((zT l0_0 x14_1).f0)) := (qJ BK273.out 0).trans rfl; have hcz33_1 : w28.cell? ⟨gb273, 1, none⟩ = some (.slice (some ad275) ((zT l0_0 x14_1).f1).length c272_1) := (qJ BK273.out 1).trans rfl; have hfz33_0 := qK BK273.out 0; have hfz33_1 := qK BK273.out 1) | ((with_reducible refine gate_callee (f := 19) rfl ?_); refine qW (some 38) rfl rfl Tryd.func19 (by kernel_rfl) rfl #[.int .i64 ((zT l0_0 x14_1).f0), .agg #[.int .i64 ((zU ((zT l0_0 x14_1).f1) x31_3).f0), .float .f64 (Int.toNat ((zU ((zT l0_0 x14_1).f1) x31_3).f1)), .float .f64 (Int.toNat ((zU ((zT l0_0 x14_1).f1) x31_3).f2))]] rfl (by (try simp only [List.map_toArray, List.map_cons, List.map_nil]); first | done | rfl) ?_; (with_reducible refine (zP.calls ((zT l0_0 x14_1).f0) ((zU ((zT l0_0 x14_1).f1) x31_3).f0) ((zU ((zT l0_0 x14_1).f1) x31_3).f1) ((zU ((zT l0_0 x14_1).f1) x31_3).f2) true _ ?sideT A26.out).mono ?_); (case sideT => refine Table.holds_below HT.out ?_ HT0.out; repeat (first | (with_reducible first | exact HB.out | apply qA | apply qB | apply qC | refine qD ?_ GE271.out | refine qD ?_ GE273.out | refine qD ?_ GE276.out) | exact HB.out)); rintro e w34 ⟨rfl, hb⟩; refine ⟨_, rfl, ?_⟩; have n0_ := qV.mk (qL (g := gb271) (o := .cells #[.slice (some ad272) l0_0.length c0_0] 39 (0, 0)) (by (with_reducible repeat (first | refine qH ?_ _ | refine qI ?_ | refine qG ?_ _)); refine jO ?_ NB271_276.out _; (with_reducible repeat (first | refine qH ?_ _ | refine qI ?_ | refine qG ?_ _)); refine jO ?_ NB271_276.out _; (with_reducible repeat (first | refine qH ?_ _ | refine qI ?_ | refine qG ?_ _)); refine jO ?_ NB271_276.out _; (with_reducible repeat (first | refine qH ?_ _ | refine qI ?_ | refine qG ?_ _)); exact BK271.out) hb); have n1_ := qV.mk (qL (g := gb273) (o := .cells #[.int .i64 ((zT l0_0 x14_1).f0), .slice (some ad275) ((zT l0_0 x14_1).f1).length c272_1] 85 (0, 0)) (by (with_reducible repeat (first | refine qH ?_ _ | refine qI ?_ | refine qG ?_ _)); refine jO ?_ NB273_276.out _; (with_reducible repeat (first | refine qH ?_ _ | refine qI ?_ | refine qG ?_ _)); refine jO ?_ NB273_276.out _; (with_reducible repeat (first | refine qH ?_ _ | refine qI ?_ | refine qG ?_ _)); refine jO ?_ NB273_276.out _; (with_reducible repeat (first | refine qH ?_ _ | refine qI ?_ | refine qG ?_ _)); exact BK273.out) hb); have n2_ := qV.mk (qL (g := gb276) (o := .cells #[.int .i64 ((zU ((zT l0_0 x14_1).f1) x31_3).f0), .float .f64 (Int.toNat ((zU ((zT l0_0 x14_1).f1) x31_3).f1)), .float .f64 (Int.toNat ((zU ((zT l0_0 x14_1).f1) x31_3).f2))] 27 (0, 0)) (by (with_reducible repeat (first | refine qH ?_ _ | refine qI ?_ | refine qG ?_ _)); refine jQ (cs := #[.int .i64 ((zU ((zT l0_0 x14_1).f1) x31_3).f0), .float .f64 (Int.toNat ((zU ((zT l0_0 x14_1).f1) x31_3).f1)), .float .f64 0]) ?_ 2 _ rfl; (with_reducible repeat (first | refine qH ?_ _ | refine qI ?_ | refine qG ?_ _)); refine jQ (cs := #[.int .i64 ((zU ((zT l0_0 x14_1).f1) x31_3).f0), .float .f64 0, .float .f64 0]) ?_ 1 _ rfl; (with_reducible repeat (first | refine qH ?_ _ | refine qI ?_ | refine qG ?_ _)); refine jQ (cs := #[.int .i64 0, .float .f64 0, .float .f64 0]) ?_ 0 _ rfl; (with_reducible repeat (first | refine qH ?_ _ | refine qI ?_ | refine qG ?_ _)); exact BK276.out) hb); have n3_ := qV.mk (qE (by repeat (first | (with_reducible first | exact HB.out | apply qA | apply qB | apply qC | refine qD ?_ GE271.out | refine qD ?_ GE273.out | refine qD ?_ GE276.out) | exact HB.out)) hb); clear BK271 BK273 BK276 HB; have BK271 := n0_; have BK273 := n1_; have BK276 := n2_; have HB := n3_; clear n0_ n1_ n2_ n3_; (try clear hb); (try clear hb2); (try clear hk); (try clear hi)))
                go_roundg k3
                case measure => have := HK1.out; have := HJ9.out; have := HK3.out; omega
                case rel => exact ⟨(wrap64 (x31_3 + 1)), (by first | rfl | (simp; done) | (simp [*]; done)), H', ⟨by have := HK1.out; have := HJ9.out; have := HK3.out; omega⟩, ⟨by (with_reducible repeat (first | refine qH ?_ _ | refine qI ?_ | refine qG ?_ _)); exact BK271.out⟩, ⟨by (with_reducible repeat (first | refine qH ?_ _ | refine qI ?_ | refine qG ?_ _)); exact BK273.out⟩, ⟨by repeat (first | (with_reducible first | exact HB.out | apply qA | apply qB | apply qC | refine qD ?_ GE271.out | refine qD ?_ GE273.out | refine qD ?_ GE276.out) | exact HB.out)⟩⟩
               ·replace c27 := Bool.eq_false_iff.mpr c27
                subst c27
                rw [if_neg (show ¬ (false = true) by decide)] at H
                obtain rfl := Option.some.inj H
                have p275 : 0 ≤ (x31_3 : Int) := of_decide_eq_true (by assumption)
                have q275 : x31_3 < (((zT l0_0 x14_1).f1).length : Int) := of_decide_eq_true (by assumption)
                obtain ⟨ad275, e275, hx275_0, hx275_1, hx275_2⟩ := at_T27 HR272_1.out x31_3 p275 q275
                cases e275
                replace hx275_0 := (HB.out.cell (World.block_lt_of_cell? w _ hx275_0)).trans hx275_0
                replace hx275_1 := (HB.out.cell (World.block_lt_of_cell? w _ hx275_1)).trans hx275_1
                replace hx275_2 := (HB.out.cell (World.block_lt_of_cell? w _ hx275_2)).trans hx275_2
                replace p275 := eq_true p275
                replace q275 := eq_true q275
                go_wp2_with (first | ((with_reducible refine gate_dst (N := 6) rfl ?_); (try (refine gate_guard (by rfl) ?_; dsimp only)); refine qX ?hg (N := 6) ?hd (cs := #[.int .i64 0, .float .f64 0, .float .f64 0]) (t := 27) ?hr ?_; (case hd => rfl); (case hg => rfl); (case hr => first | (go_simp; done) | (go_simp; rfl)); intro gb276 hg w35 hbox hb; have n0_ := qV.mk (qL (g := gb271) (o := .cells #[.slice (some ad272) l0_0.length c0_0] 39 (0, 0)) (by (with_reducible repeat (first | refine qH ?_ _ | refine qI ?_ | refine qG ?_ _)); exact BK271.out) hb); have n1_ := qV.mk (qL (g := gb273) (o := .cells #[.int .i64 ((zT l0_0 x14_1).f0), .slice (some ad275) ((zT l0_0 x14_1).f1).length c272_1] 85 (0, 0)) (by (with_reducible repeat (first | refine qH ?_ _ | refine qI ?_ | refine qG ?_ _)); exact BK273.out) hb); have n2_ := qV.mk (qE (by repeat (first | (with_reducible first | exact HB.out | apply qA | apply qB | apply qC | refine qD ?_ GE271.out | refine qD ?_ GE273.out) | exact HB.out)) hb); have n3_ := qV.mk (hbox); have n4_ := qV.mk ((by rw [hg]; exact (qF (by repeat (first | (with_reducible first | exact HB.out | apply qA | apply qB | apply qC | refine qD ?_ GE271.out | refine qD ?_ GE273.out) | exact HB.out))) : w.heap.size ≤ gb276)); have n5_ := qV.mk ((by rw [hg]; exact (qF (by repeat (first | (with_reducible first | exact HB.out | apply qA | apply qB | apply qC | refine qD ?_ GE271.out | refine qD ?_ GE273.out) | exact HB.out))) : w.heap.size ≤ gb276)); have n6_ := qV.mk ((by rw [hg]; exact Nat.ne_of_lt (jR (g := gb271) (o := .cells #[.slice (some ad272) l0_0.length c0_0] 39 (0, 0)) (by (with_reducible repeat (first | refine qH ?_ _ | refine qI ?_ | refine qG ?_ _)); exact BK271.out)) : gb271 ≠ gb276)); have n7_ := qV.mk ((by rw [hg]; exact Nat.ne_of_gt (jR (g := gb271) (o := .cells #[.slice (some ad272) l0_0.length c0_0] 39 (0, 0)) (by (with_reducible repeat (first | refine qH ?_ _ | refine qI ?_ | refine qG ?_ _)); exact BK271.out)) : gb276 ≠ gb271)); have n8_ := qV.mk ((by rw [hg]; exact Nat.ne_of_lt (jR (g := gb273) (o := .cells #[.int .i64 ((zT l0_0 x14_1).f0), .slice (some ad275) ((zT l0_0 x14_1).f1).length c272_1] 85 (0, 0)) (by (with_reducible repeat (first | refine qH ?_ _ | refine qI ?_ | refine qG ?_ _)); exact BK273.out)) : gb273 ≠ gb276)); have n9_ := qV.mk ((by rw [hg]; exact Nat.ne_of_gt (jR (g := gb273) (o := .cells #[.int .i64 ((zT l0_0 x14_1).f0), .slice (some ad275) ((zT l0_0 x14_1).f1).length c272_1] 85 (0, 0)) (by (with_reducible repeat (first | refine qH ?_ _ | refine qI ?_ | refine qG ?_ _)); exact BK273.out)) : gb276 ≠ gb273)); clear BK271 BK273 HB; have BK271 := n0_; have BK273 := n1_; have HB := n2_; have BK276 := n3_; have GW276 := n4_; have GE276 := n5_; have NB271_276 := n6_; have NB276_271 := n7_; have NB273_276 := n8_; have NB276_273 := n9_; clear n0_ n1_ n2_ n3_ n4_ n5_ n6_ n7_ n8_ n9_ hb hbox hg; have hnb36 := NB276_271.out; have hnc36 := NB271_276.out; have hnb37 := NB276_273.out; have hnc37 := NB273_276.out; have hcz38_0 : w35.cell? ⟨gb276, 0, none⟩ = some (.int .i64 0) := (qJ BK276.out 0).trans rfl; have hcz38_1 : w35.cell? ⟨gb276, 1, none⟩ = some (.float .f64 0) := (qJ BK276.out 1).trans rfl; have hcz38_2 : w35.cell? ⟨gb276, 2, none⟩ = some (.float .f64 0) := (qJ BK276.out 2).trans rfl; have hfz38_0 := qK BK276.out 0; have hfz38_1 := qK BK276.out 1; have hfz38_2 := qK BK276.out 2; have hnb39 := NB273_271.out; have hnc39 := NB271_273.out; have hcz40_0 : w35.cell? ⟨gb273, 0, none⟩ = some (.int .i64 ((zT l0_0 x14_1).f0)) := (qJ BK273.out 0).trans rfl; have hcz40_1 : w35.cell? ⟨gb273, 1, none⟩ = some (.slice (some ad275) ((zT l0_0 x14_1).f1).length c272_1) := (qJ BK273.out 1).trans rfl; have hfz40_0 := qK BK273.out 0; have hfz40_1 := qK BK273.out 1) | ((with_reducible refine gate_callee (f := 19) rfl ?_); refine qW (some 38) rfl rfl Tryd.func19 (by kernel_rfl) rfl #[.int .i64 ((zT l0_0 x14_1).f0), .agg #[.int .i64 ((zU ((zT l0_0 x14_1).f1) x31_3).f0), .float .f64 (Int.toNat ((zU ((zT l0_0 x14_1).f1) x31_3).f1)), .float .f64 (Int.toNat ((zU ((zT l0_0 x14_1).f1) x31_3).f2))]] rfl (by (try simp only [List.map_toArray, List.map_cons, List.map_nil]); first | done | rfl) ?_; (with_reducible refine (zP.calls ((zT l0_0 x14_1).f0) ((zU ((zT l0_0 x14_1).f1) x31_3).f0) ((zU ((zT l0_0 x14_1).f1) x31_3).f1) ((zU ((zT l0_0 x14_1).f1) x31_3).f2) false _ ?sideT A26.out).mono ?_); (case sideT => refine Table.holds_below HT.out ?_ HT0.out; repeat (first | (with_reducible first | exact HB.out | apply qA | apply qB | apply qC | refine qD ?_ GE271.out | refine qD ?_ GE273.out | refine qD ?_ GE276.out) | exact HB.out)); rintro e w41 ⟨rfl, hb⟩; refine ⟨_, rfl, ?_⟩; have n0_ := qV.mk (qL (g := gb271) (o := .cells #[.slice (some ad272) l0_0.length c0_0] 39 (0, 0)) (by (with_reducible repeat (first | refine qH ?_ _ | refine qI ?_ | refine qG ?_ _)); refine jO ?_ NB271_276.out _; (with_reducible repeat (first | refine qH ?_ _ | refine qI ?_ | refine qG ?_ _)); refine jO ?_ NB271_276.out _; (with_reducible repeat (first | refine qH ?_ _ | refine qI ?_ | refine qG ?_ _)); refine jO ?_ NB271_276.out _; (with_reducible repeat (first | refine qH ?_ _ | refine qI ?_ | refine qG ?_ _)); exact BK271.out) hb); have n1_ := qV.mk (qL (g := gb273) (o := .cells #[.int .i64 ((zT l0_0 x14_1).f0), .slice (some ad275) ((zT l0_0 x14_1).f1).length c272_1] 85 (0, 0)) (by (with_reducible repeat (first | refine qH ?_ _ | refine qI ?_ | refine qG ?_ _)); refine jO ?_ NB273_276.out _; (with_reducible repeat (first | refine qH ?_ _ | refine qI ?_ | refine qG ?_ _)); refine jO ?_ NB273_276.out _; (with_reducible repeat (first | refine qH ?_ _ | refine qI ?_ | refine qG ?_ _)); refine jO ?_ NB273_276.out _; (with_reducible repeat (first | refine qH ?_ _ | refine qI ?_ | refine qG ?_ _)); exact BK273.out) hb); have n2_ := qV.mk (qL (g := gb276) (o := .cells #[.int .i64 ((zU ((zT l0_0 x14_1).f1) x31_3).f0), .float .f64 (Int.toNat ((zU ((zT l0_0 x14_1).f1) x31_3).f1)), .float .f64 (Int.toNat ((zU ((zT l0_0 x14_1).f1) x31_3).f2))] 27 (0, 0)) (by (with_reducible repeat (first | refine qH ?_ _ | refine qI ?_ | refine qG ?_ _)); refine jQ (cs := #[.int .i64 ((zU ((zT l0_0 x14_1).f1) x31_3).f0), .float .f64 (Int.toNat ((zU ((zT l0_0 x14_1).f1) x31_3).f1)), .float .f64 0]) ?_ 2 _ rfl; (with_reducible repeat (first | refine qH ?_ _ | refine qI ?_ | refine qG ?_ _)); refine jQ (cs := #[.int .i64 ((zU ((zT l0_0 x14_1).f1) x31_3).f0), .float .f64 0, .float .f64 0]) ?_ 1 _ rfl; (with_reducible repeat (first | refine qH ?_ _ | refine qI ?_ | refine qG ?_ _)); refine jQ (cs := #[.int .i64 0, .float .f64 0, .float .f64 0]) ?_ 0 _ rfl; (with_reducible repeat (first | refine qH ?_ _ | refine qI ?_ | refine qG ?_ _)); exact BK276.out) hb); have n3_ := qV.mk (qE (by repeat (first | (with_reducible first | exact HB.out | apply qA | apply qB | apply qC | refine qD ?_ GE271.out | refine qD ?_ GE273.out | refine qD ?_ GE276.out) | exact HB.out)) hb); clear BK271 BK273 BK276 HB; have BK271 := n0_; have BK273 := n1_; have BK276 := n2_; have HB := n3_; clear n0_ n1_ n2_ n3_; (try clear hb); (try clear hb2); (try clear hk); (try clear hi)))
                go_ret
                exact ⟨by first | rfl | (simp [zS, zR] <;> rfl) | (simp [*, zS, zR] <;> rfl), by repeat (first | (with_reducible first | exact HB.out | apply qA | apply qB | apply qC | refine qD ?_ GE271.out | refine qD ?_ GE273.out | refine qD ?_ GE276.out) | exact HB.out)⟩
              ·rw [if_neg c25] at H
               exact absurd H (by simp)
             ·rw [if_neg c24] at H
              exact absurd H (by simp)
            ·rw [if_neg c23] at H
             have c23b0 : decide (x31_3 < (((zT l0_0 x14_1).f1).length : Int)) = false := decide_eq_false c23
             clear c23
             have H' := qV.mk H
             clear H
             go_wp2
             go_roundg k3
             case measure => have := HK1.out; have := HJ9.out; have := HK3.out; omega
             case rel => exact ⟨(wrap64 (x14_1 + 1)), (by first | rfl | (simp; done) | (simp [*]; done)), H', ⟨by have := HK1.out; have := HJ9.out; have := HK3.out; omega⟩, ⟨by (with_reducible repeat (first | refine qH ?_ _ | refine qI ?_ | refine qG ?_ _)); exact BK271.out⟩, ⟨by repeat (first | (with_reducible first | exact HB.out | apply qA | apply qB | apply qC | refine qD ?_ GE271.out | refine qD ?_ GE273.out) | exact HB.out)⟩⟩
      ·rw [if_neg c9] at H
       exact absurd H (by simp)
     ·rw [if_neg c8] at H
      exact absurd H (by simp)
    ·rw [if_neg c7] at H
     have c7b0 : decide (x14_1 < (l0_0.length : Int)) = false := decide_eq_false c7
     clear c7
     obtain rfl := Option.some.inj H
     go_wp2
     go_ret
     exact ⟨by first | rfl | (simp [zS, zR] <;> rfl) | (simp [*, zS, zR] <;> rfl), by repeat (first | (with_reducible first | exact HB.out | apply qA | apply qB | apply qC | refine qD ?_ GE271.out) | exact HB.out)⟩

def jJ.l0 : Nat → Int → List Int → Int → Int → Option (Int)
 | 0, _, _, _, _ => none
 | k + 1, x3, x6, x7, x8 => if x8 < x7 then (if 0 ≤ x8 then (if x8 < (x6.length : Int) then (jJ.l0 k (wrap64 (x3 * (rd x6 x8))) x6 x7 (wrap64 (x8 + 1))) else (none)) else (none)) else (some x3)
def jJ.f (k : Nat) (l0 : List Int) : Option (Int) := jJ.l0 k 1 l0 (l0.length : Int) 0
theorem jJ.mono_l : ∀ k, (∀ y0 y1 y2 y3, LeO (jJ.l0 k y0 y1 y2 y3) (jJ.l0 (k + 1) y0 y1 y2 y3))
 | 0 => fun _ _ _ _ r h => by simp [jJ.l0] at h
 | k + 1 => by
  have ih0 := jJ.mono_l k
  ·intro y0 y1 y2 y3
   unfold jJ.l0
   repeat' first
   | (with_reducible exact ih0 _ _ _ _)
   | (with_reducible exact LeO.refl _)
   | (with_reducible exact LeO.none _)
   | (with_reducible refine LeO.ite ?_ ?_)
   | (with_reducible refine LeO.bind ?_ (fun _ => ?_))
   | exact ih0 _ _ _ _
   | exact LeO.none _
   | refine LeO.ite ?_ ?_
   | refine LeO.bind ?_ (fun _ => ?_)
theorem jJ.mono : ∀ a0 k, LeO (jJ.f k a0) (jJ.f (k + 1) a0) := by
 intro a0 k
 have ih0 := jJ.mono_l k
 unfold jJ.f
 repeat' first
   | (with_reducible exact ih0 _ _ _ _)
   | (with_reducible exact LeO.refl _)
   | (with_reducible exact LeO.none _)
   | (with_reducible refine LeO.ite ?_ ?_)
   | (with_reducible refine LeO.bind ?_ (fun _ => ?_))
   | exact ih0 _ _ _ _
   | exact LeO.none _
   | refine LeO.ite ?_ ?_
   | refine LeO.bind ?_ (fun _ => ?_)
set_option maxHeartbeats 8000000 in
set_option maxRecDepth 100000 in
theorem jJ.calls (k : Nat) (A0 : Option Addr) (c0 : Nat) (l0 : List Int) (r : Int) (w : World) (hr0 : Kd.C (Kd.int .i64) w A0 l0.length l0) (hc0 : l0.length ≤ c0) (h : jJ.f k l0 = some r) :
  Calls Tryd.prog 121 #[.slice A0 l0.length c0] w fun e w' => e = .returned (.int .i64 r) ∧ zI w w' := by
 have HR0 := qV.mk hr0
 have HC0 := qV.mk hc0
 clear hr0 hc0
 have H : (jJ.l0 k 1 l0 (l0.length : Int) 0) = some r := h
 clear h
 have H' := qV.mk H
 clear H
 go_enter Tryd.func121, Tryd.ntmps121
 go_wp2
 go_loopg [3, 8] k (fun kq v3 v8 w' => ∃ (x3_1 : Int) (x8_1 : Int), v3 = .int .i64 x3_1 ∧ v8 = .int .i64 x8_1 ∧ qV (jJ.l0 kq x3_1 l0 (l0.length : Int) x8_1 = some r) ∧ qV (kq ≤ k) ∧ zI w w')
 case atStart => exact ⟨(1), (0), (by first | rfl | (simp; done) | (simp [*]; done)), (by first | rfl | (simp; done) | (simp [*]; done)), H', ⟨Nat.le_refl _⟩, by repeat (first | exact zI.refl _ | apply zI.step)⟩
 case round =>
  clear H'
  try clear c1
  obtain ⟨x3_1, x8_1, rfl, rfl, HA, HK1, ⟨m1, rfl⟩⟩ := hrel
  cases gk with
  | zero => exact absurd HA.out (by simp [jJ.l0])
  | succ k1 =>
   have H := HA.out
   clear HA
   simp only [jJ.l0] at H
   by_cases c2 : x8_1 < (l0.length : Int)
   ·rw [if_pos c2] at H
    have c2b0 : decide (x8_1 < (l0.length : Int)) = true := decide_eq_true c2
    clear c2
    by_cases c3 : 0 ≤ x8_1
    ·rw [if_pos c3] at H
     have c3b0 : decide (0 ≤ x8_1) = true := decide_eq_true c3
     clear c3
     by_cases c4 : x8_1 < (l0.length : Int)
     ·rw [if_pos c4] at H
      have c4b0 : decide (x8_1 < (l0.length : Int)) = true := decide_eq_true c4
      clear c4
      have H' := qV.mk H
      clear H
      have p278 : 0 ≤ (x8_1 : Int) := of_decide_eq_true (by assumption)
      have q278 : x8_1 < (l0.length : Int) := of_decide_eq_true (by assumption)
      obtain ⟨ad278, e278, hx278_0⟩ := Kd.at_int HR0.out x8_1 p278 q278
      cases e278
      replace p278 := eq_true p278
      replace q278 := eq_true q278
      go_wp2
      go_roundg k1
      case measure => have := HK1.out; omega
      case rel => exact ⟨(wrap64 (x3_1 * (rd l0 x8_1))), (wrap64 (x8_1 + 1)), (by first | rfl | (simp; done) | (simp [*]; done)), (by first | rfl | (simp; done) | (simp [*]; done)), H', ⟨by have := HK1.out; omega⟩, by repeat (first | exact zI.refl _ | apply zI.step)⟩
     ·rw [if_neg c4] at H
      exact absurd H (by simp)
    ·rw [if_neg c3] at H
     exact absurd H (by simp)
   ·rw [if_neg c2] at H
    have c2b0 : decide (x8_1 < (l0.length : Int)) = false := decide_eq_false c2
    clear c2
    obtain rfl := Option.some.inj H
    go_wp2
    go_ret
    exact ⟨by first | rfl | (simp; done) | (simp [*]; done), by repeat (first | exact zI.refl _ | apply zI.step)⟩

def jA.l0 : Nat → List Int → List Int → Int → Int → Option (Bool)
 | 0, _, _, _, _ => none
 | k + 1, x0, x8, x9, x10 => if x10 < x9 then (if 0 ≤ x10 then (if x10 < (x8.length : Int) then (if (rd x8 x10) < 0 then (some false) else (if (rd x8 x10) > 4096 then (some false) else (jA.l0 k x0 x8 x9 (wrap64 (x10 + 1))))) else (none)) else (none)) else ((jJ.f k x0).bind fun t280 => (some (decide (t280 ≤ 4096))))
def jA.f (k : Nat) (l0 : List Int) : Option (Bool) := if (l0.length : Int) > 4 then (some false) else (jA.l0 k l0 l0 (l0.length : Int) 0)
theorem jA.mono_l : ∀ k, (∀ y0 y1 y2 y3, LeO (jA.l0 k y0 y1 y2 y3) (jA.l0 (k + 1) y0 y1 y2 y3))
 | 0 => fun _ _ _ _ r h => by simp [jA.l0] at h
 | k + 1 => by
  have ih0 := jA.mono_l k
  ·intro y0 y1 y2 y3
   unfold jA.l0
   repeat' first
   | (with_reducible exact ih0 _ _ _ _)
   | (with_reducible exact jJ.mono _ _)
   | (with_reducible exact LeO.refl _)
   | (with_reducible exact LeO.none _)
   | (with_reducible refine LeO.ite ?_ ?_)
   | (with_reducible refine LeO.bind ?_ (fun _ => ?_))
   | exact ih0 _ _ _ _
   | exact jJ.mono _ _
   | exact LeO.none _
   | refine LeO.ite ?_ ?_
   | refine LeO.bind ?_ (fun _ => ?_)
theorem jA.mono : ∀ a0 k, LeO (jA.f k a0) (jA.f (k + 1) a0) := by
 intro a0 k
 have ih0 := jA.mono_l k
 unfold jA.f
 repeat' first
   | (with_reducible exact ih0 _ _ _ _)
   | (with_reducible exact jJ.mono _ _)
   | (with_reducible exact LeO.refl _)
   | (with_reducible exact LeO.none _)
   | (with_reducible refine LeO.ite ?_ ?_)
   | (with_reducible refine LeO.bind ?_ (fun _ => ?_))
   | exact ih0 _ _ _ _
   | exact jJ.mono _ _
   | exact LeO.none _
   | refine LeO.ite ?_ ?_
   | refine LeO.bind ?_ (fun _ => ?_)
set_option maxHeartbeats 8000000 in
set_option maxRecDepth 100000 in
theorem jA.calls (k : Nat) (A0 : Option Addr) (c0 : Nat) (l0 : List Int) (r : Bool) (w : World) (hr0 : Kd.C (Kd.int .i64) w A0 l0.length l0) (hc0 : l0.length ≤ c0) (h : jA.f k l0 = some r) :
  Calls Tryd.prog 120 #[.slice A0 l0.length c0] w fun e w' => e = .returned (.bool r) ∧ zI w w' := by
 have HR0 := qV.mk hr0
 have HC0 := qV.mk hc0
 clear hr0 hc0
 have H : (if (l0.length : Int) > 4 then (some false) else (jA.l0 k l0 l0 (l0.length : Int) 0)) = some r := h
 clear h
 by_cases c2 : (l0.length : Int) > 4
 ·rw [if_pos c2] at H
  have c2b0 : decide (4 < (l0.length : Int)) = true := decide_eq_true c2
  have c2b1 : decide (4 < l0.length) = true := decide_eq_true (by omega)
  clear c2
  obtain rfl := Option.some.inj H
  go_enter Tryd.func120, Tryd.ntmps120
  go_wp2
  go_ret
  exact ⟨by first | rfl | (simp; done) | (simp [*]; done), by repeat (first | exact zI.refl _ | apply zI.step)⟩
 ·rw [if_neg c2] at H
  have c2b0 : decide (4 < (l0.length : Int)) = false := decide_eq_false c2
  have c2b1 : decide (4 < l0.length) = false := decide_eq_false (by omega)
  clear c2
  have H' := qV.mk H
  clear H
  go_enter Tryd.func120, Tryd.ntmps120
  go_wp2
  go_loopg [10] k (fun kq v10 w' => ∃ (x10_1 : Int), v10 = .int .i64 x10_1 ∧ qV (jA.l0 kq l0 l0 (l0.length : Int) x10_1 = some r) ∧ qV (kq ≤ k) ∧ zI w w')
  case atStart => exact ⟨(0), (by first | rfl | (simp; done) | (simp [*]; done)), H', ⟨Nat.le_refl _⟩, by repeat (first | exact zI.refl _ | apply zI.step)⟩
  case round =>
   clear H'
   try clear c1
   try clear c2
   try clear c2b0
   try clear c2b1
   try clear p2
   obtain ⟨x10_1, rfl, HA, HK1, ⟨m1, rfl⟩⟩ := hrel
   cases gk with
   | zero => exact absurd HA.out (by simp [jA.l0])
   | succ k1 =>
    have H := HA.out
    clear HA
    simp only [jA.l0] at H
    by_cases c3 : x10_1 < (l0.length : Int)
    ·rw [if_pos c3] at H
     have c3b0 : decide (x10_1 < (l0.length : Int)) = true := decide_eq_true c3
     clear c3
     by_cases c4 : 0 ≤ x10_1
     ·rw [if_pos c4] at H
      have c4b0 : decide (0 ≤ x10_1) = true := decide_eq_true c4
      clear c4
      by_cases c5 : x10_1 < (l0.length : Int)
      ·rw [if_pos c5] at H
       have c5b0 : decide (x10_1 < (l0.length : Int)) = true := decide_eq_true c5
       clear c5
       by_cases c6 : (rd l0 x10_1) < 0
       ·rw [if_pos c6] at H
        have c6b0 : decide ((rd l0 x10_1) < 0) = true := decide_eq_true c6
        clear c6
        obtain rfl := Option.some.inj H
        have p279 : 0 ≤ (x10_1 : Int) := of_decide_eq_true (by assumption)
        have q279 : x10_1 < (l0.length : Int) := of_decide_eq_true (by assumption)
        obtain ⟨ad279, e279, hx279_0⟩ := Kd.at_int HR0.out x10_1 p279 q279
        cases e279
        replace p279 := eq_true p279
        replace q279 := eq_true q279
        go_wp2
        go_ret
        exact ⟨by first | rfl | (simp; done) | (simp [*]; done), by repeat (first | exact zI.refl _ | apply zI.step)⟩
       ·rw [if_neg c6] at H
        have c6b0 : decide ((rd l0 x10_1) < 0) = false := decide_eq_false c6
        clear c6
        by_cases c7 : (rd l0 x10_1) > 4096
        ·rw [if_pos c7] at H
         have c7b0 : decide (4096 < (rd l0 x10_1)) = true := decide_eq_true c7
         clear c7
         obtain rfl := Option.some.inj H
         have p279 : 0 ≤ (x10_1 : Int) := of_decide_eq_true (by assumption)
         have q279 : x10_1 < (l0.length : Int) := of_decide_eq_true (by assumption)
         obtain ⟨ad279, e279, hx279_0⟩ := Kd.at_int HR0.out x10_1 p279 q279
         cases e279
         replace p279 := eq_true p279
         replace q279 := eq_true q279
         go_wp2
         go_ret
         exact ⟨by first | rfl | (simp; done) | (simp [*]; done), by repeat (first | exact zI.refl _ | apply zI.step)⟩
        ·rw [if_neg c7] at H
         have c7b0 : decide (4096 < (rd l0 x10_1)) = false := decide_eq_false c7
         clear c7
         have H' := qV.mk H
         clear H
         have p279 : 0 ≤ (x10_1 : Int) := of_decide_eq_true (by assumption)
         have q279 : x10_1 < (l0.length : Int) := of_decide_eq_true (by assumption)
         obtain ⟨ad279, e279, hx279_0⟩ := Kd.at_int HR0.out x10_1 p279 q279
         cases e279
         replace p279 := eq_true p279
         replace q279 := eq_true q279
         go_wp2
         go_roundg k1
         case measure => have := HK1.out; omega
         case rel => exact ⟨(wrap64 (x10_1 + 1)), (by first | rfl | (simp; done) | (simp [*]; done)), H', ⟨by have := HK1.out; omega⟩, by repeat (first | exact zI.refl _ | apply zI.step)⟩
      ·rw [if_neg c5] at H
       exact absurd H (by simp)
     ·rw [if_neg c4] at H
      exact absurd H (by simp)
    ·rw [if_neg c3] at H
     have c3b0 : decide (x10_1 < (l0.length : Int)) = false := decide_eq_false c3
     clear c3
     replace H := Option.bind_eq_some_iff.mp H
     obtain ⟨t280, A80, H⟩ := H
     try dsimp only at H
     have A8 := qV.mk A80
     clear A80
     obtain rfl := Option.some.inj H
     go_wp2_with (first | ((with_reducible refine gate_callee (f := 121) rfl ?_); refine qW (some 22) rfl rfl Tryd.func121 (by kernel_rfl) rfl #[.slice A0 l0.length c0] rfl (by (try simp only [List.map_toArray, List.map_cons, List.map_nil]); first | done | rfl) ?_; (with_reducible refine (jJ.calls k1 _ _ l0 t280 _ ?side1 ?side2 A8.out).mono ?_); (case side1 => repeat (first | exact HR0.out | (with_reducible refine Kd.qS ?_ _) | (with_reducible refine Kd.qT ?_ _) | (with_reducible refine Kd.qU ?_))); (case side2 => exact HC0.out); rintro e w' ⟨rfl, ⟨nd, rfl⟩⟩; refine ⟨_, rfl, ?_⟩))
     go_ret
     exact ⟨by first | rfl | (simp; done) | (simp [*]; done), by repeat (first | exact zI.refl _ | apply zI.step)⟩

end Go.Proofs.YtpmdgmnpkdoamabDoor.DFnExactRead
