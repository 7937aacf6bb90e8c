/- Proved here: what the functions answer that the law on Read comes to (the lines were written by a program). Conditions: those that stand ahead in each theorem. -/
import Derived.Test.YtpmdgmnpkdoamabDoorRdDFnExactReadx0
import Derived.Test.YtpmdgmnpkdoamabDoorRdDFnExactReadx4
import Derived.Test.YtpmdgmnpkdoamabDoorRdDFnExactReadx6
namespace Go.Proofs.YtpmdgmnpkdoamabDoor.DFnExactRead
open Go.RowKit Go.Proofs.YtpmdgmnpkdoamabDoorW.PrintWords Go.Proofs.YtpmdgmnpkdoamabDoorW.PrintLast Go.Proofs.YtpmdgmnpkdoamabDoorW.PrintMore
attribute [local go_sem] Vc.run_store_float' max2_int min2_int max_two min_two max_three min_three max_four min_four   -- for this text's walks alone
set_option linter.unusedVariables false
set_option linter.unusedSimpArgs false

mutual
def jG.j0 : Nat → Bool → List (S85) → Int → List Int → List Int → Int → Option (Bool)
 | 0, _, _, _, _, _, _ => none
 | k + 1, x23, x236000, x237000, x237001, x237002, x237003 => if x23 = true then (some false) else ((spec_l2Offsets.f k x237001 x237002 x237003).bind fun t238 => (jG.l0 k t238 0 x236000 x237000 x237001 x237002 x237003))
def jG.l0 : Nat → List Int → Int → List (S85) → Int → List Int → List Int → Int → Option (Bool)
 | 0, _, _, _, _, _, _, _ => none
 | k + 1, x5, x6, x236000, x237000, x237001, x237002, x237003 => if x6 < (x5.length : Int) then (if 0 ≤ x6 then (if 0 ≤ x237000 then (if x237000 < (x236000.length : Int) then (if (rd x5 x6) ≥ (((zT x236000 x237000).f1).length : Int) then (some false) else (jG.l0 k x5 (wrap64 (x6 + 1)) x236000 x237000 x237001 x237002 x237003)) else (none)) else (none)) else (none)) else (some true)
end
def jG.f (k : Nat) (l0_0 : List (S85)) (a1_0 : Int) (l1_1 : List Int) (l1_2 : List Int) (a1_3 : Int) : Option (Bool) := if a1_0 < 0 then (jG.j0 k true l0_0 a1_0 l1_1 l1_2 a1_3) else (if a1_0 ≥ (l0_0.length : Int) then (jG.j0 k true l0_0 a1_0 l1_1 l1_2 a1_3) else ((zW.f k l1_1 l1_2 a1_3).bind fun t237 => (jG.j0 k (!t237) l0_0 a1_0 l1_1 l1_2 a1_3)))
theorem jG.mono_l : ∀ k, (∀ y0 y1 y2 y3 y4 y5, LeO (jG.j0 k y0 y1 y2 y3 y4 y5) (jG.j0 (k + 1) y0 y1 y2 y3 y4 y5)) ∧ (∀ y0 y1 y2 y3 y4 y5 y6, LeO (jG.l0 k y0 y1 y2 y3 y4 y5 y6) (jG.l0 (k + 1) y0 y1 y2 y3 y4 y5 y6))
 | 0 => ⟨fun _ _ _ _ _ _ r h => by simp [jG.j0] at h, fun _ _ _ _ _ _ _ r h => by simp [jG.l0] at h⟩
 | k + 1 => by
  obtain ⟨ih0, ih1⟩ := jG.mono_l k
  refine ⟨?_, ?_⟩
  ·intro y0 y1 y2 y3 y4 y5
   unfold jG.j0
   repeat' first
   | (with_reducible exact ih0 _ _ _ _ _ _)
   | (with_reducible exact ih1 _ _ _ _ _ _ _)
   | (with_reducible exact zW.mono _ _ _ _)
   | (with_reducible exact spec_l2Offsets.mono _ _ _ _)
   | (with_reducible exact LeO.refl _)
   | (with_reducible exact LeO.none _)
   | (with_reducible refine LeO.ite ?_ ?_)
   | (with_reducible refine LeO.bind ?_ (fun _ => ?_))
   | exact ih0 _ _ _ _ _ _
   | exact ih1 _ _ _ _ _ _ _
   | exact zW.mono _ _ _ _
   | exact spec_l2Offsets.mono _ _ _ _
   | exact LeO.none _
   | refine LeO.ite ?_ ?_
   | refine LeO.bind ?_ (fun _ => ?_)
  ·intro y0 y1 y2 y3 y4 y5 y6
   unfold jG.l0
   repeat' first
   | (with_reducible exact ih0 _ _ _ _ _ _)
   | (with_reducible exact ih1 _ _ _ _ _ _ _)
   | (with_reducible exact zW.mono _ _ _ _)
   | (with_reducible exact spec_l2Offsets.mono _ _ _ _)
   | (with_reducible exact LeO.refl _)
   | (with_reducible exact LeO.none _)
   | (with_reducible refine LeO.ite ?_ ?_)
   | (with_reducible refine LeO.bind ?_ (fun _ => ?_))
   | exact ih0 _ _ _ _ _ _
   | exact ih1 _ _ _ _ _ _ _
   | exact zW.mono _ _ _ _
   | exact spec_l2Offsets.mono _ _ _ _
   | exact LeO.none _
   | refine LeO.ite ?_ ?_
   | refine LeO.bind ?_ (fun _ => ?_)
theorem jG.mono : ∀ a0 a1 a2 a3 a4 k, LeO (jG.f k a0 a1 a2 a3 a4) (jG.f (k + 1) a0 a1 a2 a3 a4) := by
 intro a0 a1 a2 a3 a4 k
 obtain ⟨ih0, ih1⟩ := jG.mono_l k
 unfold jG.f
 repeat' first
   | (with_reducible exact ih0 _ _ _ _ _ _)
   | (with_reducible exact ih1 _ _ _ _ _ _ _)
   | (with_reducible exact zW.mono _ _ _ _)
   | (with_reducible exact spec_l2Offsets.mono _ _ _ _)
   | (with_reducible exact LeO.refl _)
   | (with_reducible exact LeO.none _)
   | (with_reducible refine LeO.ite ?_ ?_)
   | (with_reducible refine LeO.bind ?_ (fun _ => ?_))
   | exact ih0 _ _ _ _ _ _
   | exact ih1 _ _ _ _ _ _ _
   | exact zW.mono _ _ _ _
   | exact spec_l2Offsets.mono _ _ _ _
   | exact LeO.none _
   | refine LeO.ite ?_ ?_
   | refine LeO.bind ?_ (fun _ => ?_)
set_option maxHeartbeats 8000000 in
set_option maxRecDepth 100000 in
theorem jG.calls (k : Nat) (A0_0 : Option Addr) (c0_0 : Nat) (l0_0 : List (S85)) (a1_0 : Int) (A1_1 : Option Addr) (c1_1 : Nat) (l1_1 : List Int) (A1_2 : Option Addr) (c1_2 : Nat) (l1_2 : List Int) (a1_3 : Int) (r : Bool) (w : World) (hr0_0 : Kd.C k85 w A0_0 l0_0.length l0_0) (hc0_0 : l0_0.length ≤ c0_0) (hr1_1 : Kd.C (Kd.int .i64) w A1_1 l1_1.length l1_1) (hc1_1 : l1_1.length ≤ c1_1) (hr1_2 : Kd.C (Kd.int .i64) w A1_2 l1_2.length l1_2) (hc1_2 : l1_2.length ≤ c1_2) (h : jG.f k l0_0 a1_0 l1_1 l1_2 a1_3 = some r) :
  Calls Tryd.prog 103 #[.agg #[.slice A0_0 l0_0.length c0_0], .agg #[.int .i64 a1_0, .slice A1_1 l1_1.length c1_1, .slice A1_2 l1_2.length c1_2, .int .i64 a1_3]] w fun e w' => e = .returned (.bool r) ∧ Below w.heap.size w w' := by
 have hu39 := Tryd.underlying39
 have hu66 := Tryd.underlying66
 have hu64 := Tryd.underlying64
 have HR0_0 := qV.mk hr0_0
 have HC0_0 := qV.mk hc0_0
 clear hr0_0 hc0_0
 have HR1_1 := qV.mk hr1_1
 have HC1_1 := qV.mk hc1_1
 clear hr1_1 hc1_1
 have HR1_2 := qV.mk hr1_2
 have HC1_2 := qV.mk hc1_2
 clear hr1_2 hc1_2
 have HB := qV.mk (Below.refl w.heap.size w)
 have H : (if a1_0 < 0 then (jG.j0 k true l0_0 a1_0 l1_1 l1_2 a1_3) else (if a1_0 ≥ (l0_0.length : Int) then (jG.j0 k true l0_0 a1_0 l1_1 l1_2 a1_3) else ((zW.f k l1_1 l1_2 a1_3).bind fun t237 => (jG.j0 k (!t237) l0_0 a1_0 l1_1 l1_2 a1_3)))) = some r := h
 clear h
 have HC3 := qV.mk H
 clear H
 go_enter Tryd.func103, Tryd.ntmps103
 go_upto_region 1 with (first | ((with_reducible refine gate_dst (N := 2) rfl ?_); (try (refine gate_guard (by rfl) ?_; dsimp only)); refine qX ?hg (N := 2) ?hd (cs := #[.slice A0_0 l0_0.length c0_0]) (t := 39) ?hr ?_; (case hd => rfl); (case hg => rfl); (case hr => first | (go_simp; done) | (go_simp; rfl)); intro gb235 hg w4 hbox hb; have n0_ := qV.mk (qE (by repeat (first | (with_reducible first | exact HB.out | apply qA | apply qB | apply qC) | exact HB.out)) hb); have n1_ := qV.mk (hbox); have n2_ := qV.mk ((by rw [hg]; exact (qF (by repeat (first | (with_reducible first | exact HB.out | apply qA | apply qB | apply qC) | exact HB.out))) : w.heap.size ≤ gb235)); have n3_ := qV.mk ((by rw [hg]; exact (qF (by repeat (first | (with_reducible first | exact HB.out | apply qA | apply qB | apply qC) | exact HB.out))) : w.heap.size ≤ gb235)); clear HB; have HB := n0_; have BK235 := n1_; have GW235 := n2_; have GE235 := n3_; clear n0_ n1_ n2_ n3_; clear hb hbox hg) | ((with_reducible refine gate_dst (N := 3) rfl ?_); (try (refine gate_guard (by rfl) ?_; dsimp only)); refine qX ?hg (N := 3) ?hd (cs := #[.int .i64 a1_0, .slice A1_1 l1_1.length c1_1, .slice A1_2 l1_2.length c1_2, .int .i64 a1_3]) (t := 66) ?hr ?_; (case hd => rfl); (case hg => rfl); (case hr => first | (go_simp; done) | (go_simp; rfl)); intro gb236 hg w5 hbox hb; have n0_ := qV.mk (qL (g := gb235) (o := .cells #[.slice A0_0 l0_0.length c0_0] 39 (0, 0)) (by (with_reducible repeat (first | refine qH ?_ _ | refine qI ?_ | refine qG ?_ _)); exact BK235.out) hb); have n1_ := qV.mk (qE (by repeat (first | (with_reducible first | exact HB.out | apply qA | apply qB | apply qC | refine qD ?_ GE235.out) | exact HB.out)) hb); have n2_ := qV.mk (hbox); have n3_ := qV.mk ((by rw [hg]; exact (qF (by repeat (first | (with_reducible first | exact HB.out | apply qA | apply qB | apply qC | refine qD ?_ GE235.out) | exact HB.out))) : w.heap.size ≤ gb236)); have n4_ := qV.mk ((by rw [hg]; exact (qF (by repeat (first | (with_reducible first | exact HB.out | apply qA | apply qB | apply qC | refine qD ?_ GE235.out) | exact HB.out))) : w.heap.size ≤ gb236)); have n5_ := qV.mk ((by rw [hg]; exact Nat.ne_of_lt (jR (g := gb235) (o := .cells #[.slice A0_0 l0_0.length c0_0] 39 (0, 0)) (by (with_reducible repeat (first | refine qH ?_ _ | refine qI ?_ | refine qG ?_ _)); exact BK235.out)) : gb235 ≠ gb236)); have n6_ := qV.mk ((by rw [hg]; exact Nat.ne_of_gt (jR (g := gb235) (o := .cells #[.slice A0_0 l0_0.length c0_0] 39 (0, 0)) (by (with_reducible repeat (first | refine qH ?_ _ | refine qI ?_ | refine qG ?_ _)); exact BK235.out)) : gb236 ≠ gb235)); clear BK235 HB; have BK235 := n0_; have HB := n1_; have BK236 := n2_; have GW236 := n3_; have GE236 := n4_; have NB235_236 := n5_; have NB236_235 := n6_; clear n0_ n1_ n2_ n3_ n4_ n5_ n6_; clear hb hbox hg))
 repeat (go_quiet (first | ((with_reducible refine gate_dst (N := 2) rfl ?_); (try (refine gate_guard (by rfl) ?_; dsimp only)); refine qX ?hg (N := 2) ?hd (cs := #[.slice A0_0 l0_0.length c0_0]) (t := 39) ?hr ?_; (case hd => rfl); (case hg => rfl); (case hr => first | (go_simp; done) | (go_simp; rfl)); intro gb235 hg w4 hbox hb; have n0_ := qV.mk (qE (by repeat (first | (with_reducible first | exact HB.out | apply qA | apply qB | apply qC) | exact HB.out)) hb); have n1_ := qV.mk (hbox); have n2_ := qV.mk ((by rw [hg]; exact (qF (by repeat (first | (with_reducible first | exact HB.out | apply qA | apply qB | apply qC) | exact HB.out))) : w.heap.size ≤ gb235)); have n3_ := qV.mk ((by rw [hg]; exact (qF (by repeat (first | (with_reducible first | exact HB.out | apply qA | apply qB | apply qC) | exact HB.out))) : w.heap.size ≤ gb235)); clear HB; have HB := n0_; have BK235 := n1_; have GW235 := n2_; have GE235 := n3_; clear n0_ n1_ n2_ n3_; clear hb hbox hg) | ((with_reducible refine gate_dst (N := 3) rfl ?_); (try (refine gate_guard (by rfl) ?_; dsimp only)); refine qX ?hg (N := 3) ?hd (cs := #[.int .i64 a1_0, .slice A1_1 l1_1.length c1_1, .slice A1_2 l1_2.length c1_2, .int .i64 a1_3]) (t := 66) ?hr ?_; (case hd => rfl); (case hg => rfl); (case hr => first | (go_simp; done) | (go_simp; rfl)); intro gb236 hg w5 hbox hb; have n0_ := qV.mk (qL (g := gb235) (o := .cells #[.slice A0_0 l0_0.length c0_0] 39 (0, 0)) (by (with_reducible repeat (first | refine qH ?_ _ | refine qI ?_ | refine qG ?_ _)); exact BK235.out) hb); have n1_ := qV.mk (qE (by repeat (first | (with_reducible first | exact HB.out | apply qA | apply qB | apply qC | refine qD ?_ GE235.out) | exact HB.out)) hb); have n2_ := qV.mk (hbox); have n3_ := qV.mk ((by rw [hg]; exact (qF (by repeat (first | (with_reducible first | exact HB.out | apply qA | apply qB | apply qC | refine qD ?_ GE235.out) | exact HB.out))) : w.heap.size ≤ gb236)); have n4_ := qV.mk ((by rw [hg]; exact (qF (by repeat (first | (with_reducible first | exact HB.out | apply qA | apply qB | apply qC | refine qD ?_ GE235.out) | exact HB.out))) : w.heap.size ≤ gb236)); have n5_ := qV.mk ((by rw [hg]; exact Nat.ne_of_lt (jR (g := gb235) (o := .cells #[.slice A0_0 l0_0.length c0_0] 39 (0, 0)) (by (with_reducible repeat (first | refine qH ?_ _ | refine qI ?_ | refine qG ?_ _)); exact BK235.out)) : gb235 ≠ gb236)); have n6_ := qV.mk ((by rw [hg]; exact Nat.ne_of_gt (jR (g := gb235) (o := .cells #[.slice A0_0 l0_0.length c0_0] 39 (0, 0)) (by (with_reducible repeat (first | refine qH ?_ _ | refine qI ?_ | refine qG ?_ _)); exact BK235.out)) : gb236 ≠ gb235)); clear BK235 HB; have BK235 := n0_; have HB := n1_; have BK236 := n2_; have GW236 := n3_; have GE236 := n4_; have NB235_236 := n5_; have NB236_235 := n6_; clear n0_ n1_ n2_ n3_ n4_ n5_ n6_; clear hb hbox hg)); go_upto_region 1 with (first | ((with_reducible refine gate_dst (N := 2) rfl ?_); (try (refine gate_guard (by rfl) ?_; dsimp only)); refine qX ?hg (N := 2) ?hd (cs := #[.slice A0_0 l0_0.length c0_0]) (t := 39) ?hr ?_; (case hd => rfl); (case hg => rfl); (case hr => first | (go_simp; done) | (go_simp; rfl)); intro gb235 hg w4 hbox hb; have n0_ := qV.mk (qE (by repeat (first | (with_reducible first | exact HB.out | apply qA | apply qB | apply qC) | exact HB.out)) hb); have n1_ := qV.mk (hbox); have n2_ := qV.mk ((by rw [hg]; exact (qF (by repeat (first | (with_reducible first | exact HB.out | apply qA | apply qB | apply qC) | exact HB.out))) : w.heap.size ≤ gb235)); have n3_ := qV.mk ((by rw [hg]; exact (qF (by repeat (first | (with_reducible first | exact HB.out | apply qA | apply qB | apply qC) | exact HB.out))) : w.heap.size ≤ gb235)); clear HB; have HB := n0_; have BK235 := n1_; have GW235 := n2_; have GE235 := n3_; clear n0_ n1_ n2_ n3_; clear hb hbox hg) | ((with_reducible refine gate_dst (N := 3) rfl ?_); (try (refine gate_guard (by rfl) ?_; dsimp only)); refine qX ?hg (N := 3) ?hd (cs := #[.int .i64 a1_0, .slice A1_1 l1_1.length c1_1, .slice A1_2 l1_2.length c1_2, .int .i64 a1_3]) (t := 66) ?hr ?_; (case hd => rfl); (case hg => rfl); (case hr => first | (go_simp; done) | (go_simp; rfl)); intro gb236 hg w5 hbox hb; have n0_ := qV.mk (qL (g := gb235) (o := .cells #[.slice A0_0 l0_0.length c0_0] 39 (0, 0)) (by (with_reducible repeat (first | refine qH ?_ _ | refine qI ?_ | refine qG ?_ _)); exact BK235.out) hb); have n1_ := qV.mk (qE (by repeat (first | (with_reducible first | exact HB.out | apply qA | apply qB | apply qC | refine qD ?_ GE235.out) | exact HB.out)) hb); have n2_ := qV.mk (hbox); have n3_ := qV.mk ((by rw [hg]; exact (qF (by repeat (first | (with_reducible first | exact HB.out | apply qA | apply qB | apply qC | refine qD ?_ GE235.out) | exact HB.out))) : w.heap.size ≤ gb236)); have n4_ := qV.mk ((by rw [hg]; exact (qF (by repeat (first | (with_reducible first | exact HB.out | apply qA | apply qB | apply qC | refine qD ?_ GE235.out) | exact HB.out))) : w.heap.size ≤ gb236)); have n5_ := qV.mk ((by rw [hg]; exact Nat.ne_of_lt (jR (g := gb235) (o := .cells #[.slice A0_0 l0_0.length c0_0] 39 (0, 0)) (by (with_reducible repeat (first | refine qH ?_ _ | refine qI ?_ | refine qG ?_ _)); exact BK235.out)) : gb235 ≠ gb236)); have n6_ := qV.mk ((by rw [hg]; exact Nat.ne_of_gt (jR (g := gb235) (o := .cells #[.slice A0_0 l0_0.length c0_0] 39 (0, 0)) (by (with_reducible repeat (first | refine qH ?_ _ | refine qI ?_ | refine qG ?_ _)); exact BK235.out)) : gb236 ≠ gb235)); clear BK235 HB; have BK235 := n0_; have HB := n1_; have BK236 := n2_; have GW236 := n3_; have GE236 := n4_; have NB235_236 := n5_; have NB236_235 := n6_; clear n0_ n1_ n2_ n3_ n4_ n5_ n6_; clear hb hbox hg)))
 (try simp only [Act.put, List.setIfInBounds_toArray, List.set_cons_zero, List.set_cons_succ])
 go_cut [23] (fun v23 wc => ∃ (kq : Nat) (x23_2 : Bool), v23 = .bool x23_2 ∧ qV (jG.j0 kq x23_2 l0_0 a1_0 l1_1 l1_2 a1_3 = some r) ∧ qV (kq ≤ k) ∧ qV (wc.heap[gb235]? = some (.cells #[(.slice A0_0 l0_0.length c0_0)] 39 (0, 0))) ∧ qV (wc.heap[gb236]? = some (.cells #[.int .i64 a1_0, (.slice A1_1 l1_1.length c1_1), (.slice A1_2 l1_2.length c1_2), .int .i64 a1_3] 66 (0, 0))) ∧ qV (Below w.heap.size w wc))
 case first =>
  have H := HC3.out
  clear HC3
  by_cases c6 : a1_0 < 0
  ·rw [if_pos c6] at H
   have c6b0 : decide (a1_0 < 0) = true := decide_eq_true c6
   clear c6
   (first | rw [c6b0] | (simp only [i64_w, i32_w]; rw [c6b0]) | skip)
   have H' := qV.mk H
   clear H
   have hnb7 := NB236_235.out
   have hnc7 := NB235_236.out
   have hcz8_0 : w5.cell? ⟨gb236, 0, none⟩ = some (.int .i64 a1_0) := (qJ BK236.out 0).trans rfl
   have hcz8_1 : w5.cell? ⟨gb236, 1, none⟩ = some (.slice A1_1 l1_1.length c1_1) := (qJ BK236.out 1).trans rfl
   have hcz8_2 : w5.cell? ⟨gb236, 2, none⟩ = some (.slice A1_2 l1_2.length c1_2) := (qJ BK236.out 2).trans rfl
   have hcz8_3 : w5.cell? ⟨gb236, 3, none⟩ = some (.int .i64 a1_3) := (qJ BK236.out 3).trans rfl
   have hfz8_0 := qK BK236.out 0
   have hfz8_1 := qK BK236.out 1
   have hfz8_2 := qK BK236.out 2
   have hfz8_3 := qK BK236.out 3
   go_wp2
   repeat (go_quiet (fail); try go_wp2)
   go_meet
   case rel => exact ⟨_, (true), (by first | rfl | (simp; done) | (simp [*]; done)), H', ⟨by first | omega | exact Nat.le_refl _⟩, ⟨by (with_reducible repeat (first | refine qH ?_ _ | refine qI ?_ | refine qG ?_ _)); exact BK235.out⟩, ⟨by (with_reducible repeat (first | refine qH ?_ _ | refine qI ?_ | refine qG ?_ _)); exact BK236.out⟩, ⟨by repeat (first | (with_reducible first | exact HB.out | apply qA | apply qB | apply qC | refine qD ?_ GE235.out | refine qD ?_ GE236.out) | exact HB.out)⟩⟩
  ·rw [if_neg c6] at H
   have c6b0 : decide (a1_0 < 0) = false := decide_eq_false c6
   clear c6
   (first | rw [c6b0] | (simp only [i64_w, i32_w]; rw [c6b0]) | skip)
   by_cases c9 : a1_0 ≥ (l0_0.length : Int)
   ·rw [if_pos c9] at H
    have c9b0 : decide ((l0_0.length : Int) ≤ a1_0) = true := decide_eq_true c9
    clear c9
    have H' := qV.mk H
    clear H
    have hnb10 := NB236_235.out
    have hnc10 := NB235_236.out
    have hcz11_0 : w5.cell? ⟨gb236, 0, none⟩ = some (.int .i64 a1_0) := (qJ BK236.out 0).trans rfl
    have hcz11_1 : w5.cell? ⟨gb236, 1, none⟩ = some (.slice A1_1 l1_1.length c1_1) := (qJ BK236.out 1).trans rfl
    have hcz11_2 : w5.cell? ⟨gb236, 2, none⟩ = some (.slice A1_2 l1_2.length c1_2) := (qJ BK236.out 2).trans rfl
    have hcz11_3 : w5.cell? ⟨gb236, 3, none⟩ = some (.int .i64 a1_3) := (qJ BK236.out 3).trans rfl
    have hfz11_0 := qK BK236.out 0
    have hfz11_1 := qK BK236.out 1
    have hfz11_2 := qK BK236.out 2
    have hfz11_3 := qK BK236.out 3
    have hcz12_0 : w5.cell? ⟨gb235, 0, none⟩ = some (.slice A0_0 l0_0.length c0_0) := (qJ BK235.out 0).trans rfl
    have hfz12_0 := qK BK235.out 0
    go_wp2
    repeat (go_quiet (fail); try go_wp2)
    go_meet
    case rel => exact ⟨_, (true), (by first | rfl | (simp; done) | (simp [*]; done)), H', ⟨by first | omega | exact Nat.le_refl _⟩, ⟨by (with_reducible repeat (first | refine qH ?_ _ | refine qI ?_ | refine qG ?_ _)); exact BK235.out⟩, ⟨by (with_reducible repeat (first | refine qH ?_ _ | refine qI ?_ | refine qG ?_ _)); exact BK236.out⟩, ⟨by repeat (first | (with_reducible first | exact HB.out | apply qA | apply qB | apply qC | refine qD ?_ GE235.out | refine qD ?_ GE236.out) | exact HB.out)⟩⟩
   ·rw [if_neg c9] at H
    have c9b0 : decide ((l0_0.length : Int) ≤ a1_0) = false := decide_eq_false c9
    clear c9
    replace H := Option.bind_eq_some_iff.mp H
    obtain ⟨t237, A130, H⟩ := H
    try dsimp only at H
    have A13 := qV.mk A130
    clear A130
    have H' := qV.mk H
    clear H
    have hnb14 := NB236_235.out
    have hnc14 := NB235_236.out
    have hcz15_0 : w5.cell? ⟨gb236, 0, none⟩ = some (.int .i64 a1_0) := (qJ BK236.out 0).trans rfl
    have hcz15_1 : w5.cell? ⟨gb236, 1, none⟩ = some (.slice A1_1 l1_1.length c1_1) := (qJ BK236.out 1).trans rfl
    have hcz15_2 : w5.cell? ⟨gb236, 2, none⟩ = some (.slice A1_2 l1_2.length c1_2) := (qJ BK236.out 2).trans rfl
    have hcz15_3 : w5.cell? ⟨gb236, 3, none⟩ = some (.int .i64 a1_3) := (qJ BK236.out 3).trans rfl
    have hfz15_0 := qK BK236.out 0
    have hfz15_1 := qK BK236.out 1
    have hfz15_2 := qK BK236.out 2
    have hfz15_3 := qK BK236.out 3
    have hcz16_0 : w5.cell? ⟨gb235, 0, none⟩ = some (.slice A0_0 l0_0.length c0_0) := (qJ BK235.out 0).trans rfl
    have hfz16_0 := qK BK235.out 0
    go_wp2_with (first | (go_at_call 124; (with_reducible refine (zW.calls k _ _ l1_1 _ _ l1_2 a1_3 t237 _ ?side1 ?side2 ?side3 ?side4 A13.out).mono ?_); (case side1 => repeat (first | exact (Kd.zA HR1_1.out HB.out) | (with_reducible refine Kd.qS ?_ _) | (with_reducible refine Kd.qT ?_ _) | (with_reducible refine Kd.qU ?_))); (case side2 => exact HC1_1.out); (case side3 => repeat (first | exact (Kd.zA HR1_2.out HB.out) | (with_reducible refine Kd.qS ?_ _) | (with_reducible refine Kd.qT ?_ _) | (with_reducible refine Kd.qU ?_))); (case side4 => exact HC1_2.out); rintro e w17 ⟨rfl, hb⟩; have n0_ := qV.mk (qL (g := gb235) (o := .cells #[.slice A0_0 l0_0.length c0_0] 39 (0, 0)) (by (with_reducible repeat (first | refine qH ?_ _ | refine qI ?_ | refine qG ?_ _)); exact BK235.out) hb); have n1_ := qV.mk (qL (g := gb236) (o := .cells #[.int .i64 a1_0, .slice A1_1 l1_1.length c1_1, .slice A1_2 l1_2.length c1_2, .int .i64 a1_3] 66 (0, 0)) (by (with_reducible repeat (first | refine qH ?_ _ | refine qI ?_ | refine qG ?_ _)); exact BK236.out) hb); have n2_ := qV.mk (qE (by repeat (first | (with_reducible first | exact HB.out | apply qA | apply qB | apply qC | refine qD ?_ GE235.out | refine qD ?_ GE236.out) | exact HB.out)) hb); clear BK235 BK236 HB; have BK235 := n0_; have BK236 := n1_; have HB := n2_; clear n0_ n1_ n2_; (try clear hb); (try clear hb2); (try clear hk); (try clear hi)))
    repeat (go_quiet (first | (go_at_call 124; (with_reducible refine (zW.calls k _ _ l1_1 _ _ l1_2 a1_3 t237 _ ?side1 ?side2 ?side3 ?side4 A13.out).mono ?_); (case side1 => repeat (first | exact (Kd.zA HR1_1.out HB.out) | (with_reducible refine Kd.qS ?_ _) | (with_reducible refine Kd.qT ?_ _) | (with_reducible refine Kd.qU ?_))); (case side2 => exact HC1_1.out); (case side3 => repeat (first | exact (Kd.zA HR1_2.out HB.out) | (with_reducible refine Kd.qS ?_ _) | (with_reducible refine Kd.qT ?_ _) | (with_reducible refine Kd.qU ?_))); (case side4 => exact HC1_2.out); rintro e w17 ⟨rfl, hb⟩; have n0_ := qV.mk (qL (g := gb235) (o := .cells #[.slice A0_0 l0_0.length c0_0] 39 (0, 0)) (by (with_reducible repeat (first | refine qH ?_ _ | refine qI ?_ | refine qG ?_ _)); exact BK235.out) hb); have n1_ := qV.mk (qL (g := gb236) (o := .cells #[.int .i64 a1_0, .slice A1_1 l1_1.length c1_1, .slice A1_2 l1_2.length c1_2, .int .i64 a1_3] 66 (0, 0)) (by (with_reducible repeat (first | refine qH ?_ _ | refine qI ?_ | refine qG ?_ _)); exact BK236.out) hb); have n2_ := qV.mk (qE (by repeat (first | (with_reducible first | exact HB.out | apply qA | apply qB | apply qC | refine qD ?_ GE235.out | refine qD ?_ GE236.out) | exact HB.out)) hb); clear BK235 BK236 HB; have BK235 := n0_; have BK236 := n1_; have HB := n2_; clear n0_ n1_ n2_; (try clear hb); (try clear hb2); (try clear hk); (try clear hi))); try go_wp2_with (first | (go_at_call 124; (with_reducible refine (zW.calls k _ _ l1_1 _ _ l1_2 a1_3 t237 _ ?side1 ?side2 ?side3 ?side4 A13.out).mono ?_); (case side1 => repeat (first | exact (Kd.zA HR1_1.out HB.out) | (with_reducible refine Kd.qS ?_ _) | (with_reducible refine Kd.qT ?_ _) | (with_reducible refine Kd.qU ?_))); (case side2 => exact HC1_1.out); (case side3 => repeat (first | exact (Kd.zA HR1_2.out HB.out) | (with_reducible refine Kd.qS ?_ _) | (with_reducible refine Kd.qT ?_ _) | (with_reducible refine Kd.qU ?_))); (case side4 => exact HC1_2.out); rintro e w17 ⟨rfl, hb⟩; have n0_ := qV.mk (qL (g := gb235) (o := .cells #[.slice A0_0 l0_0.length c0_0] 39 (0, 0)) (by (with_reducible repeat (first | refine qH ?_ _ | refine qI ?_ | refine qG ?_ _)); exact BK235.out) hb); have n1_ := qV.mk (qL (g := gb236) (o := .cells #[.int .i64 a1_0, .slice A1_1 l1_1.length c1_1, .slice A1_2 l1_2.length c1_2, .int .i64 a1_3] 66 (0, 0)) (by (with_reducible repeat (first | refine qH ?_ _ | refine qI ?_ | refine qG ?_ _)); exact BK236.out) hb); have n2_ := qV.mk (qE (by repeat (first | (with_reducible first | exact HB.out | apply qA | apply qB | apply qC | refine qD ?_ GE235.out | refine qD ?_ GE236.out) | exact HB.out)) hb); clear BK235 BK236 HB; have BK235 := n0_; have BK236 := n1_; have HB := n2_; clear n0_ n1_ n2_; (try clear hb); (try clear hb2); (try clear hk); (try clear hi))))
    go_meet
    case rel => exact ⟨_, (!t237), (by first | rfl | (simp; done) | (simp [*]; done)), H', ⟨by first | omega | exact Nat.le_refl _⟩, ⟨by (with_reducible repeat (first | refine qH ?_ _ | refine qI ?_ | refine qG ?_ _)); exact BK235.out⟩, ⟨by (with_reducible repeat (first | refine qH ?_ _ | refine qI ?_ | refine qG ?_ _)); exact BK236.out⟩, ⟨by repeat (first | (with_reducible first | exact HB.out | apply qA | apply qB | apply qC | refine qD ?_ GE235.out | refine qD ?_ GE236.out) | exact HB.out)⟩⟩
 case rest =>
  clear HC3
  try clear c1
  try clear p2
  try clear c6
  try clear c6b0
  try clear c7
  try clear c9
  try clear c9b0
  try clear c10
  try clear c14
  try clear hcz11_0
  try clear hcz11_1
  try clear hcz11_2
  try clear hcz11_3
  try clear hcz12_0
  try clear hcz15_0
  try clear hcz15_1
  try clear hcz15_2
  try clear hcz15_3
  try clear hcz16_0
  try clear hcz8_0
  try clear hcz8_1
  try clear hcz8_2
  try clear hcz8_3
  try clear hfz11_0
  try clear hfz11_1
  try clear hfz11_2
  try clear hfz11_3
  try clear hfz12_0
  try clear hfz15_0
  try clear hfz15_1
  try clear hfz15_2
  try clear hfz15_3
  try clear hfz16_0
  try clear hfz8_0
  try clear hfz8_1
  try clear hfz8_2
  try clear hfz8_3
  obtain ⟨kq, x23_2, rfl, HA, HJ2, BK235, BK236, HB⟩ := hcut
  cases kq with
  | zero => exact absurd HA.out (by simp [jG.j0])
  | succ kj2 =>
   have H := HA.out
   clear HA
   simp only [jG.j0] at H
   by_cases c18 : x23_2 = true
   ·subst c18
    rw [if_pos rfl] at H
    obtain rfl := Option.some.inj H
    go_wp2
    repeat (go_quiet (fail); try go_wp2)
    go_ret
    exact ⟨by first | rfl | (simp [zS, zR] <;> rfl) | (simp [*, zS, zR] <;> rfl), by repeat (first | (with_reducible first | exact HB.out | apply qA | apply qB | apply qC | refine qD ?_ GE235.out | refine qD ?_ GE236.out) | exact HB.out)⟩
   ·replace c18 := Bool.eq_false_iff.mpr c18
    subst c18
    rw [if_neg (show ¬ (false = true) by decide)] at H
    replace H := Option.bind_eq_some_iff.mp H
    obtain ⟨t238, A190, H⟩ := H
    try dsimp only at H
    have A19 := qV.mk A190
    clear A190
    have H' := qV.mk H
    clear H
    have hnb20 := NB236_235.out
    have hnc20 := NB235_236.out
    have hcz21_0 : wc.cell? ⟨gb236, 0, none⟩ = some (.int .i64 a1_0) := (qJ BK236.out 0).trans rfl
    have hcz21_1 : wc.cell? ⟨gb236, 1, none⟩ = some (.slice A1_1 l1_1.length c1_1) := (qJ BK236.out 1).trans rfl
    have hcz21_2 : wc.cell? ⟨gb236, 2, none⟩ = some (.slice A1_2 l1_2.length c1_2) := (qJ BK236.out 2).trans rfl
    have hcz21_3 : wc.cell? ⟨gb236, 3, none⟩ = some (.int .i64 a1_3) := (qJ BK236.out 3).trans rfl
    have hfz21_0 := qK BK236.out 0
    have hfz21_1 := qK BK236.out 1
    have hfz21_2 := qK BK236.out 2
    have hfz21_3 := qK BK236.out 3
    go_wp2_with (first | (go_at_call 125; (with_reducible refine (spec_l2Offsets.calls kj2 _ _ l1_1 _ _ l1_2 a1_3 t238 _ ?side1 ?side2 ?side3 ?side4 A19.out).mono ?_); (case side1 => repeat (first | exact (Kd.zA HR1_1.out HB.out) | (with_reducible refine Kd.qS ?_ _) | (with_reducible refine Kd.qT ?_ _) | (with_reducible refine Kd.qU ?_))); (case side2 => exact HC1_1.out); (case side3 => repeat (first | exact (Kd.zA HR1_2.out HB.out) | (with_reducible refine Kd.qS ?_ _) | (with_reducible refine Kd.qT ?_ _) | (with_reducible refine Kd.qU ?_))); (case side4 => exact HC1_2.out); rintro e w22 ⟨v239, rfl, ho0, hb⟩; have n0_ := qV.mk (Kd.R_lower ho0 (qF (by repeat (first | (with_reducible first | exact HB.out | apply qA | apply qB | apply qC | refine qD ?_ GE235.out | refine qD ?_ GE236.out) | exact HB.out)))); have n1_ := qV.mk (qL (g := gb235) (o := .cells #[.slice A0_0 l0_0.length c0_0] 39 (0, 0)) (by (with_reducible repeat (first | refine qH ?_ _ | refine qI ?_ | refine qG ?_ _)); exact BK235.out) hb); have n2_ := qV.mk (qL (g := gb236) (o := .cells #[.int .i64 a1_0, .slice A1_1 l1_1.length c1_1, .slice A1_2 l1_2.length c1_2, .int .i64 a1_3] 66 (0, 0)) (by (with_reducible repeat (first | refine qH ?_ _ | refine qI ?_ | refine qG ?_ _)); exact BK236.out) hb); have n3_ := qV.mk (qE (by repeat (first | (with_reducible first | exact HB.out | apply qA | apply qB | apply qC | refine qD ?_ GE235.out | refine qD ?_ GE236.out) | exact HB.out)) hb); clear BK235 BK236 HB; have HO240 := n0_; have BK235 := n1_; have BK236 := n2_; have HB := n3_; clear n0_ n1_ n2_ n3_; (try clear hb); (try clear hb2); (try clear hk); (try clear hi); (try clear ho0)))
    repeat (go_quiet (first | (go_at_call 125; (with_reducible refine (spec_l2Offsets.calls kj2 _ _ l1_1 _ _ l1_2 a1_3 t238 _ ?side1 ?side2 ?side3 ?side4 A19.out).mono ?_); (case side1 => repeat (first | exact (Kd.zA HR1_1.out HB.out) | (with_reducible refine Kd.qS ?_ _) | (with_reducible refine Kd.qT ?_ _) | (with_reducible refine Kd.qU ?_))); (case side2 => exact HC1_1.out); (case side3 => repeat (first | exact (Kd.zA HR1_2.out HB.out) | (with_reducible refine Kd.qS ?_ _) | (with_reducible refine Kd.qT ?_ _) | (with_reducible refine Kd.qU ?_))); (case side4 => exact HC1_2.out); rintro e w22 ⟨v239, rfl, ho0, hb⟩; have n0_ := qV.mk (Kd.R_lower ho0 (qF (by repeat (first | (with_reducible first | exact HB.out | apply qA | apply qB | apply qC | refine qD ?_ GE235.out | refine qD ?_ GE236.out) | exact HB.out)))); have n1_ := qV.mk (qL (g := gb235) (o := .cells #[.slice A0_0 l0_0.length c0_0] 39 (0, 0)) (by (with_reducible repeat (first | refine qH ?_ _ | refine qI ?_ | refine qG ?_ _)); exact BK235.out) hb); have n2_ := qV.mk (qL (g := gb236) (o := .cells #[.int .i64 a1_0, .slice A1_1 l1_1.length c1_1, .slice A1_2 l1_2.length c1_2, .int .i64 a1_3] 66 (0, 0)) (by (with_reducible repeat (first | refine qH ?_ _ | refine qI ?_ | refine qG ?_ _)); exact BK236.out) hb); have n3_ := qV.mk (qE (by repeat (first | (with_reducible first | exact HB.out | apply qA | apply qB | apply qC | refine qD ?_ GE235.out | refine qD ?_ GE236.out) | exact HB.out)) hb); clear BK235 BK236 HB; have HO240 := n0_; have BK235 := n1_; have BK236 := n2_; have HB := n3_; clear n0_ n1_ n2_ n3_; (try clear hb); (try clear hb2); (try clear hk); (try clear hi); (try clear ho0))); try go_wp2_with (first | (go_at_call 125; (with_reducible refine (spec_l2Offsets.calls kj2 _ _ l1_1 _ _ l1_2 a1_3 t238 _ ?side1 ?side2 ?side3 ?side4 A19.out).mono ?_); (case side1 => repeat (first | exact (Kd.zA HR1_1.out HB.out) | (with_reducible refine Kd.qS ?_ _) | (with_reducible refine Kd.qT ?_ _) | (with_reducible refine Kd.qU ?_))); (case side2 => exact HC1_1.out); (case side3 => repeat (first | exact (Kd.zA HR1_2.out HB.out) | (with_reducible refine Kd.qS ?_ _) | (with_reducible refine Kd.qT ?_ _) | (with_reducible refine Kd.qU ?_))); (case side4 => exact HC1_2.out); rintro e w22 ⟨v239, rfl, ho0, hb⟩; have n0_ := qV.mk (Kd.R_lower ho0 (qF (by repeat (first | (with_reducible first | exact HB.out | apply qA | apply qB | apply qC | refine qD ?_ GE235.out | refine qD ?_ GE236.out) | exact HB.out)))); have n1_ := qV.mk (qL (g := gb235) (o := .cells #[.slice A0_0 l0_0.length c0_0] 39 (0, 0)) (by (with_reducible repeat (first | refine qH ?_ _ | refine qI ?_ | refine qG ?_ _)); exact BK235.out) hb); have n2_ := qV.mk (qL (g := gb236) (o := .cells #[.int .i64 a1_0, .slice A1_1 l1_1.length c1_1, .slice A1_2 l1_2.length c1_2, .int .i64 a1_3] 66 (0, 0)) (by (with_reducible repeat (first | refine qH ?_ _ | refine qI ?_ | refine qG ?_ _)); exact BK236.out) hb); have n3_ := qV.mk (qE (by repeat (first | (with_reducible first | exact HB.out | apply qA | apply qB | apply qC | refine qD ?_ GE235.out | refine qD ?_ GE236.out) | exact HB.out)) hb); clear BK235 BK236 HB; have HO240 := n0_; have BK235 := n1_; have BK236 := n2_; have HB := n3_; clear n0_ n1_ n2_ n3_; (try clear hb); (try clear hb2); (try clear hk); (try clear hi); (try clear ho0))))
    go_loopg [6] kj2 (fun kq v6 w' => ∃ (x6_2 : Int), v6 = .int .i64 x6_2 ∧ qV (jG.l0 kq t238 x6_2 l0_0 a1_0 l1_1 l1_2 a1_3 = some r) ∧ qV (kq ≤ kj2) ∧ qV (Kd.R (Kd.int .i64) 2 w' w.heap.size (fun _ => True) v239 t238) ∧ qV (w'.heap[gb235]? = some (.cells #[(.slice A0_0 l0_0.length c0_0)] 39 (0, 0))) ∧ qV (w'.heap[gb236]? = some (.cells #[.int .i64 a1_0, (.slice A1_1 l1_1.length c1_1), (.slice A1_2 l1_2.length c1_2), .int .i64 a1_3] 66 (0, 0))) ∧ qV (Below w.heap.size w w'))
    case atStart => exact ⟨(0), (by first | rfl | (simp; done) | (simp [*]; done)), H', ⟨Nat.le_refl _⟩, ⟨by (with_reducible repeat (first | apply Kd.qM | apply Kd.qN | apply Kd.qO)); exact HO240.out⟩, ⟨by (with_reducible repeat (first | refine qH ?_ _ | refine qI ?_ | refine qG ?_ _)); exact BK235.out⟩, ⟨by (with_reducible repeat (first | refine qH ?_ _ | refine qI ?_ | refine qG ?_ _)); exact BK236.out⟩, ⟨by repeat (first | (with_reducible first | exact HB.out | apply qA | apply qB | apply qC | refine qD ?_ GE235.out | refine qD ?_ GE236.out) | exact HB.out)⟩⟩
    case round =>
     clear H'
     try clear c1
     try clear c2
     try clear p2
     try clear c6
     try clear c6b0
     try clear c7
     try clear c9
     try clear c9b0
     try clear c10
     try clear c14
     try clear c18
     try clear c20
     try clear hcz11_0
     try clear hcz11_1
     try clear hcz11_2
     try clear hcz11_3
     try clear hcz12_0
     try clear hcz15_0
     try clear hcz15_1
     try clear hcz15_2
     try clear hcz15_3
     try clear hcz16_0
     try clear hcz21_0
     try clear hcz21_1
     try clear hcz21_2
     try clear hcz21_3
     try clear hcz8_0
     try clear hcz8_1
     try clear hcz8_2
     try clear hcz8_3
     try clear hfz11_0
     try clear hfz11_1
     try clear hfz11_2
     try clear hfz11_3
     try clear hfz12_0
     try clear hfz15_0
     try clear hfz15_1
     try clear hfz15_2
     try clear hfz15_3
     try clear hfz16_0
     try clear hfz21_0
     try clear hfz21_1
     try clear hfz21_2
     try clear hfz21_3
     try clear hfz8_0
     try clear hfz8_1
     try clear hfz8_2
     try clear hfz8_3
     try clear p2
     obtain ⟨x6_2, rfl, HA, HK2, HO_5, BK235, BK236, HB⟩ := hrel
     cases gk with
     | zero => exact absurd HA.out (by simp [jG.l0])
     | succ k2 =>
      have H := HA.out
      clear HA
      simp only [jG.l0] at H
      by_cases c23 : x6_2 < (t238.length : Int)
      ·rw [if_pos c23] at H
       have c23b0 : decide (x6_2 < (t238.length : Int)) = true := decide_eq_true c23
       clear c23
       by_cases c24 : 0 ≤ x6_2
       ·rw [if_pos c24] at H
        have c24b0 : decide (0 ≤ x6_2) = true := decide_eq_true c24
        clear c24
        by_cases c25 : 0 ≤ a1_0
        ·rw [if_pos c25] at H
         have c25b0 : decide (0 ≤ a1_0) = true := decide_eq_true c25
         clear c25
         by_cases c26 : a1_0 < (l0_0.length : Int)
         ·rw [if_pos c26] at H
          have c26b0 : decide (a1_0 < (l0_0.length : Int)) = true := decide_eq_true c26
          clear c26
          by_cases c27 : (rd t238 x6_2) ≥ (((zT l0_0 a1_0).f1).length : Int)
          ·rw [if_pos c27] at H
           have c27b0 : decide ((((zT l0_0 a1_0).f1).length : Int) ≤ (rd t238 x6_2)) = true := decide_eq_true c27
           clear c27
           obtain rfl := Option.some.inj H
           obtain ⟨Ao28, co28, eo28⟩ := Kd.zB HO_5.out
           subst eo28
           have p241 : 0 ≤ (x6_2 : Int) := of_decide_eq_true (by assumption)
           have q241 : x6_2 < (t238.length : Int) := of_decide_eq_true (by assumption)
           obtain ⟨ad241, e241, hx241_0⟩ := Kd.at_int (Kd.zC HO_5.out).2.2 x6_2 p241 q241
           cases e241
           replace p241 := eq_true p241
           replace q241 := eq_true q241
           have hnb29 := NB235_236.out
           have hnc29 := NB236_235.out
           have hcz30_0 : wr.cell? ⟨gb235, 0, none⟩ = some (.slice A0_0 l0_0.length c0_0) := (qJ BK235.out 0).trans rfl
           have hfz30_0 := qK BK235.out 0
           have hcz31_0 : wr.cell? ⟨gb236, 0, none⟩ = some (.int .i64 a1_0) := (qJ BK236.out 0).trans rfl
           have hcz31_1 : wr.cell? ⟨gb236, 1, none⟩ = some (.slice A1_1 l1_1.length c1_1) := (qJ BK236.out 1).trans rfl
           have hcz31_2 : wr.cell? ⟨gb236, 2, none⟩ = some (.slice A1_2 l1_2.length c1_2) := (qJ BK236.out 2).trans rfl
           have hcz31_3 : wr.cell? ⟨gb236, 3, none⟩ = some (.int .i64 a1_3) := (qJ BK236.out 3).trans rfl
           have hfz31_0 := qK BK236.out 0
           have hfz31_1 := qK BK236.out 1
           have hfz31_2 := qK BK236.out 2
           have hfz31_3 := qK BK236.out 3
           have p242 : 0 ≤ (a1_0 : Int) := of_decide_eq_true (by assumption)
           have q242 : a1_0 < (l0_0.length : Int) := of_decide_eq_true (by assumption)
           obtain ⟨ad242, A242_1, c242_1, e242, hx242_0, hx242_1, hl242_1, hi242_1⟩ := at_T85 HR0_0.out a1_0 p242 q242
           cases e242
           replace hx242_0 := (HB.out.cell (World.block_lt_of_cell? w _ hx242_0)).trans hx242_0
           replace hx242_1 := (HB.out.cell (World.block_lt_of_cell? w _ hx242_1)).trans hx242_1
           have HR242_1 := qV.mk hi242_1
           have HC242_1 := qV.mk hl242_1
           clear hi242_1 hl242_1
           replace p242 := eq_true p242
           replace q242 := eq_true q242
           go_wp2
           repeat (go_quiet (fail); try go_wp2)
           go_ret
           exact ⟨by first | rfl | (simp [zS, zR] <;> rfl) | (simp [*, zS, zR] <;> rfl), by repeat (first | (with_reducible first | exact HB.out | apply qA | apply qB | apply qC | refine qD ?_ GE235.out | refine qD ?_ GE236.out) | exact HB.out)⟩
          ·rw [if_neg c27] at H
           have c27b0 : decide ((((zT l0_0 a1_0).f1).length : Int) ≤ (rd t238 x6_2)) = false := decide_eq_false c27
           clear c27
           have H' := qV.mk H
           clear H
           obtain ⟨Ao32, co32, eo32⟩ := Kd.zB HO_5.out
           subst eo32
           have p241 : 0 ≤ (x6_2 : Int) := of_decide_eq_true (by assumption)
           have q241 : x6_2 < (t238.length : Int) := of_decide_eq_true (by assumption)
           obtain ⟨ad241, e241, hx241_0⟩ := Kd.at_int (Kd.zC HO_5.out).2.2 x6_2 p241 q241
           cases e241
           replace p241 := eq_true p241
           replace q241 := eq_true q241
           have hnb33 := NB235_236.out
           have hnc33 := NB236_235.out
           have hcz34_0 : wr.cell? ⟨gb235, 0, none⟩ = some (.slice A0_0 l0_0.length c0_0) := (qJ BK235.out 0).trans rfl
           have hfz34_0 := qK BK235.out 0
           have hcz35_0 : wr.cell? ⟨gb236, 0, none⟩ = some (.int .i64 a1_0) := (qJ BK236.out 0).trans rfl
           have hcz35_1 : wr.cell? ⟨gb236, 1, none⟩ = some (.slice A1_1 l1_1.length c1_1) := (qJ BK236.out 1).trans rfl
           have hcz35_2 : wr.cell? ⟨gb236, 2, none⟩ = some (.slice A1_2 l1_2.length c1_2) := (qJ BK236.out 2).trans rfl
           have hcz35_3 : wr.cell? ⟨gb236, 3, none⟩ = some (.int .i64 a1_3) := (qJ BK236.out 3).trans rfl
           have hfz35_0 := qK BK236.out 0
           have hfz35_1 := qK BK236.out 1
           have hfz35_2 := qK BK236.out 2
           have hfz35_3 := qK BK236.out 3
           have p242 : 0 ≤ (a1_0 : Int) := of_decide_eq_true (by assumption)
           have q242 : a1_0 < (l0_0.length : Int) := of_decide_eq_true (by assumption)
           obtain ⟨ad242, A242_1, c242_1, e242, hx242_0, hx242_1, hl242_1, hi242_1⟩ := at_T85 HR0_0.out a1_0 p242 q242
           cases e242
           replace hx242_0 := (HB.out.cell (World.block_lt_of_cell? w _ hx242_0)).trans hx242_0
           replace hx242_1 := (HB.out.cell (World.block_lt_of_cell? w _ hx242_1)).trans hx242_1
           have HR242_1 := qV.mk hi242_1
           have HC242_1 := qV.mk hl242_1
           clear hi242_1 hl242_1
           replace p242 := eq_true p242
           replace q242 := eq_true q242
           go_wp2
           repeat (go_quiet (fail); try go_wp2)
           go_roundg k2
           case measure => have := HJ2.out; have := HK2.out; omega
           case rel => exact ⟨(wrap64 (x6_2 + 1)), (by first | rfl | (simp; done) | (simp [*]; done)), H', ⟨by have := HJ2.out; have := HK2.out; omega⟩, ⟨by (with_reducible repeat (first | apply Kd.qM | apply Kd.qN | apply Kd.qO)); exact HO_5.out⟩, ⟨by (with_reducible repeat (first | refine qH ?_ _ | refine qI ?_ | refine qG ?_ _)); exact BK235.out⟩, ⟨by (with_reducible repeat (first | refine qH ?_ _ | refine qI ?_ | refine qG ?_ _)); exact BK236.out⟩, ⟨by repeat (first | (with_reducible first | exact HB.out | apply qA | apply qB | apply qC | refine qD ?_ GE235.out | refine qD ?_ GE236.out) | exact HB.out)⟩⟩
         ·rw [if_neg c26] at H
          exact absurd H (by simp)
        ·rw [if_neg c25] at H
         exact absurd H (by simp)
       ·rw [if_neg c24] at H
        exact absurd H (by simp)
      ·rw [if_neg c23] at H
       have c23b0 : decide (x6_2 < (t238.length : Int)) = false := decide_eq_false c23
       clear c23
       obtain rfl := Option.some.inj H
       obtain ⟨Ao36, co36, eo36⟩ := Kd.zB HO_5.out
       subst eo36
       go_wp2
       repeat (go_quiet (fail); try go_wp2)
       go_ret
       exact ⟨by first | rfl | (simp [zS, zR] <;> rfl) | (simp [*, zS, zR] <;> rfl), by repeat (first | (with_reducible first | exact HB.out | apply qA | apply qB | apply qC | refine qD ?_ GE235.out | refine qD ?_ GE236.out) | exact HB.out)⟩

def spec_ValidArray.f (k : Nat) (l0_0 : List (S85)) (a1_0 : Int) (l1_1 : List Int) (l1_2 : List Int) (a1_3 : Int) : Option (Bool) := (zV.f k l0_0).bind fun t245 => (if t245 = true then ((jG.f k l0_0 a1_0 l1_1 l1_2 a1_3).bind fun t246 => (some t246)) else (some false))
theorem spec_ValidArray.mono : ∀ a0 a1 a2 a3 a4 k, LeO (spec_ValidArray.f k a0 a1 a2 a3 a4) (spec_ValidArray.f (k + 1) a0 a1 a2 a3 a4) := by
 intro a0 a1 a2 a3 a4 k
 unfold spec_ValidArray.f
 repeat' first
   | (with_reducible exact zV.mono _ _)
   | (with_reducible exact jG.mono _ _ _ _ _ _)
   | (with_reducible exact LeO.refl _)
   | (with_reducible exact LeO.none _)
   | (with_reducible refine LeO.ite ?_ ?_)
   | (with_reducible refine LeO.bind ?_ (fun _ => ?_))
   | exact zV.mono _ _
   | exact jG.mono _ _ _ _ _ _
   | exact LeO.none _
   | refine LeO.ite ?_ ?_
   | refine LeO.bind ?_ (fun _ => ?_)
set_option maxHeartbeats 8000000 in
set_option maxRecDepth 100000 in
theorem spec_ValidArray.calls (k : Nat) (A0_0 : Option Addr) (c0_0 : Nat) (l0_0 : List (S85)) (a1_0 : Int) (A1_1 : Option Addr) (c1_1 : Nat) (l1_1 : List Int) (A1_2 : Option Addr) (c1_2 : Nat) (l1_2 : List Int) (a1_3 : Int) (r : Bool) (w : World) (hr0_0 : Kd.C k85 w A0_0 l0_0.length l0_0) (hc0_0 : l0_0.length ≤ c0_0) (hr1_1 : Kd.C (Kd.int .i64) w A1_1 l1_1.length l1_1) (hc1_1 : l1_1.length ≤ c1_1) (hr1_2 : Kd.C (Kd.int .i64) w A1_2 l1_2.length l1_2) (hc1_2 : l1_2.length ≤ c1_2) (h : spec_ValidArray.f k l0_0 a1_0 l1_1 l1_2 a1_3 = some r) :
  Calls Tryd.prog 36 #[.agg #[.slice A0_0 l0_0.length c0_0], .agg #[.int .i64 a1_0, .slice A1_1 l1_1.length c1_1, .slice A1_2 l1_2.length c1_2, .int .i64 a1_3]] w fun e w' => e = .returned (.bool r) ∧ Below w.heap.size w w' := by
 have hu39 := Tryd.underlying39
 have hu66 := Tryd.underlying66
 have HR0_0 := qV.mk hr0_0
 have HC0_0 := qV.mk hc0_0
 clear hr0_0 hc0_0
 have HR1_1 := qV.mk hr1_1
 have HC1_1 := qV.mk hc1_1
 clear hr1_1 hc1_1
 have HR1_2 := qV.mk hr1_2
 have HC1_2 := qV.mk hc1_2
 clear hr1_2 hc1_2
 have HB := qV.mk (Below.refl w.heap.size w)
 have H : ((zV.f k l0_0).bind fun t245 => (if t245 = true then ((jG.f k l0_0 a1_0 l1_1 l1_2 a1_3).bind fun t246 => (some t246)) else (some false))) = some r := h
 clear h
 replace H := Option.bind_eq_some_iff.mp H
 obtain ⟨t245, A30, H⟩ := H
 try dsimp only at H
 have A3 := qV.mk A30
 clear A30
 by_cases c4 : t245 = true
 ·subst c4
  rw [if_pos rfl] at H
  replace H := Option.bind_eq_some_iff.mp H
  obtain ⟨t246, A50, H⟩ := H
  try dsimp only at H
  have A5 := qV.mk A50
  clear A50
  obtain rfl := Option.some.inj H
  go_enter Tryd.func36, Tryd.ntmps36
  go_wp2_with (first | ((with_reducible refine gate_dst (N := 2) rfl ?_); refine qX ?hg (N := 2) ?hd (cs := #[.slice A0_0 l0_0.length c0_0]) (t := 39) ?hr ?_; (case hd => rfl); (case hg => rfl); (case hr => first | (go_simp; done) | (go_simp; rfl)); intro gb243 hg w6 hbox hb; have n0_ := qV.mk (qE (by repeat (first | (with_reducible first | exact HB.out | apply qA | apply qB | apply qC) | exact HB.out)) hb); have n1_ := qV.mk (hbox); have n2_ := qV.mk ((by rw [hg]; exact (qF (by repeat (first | (with_reducible first | exact HB.out | apply qA | apply qB | apply qC) | exact HB.out))) : w.heap.size ≤ gb243)); have n3_ := qV.mk ((by rw [hg]; exact (qF (by repeat (first | (with_reducible first | exact HB.out | apply qA | apply qB | apply qC) | exact HB.out))) : w.heap.size ≤ gb243)); clear HB; have HB := n0_; have BK243 := n1_; have GW243 := n2_; have GE243 := n3_; clear n0_ n1_ n2_ n3_; clear hb hbox hg) | ((with_reducible refine gate_dst (N := 3) rfl ?_); refine qX ?hg (N := 3) ?hd (cs := #[.int .i64 a1_0, .slice A1_1 l1_1.length c1_1, .slice A1_2 l1_2.length c1_2, .int .i64 a1_3]) (t := 66) ?hr ?_; (case hd => rfl); (case hg => rfl); (case hr => first | (go_simp; done) | (go_simp; rfl)); intro gb244 hg w7 hbox hb; have n0_ := qV.mk (qL (g := gb243) (o := .cells #[.slice A0_0 l0_0.length c0_0] 39 (0, 0)) (by (with_reducible repeat (first | refine qH ?_ _ | refine qI ?_ | refine qG ?_ _)); exact BK243.out) hb); have n1_ := qV.mk (qE (by repeat (first | (with_reducible first | exact HB.out | apply qA | apply qB | apply qC | refine qD ?_ GE243.out) | exact HB.out)) hb); have n2_ := qV.mk (hbox); have n3_ := qV.mk ((by rw [hg]; exact (qF (by repeat (first | (with_reducible first | exact HB.out | apply qA | apply qB | apply qC | refine qD ?_ GE243.out) | exact HB.out))) : w.heap.size ≤ gb244)); have n4_ := qV.mk ((by rw [hg]; exact (qF (by repeat (first | (with_reducible first | exact HB.out | apply qA | apply qB | apply qC | refine qD ?_ GE243.out) | exact HB.out))) : w.heap.size ≤ gb244)); have n5_ := qV.mk ((by rw [hg]; exact Nat.ne_of_lt (jR (g := gb243) (o := .cells #[.slice A0_0 l0_0.length c0_0] 39 (0, 0)) (by (with_reducible repeat (first | refine qH ?_ _ | refine qI ?_ | refine qG ?_ _)); exact BK243.out)) : gb243 ≠ gb244)); have n6_ := qV.mk ((by rw [hg]; exact Nat.ne_of_gt (jR (g := gb243) (o := .cells #[.slice A0_0 l0_0.length c0_0] 39 (0, 0)) (by (with_reducible repeat (first | refine qH ?_ _ | refine qI ?_ | refine qG ?_ _)); exact BK243.out)) : gb244 ≠ gb243)); clear BK243 HB; have BK243 := n0_; have HB := n1_; have BK244 := n2_; have GW244 := n3_; have GE244 := n4_; have NB243_244 := n5_; have NB244_243 := n6_; clear n0_ n1_ n2_ n3_ n4_ n5_ n6_ hb hbox hg; have hnb8 := NB243_244.out; have hnc8 := NB244_243.out; have hcz9_0 : w7.cell? ⟨gb243, 0, none⟩ = some (.slice A0_0 l0_0.length c0_0) := (qJ BK243.out 0).trans rfl; have hfz9_0 := qK BK243.out 0) | ((with_reducible refine gate_callee (f := 23) rfl ?_); refine qW (some 6) rfl rfl Tryd.func23 (by kernel_rfl) rfl #[.agg #[.slice A0_0 l0_0.length c0_0]] rfl (by (try simp only [List.map_toArray, List.map_cons, List.map_nil]); first | done | rfl) ?_; (with_reducible refine (zV.calls k _ _ l0_0 true _ ?side1 ?side2 A3.out).mono ?_); (case side1 => repeat (first | exact (Kd.zA HR0_0.out HB.out) | (with_reducible refine Kd.qS ?_ _) | (with_reducible refine Kd.qT ?_ _) | (with_reducible refine Kd.qU ?_))); (case side2 => exact HC0_0.out); rintro e w10 ⟨rfl, hb⟩; refine ⟨_, rfl, ?_⟩; have n0_ := qV.mk (qL (g := gb243) (o := .cells #[.slice A0_0 l0_0.length c0_0] 39 (0, 0)) (by (with_reducible repeat (first | refine qH ?_ _ | refine qI ?_ | refine qG ?_ _)); exact BK243.out) hb); have n1_ := qV.mk (qL (g := gb244) (o := .cells #[.int .i64 a1_0, .slice A1_1 l1_1.length c1_1, .slice A1_2 l1_2.length c1_2, .int .i64 a1_3] 66 (0, 0)) (by (with_reducible repeat (first | refine qH ?_ _ | refine qI ?_ | refine qG ?_ _)); exact BK244.out) hb); have n2_ := qV.mk (qE (by repeat (first | (with_reducible first | exact HB.out | apply qA | apply qB | apply qC | refine qD ?_ GE243.out | refine qD ?_ GE244.out) | exact HB.out)) hb); clear BK243 BK244 HB; have BK243 := n0_; have BK244 := n1_; have HB := n2_; clear n0_ n1_ n2_; (try clear hb); (try clear hb2); (try clear hk); (try clear hi); have hcz11_0 : w10.cell? ⟨gb243, 0, none⟩ = some (.slice A0_0 l0_0.length c0_0) := (qJ BK243.out 0).trans rfl; have hfz11_0 := qK BK243.out 0; have hcz12_0 : w10.cell? ⟨gb244, 0, none⟩ = some (.int .i64 a1_0) := (qJ BK244.out 0).trans rfl; have hcz12_1 : w10.cell? ⟨gb244, 1, none⟩ = some (.slice A1_1 l1_1.length c1_1) := (qJ BK244.out 1).trans rfl; have hcz12_2 : w10.cell? ⟨gb244, 2, none⟩ = some (.slice A1_2 l1_2.length c1_2) := (qJ BK244.out 2).trans rfl; have hcz12_3 : w10.cell? ⟨gb244, 3, none⟩ = some (.int .i64 a1_3) := (qJ BK244.out 3).trans rfl; have hfz12_0 := qK BK244.out 0; have hfz12_1 := qK BK244.out 1; have hfz12_2 := qK BK244.out 2; have hfz12_3 := qK BK244.out 3) | (go_at_call 103; (with_reducible refine (jG.calls k _ _ l0_0 a1_0 _ _ l1_1 _ _ l1_2 a1_3 t246 _ ?side1 ?side2 ?side3 ?side4 ?side5 ?side6 A5.out).mono ?_); (case side1 => repeat (first | exact (Kd.zA HR0_0.out HB.out) | (with_reducible refine Kd.qS ?_ _) | (with_reducible refine Kd.qT ?_ _) | (with_reducible refine Kd.qU ?_))); (case side2 => exact HC0_0.out); (case side3 => repeat (first | exact (Kd.zA HR1_1.out HB.out) | (with_reducible refine Kd.qS ?_ _) | (with_reducible refine Kd.qT ?_ _) | (with_reducible refine Kd.qU ?_))); (case side4 => exact HC1_1.out); (case side5 => repeat (first | exact (Kd.zA HR1_2.out HB.out) | (with_reducible refine Kd.qS ?_ _) | (with_reducible refine Kd.qT ?_ _) | (with_reducible refine Kd.qU ?_))); (case side6 => exact HC1_2.out); rintro e w13 ⟨rfl, hb⟩; have n0_ := qV.mk (qL (g := gb243) (o := .cells #[.slice A0_0 l0_0.length c0_0] 39 (0, 0)) (by (with_reducible repeat (first | refine qH ?_ _ | refine qI ?_ | refine qG ?_ _)); exact BK243.out) hb); have n1_ := qV.mk (qL (g := gb244) (o := .cells #[.int .i64 a1_0, .slice A1_1 l1_1.length c1_1, .slice A1_2 l1_2.length c1_2, .int .i64 a1_3] 66 (0, 0)) (by (with_reducible repeat (first | refine qH ?_ _ | refine qI ?_ | refine qG ?_ _)); exact BK244.out) hb); have n2_ := qV.mk (qE (by repeat (first | (with_reducible first | exact HB.out | apply qA | apply qB | apply qC | refine qD ?_ GE243.out | refine qD ?_ GE244.out) | exact HB.out)) hb); clear BK243 BK244 HB; have BK243 := n0_; have BK244 := n1_; have HB := n2_; clear n0_ n1_ n2_; (try clear hb); (try clear hb2); (try clear hk); (try clear hi)))
  go_ret
  exact ⟨by first | rfl | (simp [zS, zR] <;> rfl) | (simp [*, zS, zR] <;> rfl), by repeat (first | (with_reducible first | exact HB.out | apply qA | apply qB | apply qC | refine qD ?_ GE243.out | refine qD ?_ GE244.out) | exact HB.out)⟩
 ·replace c4 := Bool.eq_false_iff.mpr c4
  subst c4
  rw [if_neg (show ¬ (false = true) by decide)] at H
  obtain rfl := Option.some.inj H
  go_enter Tryd.func36, Tryd.ntmps36
  go_wp2_with (first | ((with_reducible refine gate_dst (N := 2) rfl ?_); refine qX ?hg (N := 2) ?hd (cs := #[.slice A0_0 l0_0.length c0_0]) (t := 39) ?hr ?_; (case hd => rfl); (case hg => rfl); (case hr => first | (go_simp; done) | (go_simp; rfl)); intro gb243 hg w14 hbox hb; have n0_ := qV.mk (qE (by repeat (first | (with_reducible first | exact HB.out | apply qA | apply qB | apply qC) | exact HB.out)) hb); have n1_ := qV.mk (hbox); have n2_ := qV.mk ((by rw [hg]; exact (qF (by repeat (first | (with_reducible first | exact HB.out | apply qA | apply qB | apply qC) | exact HB.out))) : w.heap.size ≤ gb243)); have n3_ := qV.mk ((by rw [hg]; exact (qF (by repeat (first | (with_reducible first | exact HB.out | apply qA | apply qB | apply qC) | exact HB.out))) : w.heap.size ≤ gb243)); clear HB; have HB := n0_; have BK243 := n1_; have GW243 := n2_; have GE243 := n3_; clear n0_ n1_ n2_ n3_; clear hb hbox hg) | ((with_reducible refine gate_dst (N := 3) rfl ?_); refine qX ?hg (N := 3) ?hd (cs := #[.int .i64 a1_0, .slice A1_1 l1_1.length c1_1, .slice A1_2 l1_2.length c1_2, .int .i64 a1_3]) (t := 66) ?hr ?_; (case hd => rfl); (case hg => rfl); (case hr => first | (go_simp; done) | (go_simp; rfl)); intro gb244 hg w15 hbox hb; have n0_ := qV.mk (qL (g := gb243) (o := .cells #[.slice A0_0 l0_0.length c0_0] 39 (0, 0)) (by (with_reducible repeat (first | refine qH ?_ _ | refine qI ?_ | refine qG ?_ _)); exact BK243.out) hb); have n1_ := qV.mk (qE (by repeat (first | (with_reducible first | exact HB.out | apply qA | apply qB | apply qC | refine qD ?_ GE243.out) | exact HB.out)) hb); have n2_ := qV.mk (hbox); have n3_ := qV.mk ((by rw [hg]; exact (qF (by repeat (first | (with_reducible first | exact HB.out | apply qA | apply qB | apply qC | refine qD ?_ GE243.out) | exact HB.out))) : w.heap.size ≤ gb244)); have n4_ := qV.mk ((by rw [hg]; exact (qF (by repeat (first | (with_reducible first | exact HB.out | apply qA | apply qB | apply qC | refine qD ?_ GE243.out) | exact HB.out))) : w.heap.size ≤ gb244)); have n5_ := qV.mk ((by rw [hg]; exact Nat.ne_of_lt (jR (g := gb243) (o := .cells #[.slice A0_0 l0_0.length c0_0] 39 (0, 0)) (by (with_reducible repeat (first | refine qH ?_ _ | refine qI ?_ | refine qG ?_ _)); exact BK243.out)) : gb243 ≠ gb244)); have n6_ := qV.mk ((by rw [hg]; exact Nat.ne_of_gt (jR (g := gb243) (o := .cells #[.slice A0_0 l0_0.length c0_0] 39 (0, 0)) (by (with_reducible repeat (first | refine qH ?_ _ | refine qI ?_ | refine qG ?_ _)); exact BK243.out)) : gb244 ≠ gb243)); clear BK243 HB; have BK243 := n0_; have HB := n1_; have BK244 := n2_; have GW244 := n3_; have GE244 := n4_; have NB243_244 := n5_; have NB244_243 := n6_; clear n0_ n1_ n2_ n3_ n4_ n5_ n6_ hb hbox hg; have hnb16 := NB243_244.out; have hnc16 := NB244_243.out; have hcz17_0 : w15.cell? ⟨gb243, 0, none⟩ = some (.slice A0_0 l0_0.length c0_0) := (qJ BK243.out 0).trans rfl; have hfz17_0 := qK BK243.out 0) | ((with_reducible refine gate_callee (f := 23) rfl ?_); refine qW (some 6) rfl rfl Tryd.func23 (by kernel_rfl) rfl #[.agg #[.slice A0_0 l0_0.length c0_0]] rfl (by (try simp only [List.map_toArray, List.map_cons, List.map_nil]); first | done | rfl) ?_; (with_reducible refine (zV.calls k _ _ l0_0 false _ ?side1 ?side2 A3.out).mono ?_); (case side1 => repeat (first | exact (Kd.zA HR0_0.out HB.out) | (with_reducible refine Kd.qS ?_ _) | (with_reducible refine Kd.qT ?_ _) | (with_reducible refine Kd.qU ?_))); (case side2 => exact HC0_0.out); rintro e w18 ⟨rfl, hb⟩; refine ⟨_, rfl, ?_⟩; have n0_ := qV.mk (qL (g := gb243) (o := .cells #[.slice A0_0 l0_0.length c0_0] 39 (0, 0)) (by (with_reducible repeat (first | refine qH ?_ _ | refine qI ?_ | refine qG ?_ _)); exact BK243.out) hb); have n1_ := qV.mk (qL (g := gb244) (o := .cells #[.int .i64 a1_0, .slice A1_1 l1_1.length c1_1, .slice A1_2 l1_2.length c1_2, .int .i64 a1_3] 66 (0, 0)) (by (with_reducible repeat (first | refine qH ?_ _ | refine qI ?_ | refine qG ?_ _)); exact BK244.out) hb); have n2_ := qV.mk (qE (by repeat (first | (with_reducible first | exact HB.out | apply qA | apply qB | apply qC | refine qD ?_ GE243.out | refine qD ?_ GE244.out) | exact HB.out)) hb); clear BK243 BK244 HB; have BK243 := n0_; have BK244 := n1_; have HB := n2_; clear n0_ n1_ n2_; (try clear hb); (try clear hb2); (try clear hk); (try clear hi)))
  go_ret
  exact ⟨by first | rfl | (simp [zS, zR] <;> rfl) | (simp [*, zS, zR] <;> rfl), by repeat (first | (with_reducible first | exact HB.out | apply qA | apply qB | apply qC | refine qD ?_ GE243.out | refine qD ?_ GE244.out) | exact HB.out)⟩

def jM.l0 : Nat → Int → List (S27) → List Int → Int → List (S85) → Option ((List (S27)))
 | 0, _, _, _, _, _ => none
 | k + 1, x1, x7, x8, x9, x248000 => if x9 < (x8.length : Int) then (if 0 ≤ x1 then (if x1 < (x248000.length : Int) then (if 0 ≤ x9 then (if 0 ≤ (rd x8 x9) then (if (rd x8 x9) < (((zT x248000 x1).f1).length : Int) then (if x7.length < 5864062014805 then (jM.l0 k x1 (x7 ++ [(⟨(zU ((zT x248000 x1).f1) (rd x8 x9)).f0, (zU ((zT x248000 x1).f1) (rd x8 x9)).f1, (zU ((zT x248000 x1).f1) (rd x8 x9)).f2⟩ : S27)]) x8 (wrap64 (x9 + 1)) x248000) else (none)) else (none)) else (none)) else (none)) else (none)) else (none)) else (some x7)
def jM.f (k : Nat) (l0_0 : List (S85)) (a1 : Int) (l2_0 : List Int) (l2_1 : List Int) (a2_2 : Int) : Option ((List (S27))) := (spec_l2Offsets.f k l2_0 l2_1 a2_2).bind fun t252 => (jM.l0 k a1 (([] : List (S27))) t252 0 l0_0)
theorem jM.mono_l : ∀ k, (∀ y0 y1 y2 y3 y4, LeO (jM.l0 k y0 y1 y2 y3 y4) (jM.l0 (k + 1) y0 y1 y2 y3 y4))
 | 0 => fun _ _ _ _ _ r h => by simp [jM.l0] at h
 | k + 1 => by
  have ih0 := jM.mono_l k
  ·intro y0 y1 y2 y3 y4
   unfold jM.l0
   repeat' first
   | (with_reducible exact ih0 _ _ _ _ _)
   | (with_reducible exact spec_l2Offsets.mono _ _ _ _)
   | (with_reducible exact LeO.refl _)
   | (with_reducible exact LeO.none _)
   | (with_reducible refine LeO.ite ?_ ?_)
   | (with_reducible refine LeO.bind ?_ (fun _ => ?_))
   | exact ih0 _ _ _ _ _
   | exact spec_l2Offsets.mono _ _ _ _
   | exact LeO.none _
   | refine LeO.ite ?_ ?_
   | refine LeO.bind ?_ (fun _ => ?_)
theorem jM.mono : ∀ a0 a1 a2 a3 a4 k, LeO (jM.f k a0 a1 a2 a3 a4) (jM.f (k + 1) a0 a1 a2 a3 a4) := by
 intro a0 a1 a2 a3 a4 k
 have ih0 := jM.mono_l k
 unfold jM.f
 repeat' first
   | (with_reducible exact ih0 _ _ _ _ _)
   | (with_reducible exact spec_l2Offsets.mono _ _ _ _)
   | (with_reducible exact LeO.refl _)
   | (with_reducible exact LeO.none _)
   | (with_reducible refine LeO.ite ?_ ?_)
   | (with_reducible refine LeO.bind ?_ (fun _ => ?_))
   | exact ih0 _ _ _ _ _
   | exact spec_l2Offsets.mono _ _ _ _
   | exact LeO.none _
   | refine LeO.ite ?_ ?_
   | refine LeO.bind ?_ (fun _ => ?_)
def jM.T6 : Bool × List (List Nat × List Nat) := (true, [([], []), ([], []), ([1], [1]), ([], []), ([2, 3], [2, 3]), ([4], [4]), ([5], [5]), ([], []), ([], []), ([7, 8], [7, 8]), ([9], [9]), ([6, 10], [6, 10]), ([11], [11]), ([12], [12]), ([0, 13], [0, 13]), ([14, 14, 0, 1, 2, 3, 4, 5, 6, 7, 8, 9, 10, 11, 12, 13, 14], [0, 14])])
def jM.B6 : List Nat := [0, 0, 2, 0, 14, 30, 62, 0, 0, 384, 896, 2046, 4094, 8190, 16383, 32767]
theorem jM.tab6 : rtab .any (opsOf Tryd.f111 6) = jM.T6 := by kernel_rfl
theorem jM.bits6 : waitsOk jM.T6.2 jM.B6 = true := by kernel_rfl
set_option maxHeartbeats 8000000 in
set_option maxRecDepth 100000 in
theorem jM.calls (k : Nat) (A0_0 : Option Addr) (c0_0 : Nat) (l0_0 : List (S85)) (a1 : Int) (A2_0 : Option Addr) (c2_0 : Nat) (l2_0 : List Int) (A2_1 : Option Addr) (c2_1 : Nat) (l2_1 : List Int) (a2_2 : Int) (r : List (S27)) (w : World) (hr0_0 : Kd.C k85 w A0_0 l0_0.length l0_0) (hc0_0 : l0_0.length ≤ c0_0) (hr2_0 : Kd.C (Kd.int .i64) w A2_0 l2_0.length l2_0) (hc2_0 : l2_0.length ≤ c2_0) (hr2_1 : Kd.C (Kd.int .i64) w A2_1 l2_1.length l2_1) (hc2_1 : l2_1.length ≤ c2_1) (h : jM.f k l0_0 a1 l2_0 l2_1 a2_2 = some r) :
  Calls Tryd.prog 111 #[.agg #[.slice A0_0 l0_0.length c0_0], .int .i64 a1, .agg #[.slice A2_0 l2_0.length c2_0, .slice A2_1 l2_1.length c2_1, .int .i64 a2_2]] w fun e w' => ∃ v0_ : Value, e = .returned (v0_) ∧ Kd.R k27 27 w' w.heap.size (fun _ => True) v0_ r ∧ Below w.heap.size w w' := by
 have hu39 := Tryd.underlying39
 have hu64 := Tryd.underlying64
 have hu27 := Tryd.underlying27
 have HR0_0 := qV.mk hr0_0
 have HC0_0 := qV.mk hc0_0
 clear hr0_0 hc0_0
 have HR2_0 := qV.mk hr2_0
 have HC2_0 := qV.mk hc2_0
 clear hr2_0 hc2_0
 have HR2_1 := qV.mk hr2_1
 have HC2_1 := qV.mk hc2_1
 clear hr2_1 hc2_1
 have HB := qV.mk (Below.refl w.heap.size w)
 have H : ((spec_l2Offsets.f k l2_0 l2_1 a2_2).bind fun t252 => (jM.l0 k a1 (([] : List (S27))) t252 0 l0_0)) = some r := h
 clear h
 obtain ⟨y249, hy249⟩ : ∃ y_ : List (S27), y_ = (([] : List (S27))) := ⟨_, rfl⟩
 replace H : ((spec_l2Offsets.f k l2_0 l2_1 a2_2).bind fun t252 => (jM.l0 k a1 y249 t252 0 l0_0)) = some r := by first | (rw [hy249]; with_reducible exact H) | (have H2_ := (Option.bind_some _ _).symm.trans H; rw [hy249]; with_reducible exact H2_) | (have H2_ := (Option.bind_some _ _).symm.trans H; with_reducible exact H2_) | with_reducible exact H | (rw [hy249]; exact H) | exact H
 have Ny249 := qV.mk hy249
 clear hy249
 replace H := Option.bind_eq_some_iff.mp H
 obtain ⟨t252, A40, H⟩ := H
 try dsimp only at H
 have A4 := qV.mk A40
 clear A40
 have H' := qV.mk H
 clear H
 go_enter Tryd.func111, Tryd.ntmps111
 go_wp2_with (first | ((with_reducible refine gate_dst (N := 3) rfl ?_); refine qX ?hg (N := 3) ?hd (cs := #[.slice A0_0 l0_0.length c0_0]) (t := 39) ?hr ?_; (case hd => rfl); (case hg => rfl); (case hr => first | (go_simp; done) | (go_simp; rfl)); intro gb247 hg w5 hbox hb; have n0_ := qV.mk (qE (by repeat (first | (with_reducible first | exact HB.out | apply qA | apply qB | apply qC) | exact HB.out)) hb); have n1_ := qV.mk (hbox); have n2_ := qV.mk ((by rw [hg]; exact (qF (by repeat (first | (with_reducible first | exact HB.out | apply qA | apply qB | apply qC) | exact HB.out))) : w.heap.size ≤ gb247)); have n3_ := qV.mk ((by rw [hg]; exact (qF (by repeat (first | (with_reducible first | exact HB.out | apply qA | apply qB | apply qC) | exact HB.out))) : w.heap.size ≤ gb247)); clear HB; have HB := n0_; have BK247 := n1_; have GW247 := n2_; have GE247 := n3_; clear n0_ n1_ n2_ n3_; clear hb hbox hg) | ((with_reducible refine gate_dst (N := 5) rfl ?_); refine qX ?hg (N := 5) ?hd (cs := #[.slice A2_0 l2_0.length c2_0, .slice A2_1 l2_1.length c2_1, .int .i64 a2_2]) (t := 64) ?hr ?_; (case hd => rfl); (case hg => rfl); (case hr => first | (go_simp; done) | (go_simp; rfl)); intro gb248 hg w6 hbox hb; have n0_ := qV.mk (qL (g := gb247) (o := .cells #[.slice A0_0 l0_0.length c0_0] 39 (0, 0)) (by (with_reducible repeat (first | refine qH ?_ _ | refine qI ?_ | refine qG ?_ _)); exact BK247.out) hb); have n1_ := qV.mk (qE (by repeat (first | (with_reducible first | exact HB.out | apply qA | apply qB | apply qC | refine qD ?_ GE247.out) | exact HB.out)) hb); have n2_ := qV.mk (hbox); have n3_ := qV.mk ((by rw [hg]; exact (qF (by repeat (first | (with_reducible first | exact HB.out | apply qA | apply qB | apply qC | refine qD ?_ GE247.out) | exact HB.out))) : w.heap.size ≤ gb248)); have n4_ := qV.mk ((by rw [hg]; exact (qF (by repeat (first | (with_reducible first | exact HB.out | apply qA | apply qB | apply qC | refine qD ?_ GE247.out) | exact HB.out))) : w.heap.size ≤ gb248)); have n5_ := qV.mk ((by rw [hg]; exact Nat.ne_of_lt (jR (g := gb247) (o := .cells #[.slice A0_0 l0_0.length c0_0] 39 (0, 0)) (by (with_reducible repeat (first | refine qH ?_ _ | refine qI ?_ | refine qG ?_ _)); exact BK247.out)) : gb247 ≠ gb248)); have n6_ := qV.mk ((by rw [hg]; exact Nat.ne_of_gt (jR (g := gb247) (o := .cells #[.slice A0_0 l0_0.length c0_0] 39 (0, 0)) (by (with_reducible repeat (first | refine qH ?_ _ | refine qI ?_ | refine qG ?_ _)); exact BK247.out)) : gb248 ≠ gb247)); clear BK247 HB; have BK247 := n0_; have HB := n1_; have BK248 := n2_; have GW248 := n3_; have GE248 := n4_; have NB247_248 := n5_; have NB248_247 := n6_; clear n0_ n1_ n2_ n3_ n4_ n5_ n6_; clear hb hbox hg) | ((with_reducible refine gate_dst (N := 10) rfl ?_); refine Kd.R_lit k27 _ 27 ?hg (N := 10) ?hd (xs := ([] : List (S27))) (inner := []) (ok := fun _ => True) (okp := fun _ => True) ?hr ?hp (fun _ hk => hk) trivial (Below.refl _ _) (Nat.le_refl _) (by simp) ?_; (case hd => rfl); (case hg => rfl); (case hr => first | (go_simp; done) | (go_simp; rfl)); (case hp => exact (Reps.none _ _)); intro v250 w7 ho8 hb hg_ hnew_; clear hg_ hnew_; (first | rw [← Ny249.out] at ho8 | (simp only [Int.reduceToNat] at ho8; rw [← Ny249.out] at ho8)); have n0_ := qV.mk (Kd.R_lower ho8 (qF (by repeat (first | (with_reducible first | exact HB.out | apply qA | apply qB | apply qC | refine qD ?_ GE247.out | refine qD ?_ GE248.out) | exact HB.out)))); have n1_ := qV.mk (qL (g := gb247) (o := .cells #[.slice A0_0 l0_0.length c0_0] 39 (0, 0)) (by (with_reducible repeat (first | refine qH ?_ _ | refine qI ?_ | refine qG ?_ _)); exact BK247.out) hb); have n2_ := qV.mk (qL (g := gb248) (o := .cells #[.slice A2_0 l2_0.length c2_0, .slice A2_1 l2_1.length c2_1, .int .i64 a2_2] 64 (0, 0)) (by (with_reducible repeat (first | refine qH ?_ _ | refine qI ?_ | refine qG ?_ _)); exact BK248.out) hb); have n3_ := qV.mk (qE (by repeat (first | (with_reducible first | exact HB.out | apply qA | apply qB | apply qC | refine qD ?_ GE247.out | refine qD ?_ GE248.out) | exact HB.out)) hb); clear BK247 BK248 HB; have HO251 := n0_; have BK247 := n1_; have BK248 := n2_; have HB := n3_; clear n0_ n1_ n2_ n3_ hb ho8; have hnb9 := NB248_247.out; have hnc9 := NB247_248.out; have hcz10_0 : w7.cell? ⟨gb248, 0, none⟩ = some (.slice A2_0 l2_0.length c2_0) := (qJ BK248.out 0).trans rfl; have hcz10_1 : w7.cell? ⟨gb248, 1, none⟩ = some (.slice A2_1 l2_1.length c2_1) := (qJ BK248.out 1).trans rfl; have hcz10_2 : w7.cell? ⟨gb248, 2, none⟩ = some (.int .i64 a2_2) := (qJ BK248.out 2).trans rfl; have hfz10_0 := qK BK248.out 0; have hfz10_1 := qK BK248.out 1; have hfz10_2 := qK BK248.out 2) | ((with_reducible refine gate_callee (f := 125) rfl ?_); refine qW (some 12) rfl rfl Tryd.func125 (by kernel_rfl) rfl #[.agg #[.slice A2_0 l2_0.length c2_0, .slice A2_1 l2_1.length c2_1, .int .i64 a2_2]] rfl (by (try simp only [List.map_toArray, List.map_cons, List.map_nil]); first | done | rfl) ?_; (with_reducible refine (spec_l2Offsets.calls k _ _ l2_0 _ _ l2_1 a2_2 t252 _ ?side1 ?side2 ?side3 ?side4 A4.out).mono ?_); (case side1 => repeat (first | exact (Kd.zA HR2_0.out HB.out) | (with_reducible refine Kd.qS ?_ _) | (with_reducible refine Kd.qT ?_ _) | (with_reducible refine Kd.qU ?_))); (case side2 => exact HC2_0.out); (case side3 => repeat (first | exact (Kd.zA HR2_1.out HB.out) | (with_reducible refine Kd.qS ?_ _) | (with_reducible refine Kd.qT ?_ _) | (with_reducible refine Kd.qU ?_))); (case side4 => exact HC2_1.out); rintro e w11 ⟨v253, rfl, ho0, hb⟩; refine ⟨_, rfl, ?_⟩; have n0_ := qV.mk (Kd.qY (by (with_reducible repeat (first | apply Kd.qM | apply Kd.qN | apply Kd.qO)); exact HO251.out) hb); have n1_ := qV.mk (Kd.R_lower ho0 (qF (by repeat (first | (with_reducible first | exact HB.out | apply qA | apply qB | apply qC | refine qD ?_ GE247.out | refine qD ?_ GE248.out) | exact HB.out)))); have n2_ := qV.mk (qL (g := gb247) (o := .cells #[.slice A0_0 l0_0.length c0_0] 39 (0, 0)) (by (with_reducible repeat (first | refine qH ?_ _ | refine qI ?_ | refine qG ?_ _)); exact BK247.out) hb); have n3_ := qV.mk (qL (g := gb248) (o := .cells #[.slice A2_0 l2_0.length c2_0, .slice A2_1 l2_1.length c2_1, .int .i64 a2_2] 64 (0, 0)) (by (with_reducible repeat (first | refine qH ?_ _ | refine qI ?_ | refine qG ?_ _)); exact BK248.out) hb); have n4_ := qV.mk (qE (by repeat (first | (with_reducible first | exact HB.out | apply qA | apply qB | apply qC | refine qD ?_ GE247.out | refine qD ?_ GE248.out) | exact HB.out)) hb); clear HO251 BK247 BK248 HB; have HO251 := n0_; have HO254 := n1_; have BK247 := n2_; have BK248 := n3_; have HB := n4_; clear n0_ n1_ n2_ n3_ n4_; (try clear hb); (try clear hb2); (try clear hk); (try clear hi); (try clear ho0)))
 go_loopg [7, 9] k (fun kq v7 v9 w' => ∃ (x7_1 : List (S27)) (x9_1 : Int), v9 = .int .i64 x9_1 ∧ qV (jM.l0 kq a1 x7_1 t252 x9_1 l0_0 = some r) ∧ qV (kq ≤ k) ∧ qV (Kd.R k27 27 w' w.heap.size (fun _ => True) v7 x7_1) ∧ qV (Kd.R (Kd.int .i64) 2 w' w.heap.size (fun _ => True) v253 t252) ∧ qV (w'.heap[gb247]? = some (.cells #[(.slice A0_0 l0_0.length c0_0)] 39 (0, 0))) ∧ qV (w'.heap[gb248]? = some (.cells #[(.slice A2_0 l2_0.length c2_0), (.slice A2_1 l2_1.length c2_1), .int .i64 a2_2] 64 (0, 0))) ∧ qV (Below w.heap.size w w'))
 case atStart => exact ⟨(y249), (0), (by first | rfl | (simp; done) | (simp [*]; done)), H', ⟨Nat.le_refl _⟩, ⟨by (with_reducible repeat (first | apply Kd.qM | apply Kd.qN | apply Kd.qO)); exact HO251.out⟩, ⟨by (with_reducible repeat (first | apply Kd.qM | apply Kd.qN | apply Kd.qO)); exact HO254.out⟩, ⟨by (with_reducible repeat (first | refine qH ?_ _ | refine qI ?_ | refine qG ?_ _)); exact BK247.out⟩, ⟨by (with_reducible repeat (first | refine qH ?_ _ | refine qI ?_ | refine qG ?_ _)); exact BK248.out⟩, ⟨by repeat (first | (with_reducible first | exact HB.out | apply qA | apply qB | apply qC | refine qD ?_ GE247.out | refine qD ?_ GE248.out) | exact HB.out)⟩⟩
 case round =>
  clear H'
  try clear c1
  try clear c2
  try clear p2
  try clear c9
  try clear c11
  try clear hcz10_0
  try clear hcz10_1
  try clear hcz10_2
  try clear hfz10_0
  try clear hfz10_1
  try clear hfz10_2
  obtain ⟨x7_1, x9_1, rfl, HA, HK1, HO_7, HO_8, BK247, BK248, HB⟩ := hrel
  cases gk with
  | zero => exact absurd HA.out (by simp [jM.l0])
  | succ k1 =>
   have H := HA.out
   clear HA
   simp only [jM.l0] at H
   by_cases c12 : x9_1 < (t252.length : Int)
   ·rw [if_pos c12] at H
    have c12b0 : decide (x9_1 < (t252.length : Int)) = true := decide_eq_true c12
    clear c12
    by_cases c13 : 0 ≤ a1
    ·rw [if_pos c13] at H
     have c13b0 : decide (0 ≤ a1) = true := decide_eq_true c13
     clear c13
     by_cases c14 : a1 < (l0_0.length : Int)
     ·rw [if_pos c14] at H
      have c14b0 : decide (a1 < (l0_0.length : Int)) = true := decide_eq_true c14
      clear c14
      by_cases c15 : 0 ≤ x9_1
      ·rw [if_pos c15] at H
       have c15b0 : decide (0 ≤ x9_1) = true := decide_eq_true c15
       clear c15
       by_cases c16 : 0 ≤ (rd t252 x9_1)
       ·rw [if_pos c16] at H
        have c16b0 : decide (0 ≤ (rd t252 x9_1)) = true := decide_eq_true c16
        clear c16
        by_cases c17 : (rd t252 x9_1) < (((zT l0_0 a1).f1).length : Int)
        ·rw [if_pos c17] at H
         have c17b0 : decide ((rd t252 x9_1) < (((zT l0_0 a1).f1).length : Int)) = true := decide_eq_true c17
         clear c17
         by_cases c18 : x7_1.length < 5864062014805
         ·rw [if_pos c18] at H
          have LMc18 := qV.mk c18
          clear c18
          obtain ⟨y258, hy258⟩ : ∃ y_ : List (S27), y_ = (x7_1 ++ [(⟨(zU ((zT l0_0 a1).f1) (rd t252 x9_1)).f0, (zU ((zT l0_0 a1).f1) (rd t252 x9_1)).f1, (zU ((zT l0_0 a1).f1) (rd t252 x9_1)).f2⟩ : S27)]) := ⟨_, rfl⟩
          replace H : (jM.l0 k1 a1 y258 t252 (wrap64 (x9_1 + 1)) l0_0) = some r := by first | (rw [hy258]; with_reducible exact H) | (have H2_ := (Option.bind_some _ _).symm.trans H; rw [hy258]; with_reducible exact H2_) | (have H2_ := (Option.bind_some _ _).symm.trans H; with_reducible exact H2_) | with_reducible exact H | (rw [hy258]; exact H) | exact H
          have Ny258 := qV.mk hy258
          clear hy258
          have H' := qV.mk H
          clear H
          obtain ⟨Ao19, co19, eo19⟩ := Kd.zB HO_8.out
          subst eo19
          try go_wp2
          have n0_ := qV.mk (Kd.qO HO_7.out)
          have n1_ := qV.mk (Kd.qO HO_8.out)
          have n2_ := qV.mk (qI BK247.out)
          have n3_ := qV.mk (qI BK248.out)
          have n4_ := qV.mk (qC HB.out)
          clear HO_7 HO_8 BK247 BK248 HB
          have HO_7 := n0_
          have HO_8 := n1_
          have BK247 := n2_
          have BK248 := n3_
          have HB := n4_
          clear n0_ n1_ n2_ n3_ n4_
          have p255 : 0 ≤ (a1 : Int) := of_decide_eq_true (by assumption)
          have q255 : a1 < (l0_0.length : Int) := of_decide_eq_true (by assumption)
          obtain ⟨ad255, A255_1, c255_1, e255, hx255_0, hx255_1, hl255_1, hi255_1⟩ := at_T85 HR0_0.out a1 p255 q255
          have hw255_1 := hx255_1
          have hw255_0 := hx255_0
          cases e255
          replace hx255_0 := (HB.out.cell (World.block_lt_of_cell? w _ hx255_0)).trans hx255_0
          replace hx255_1 := (HB.out.cell (World.block_lt_of_cell? w _ hx255_1)).trans hx255_1
          have HR255_1 := qV.mk hi255_1
          have HC255_1 := qV.mk hl255_1
          clear hi255_1 hl255_1
          replace p255 := eq_true p255
          replace q255 := eq_true q255
          have p256 : 0 ≤ (x9_1 : Int) := of_decide_eq_true (by assumption)
          have q256 : x9_1 < (t252.length : Int) := of_decide_eq_true (by assumption)
          obtain ⟨ad256, e256, hx256_0⟩ := Kd.at_int (Kd.zC HO_8.out).2.2 x9_1 p256 q256
          cases e256
          replace p256 := eq_true p256
          replace q256 := eq_true q256
          have p257 : 0 ≤ ((rd t252 x9_1) : Int) := of_decide_eq_true (by assumption)
          have q257 : (rd t252 x9_1) < (((zT l0_0 a1).f1).length : Int) := of_decide_eq_true (by assumption)
          obtain ⟨ad257, e257, hx257_0, hx257_1, hx257_2⟩ := at_T27 HR255_1.out (rd t252 x9_1) p257 q257
          have hw257_2 := hx257_2
          have hw257_1 := hx257_1
          have hw257_0 := hx257_0
          cases e257
          replace hx257_0 := (HB.out.cell (World.block_lt_of_cell? w _ hx257_0)).trans hx257_0
          replace hx257_1 := (HB.out.cell (World.block_lt_of_cell? w _ hx257_1)).trans hx257_1
          replace hx257_2 := (HB.out.cell (World.block_lt_of_cell? w _ hx257_2)).trans hx257_2
          replace p257 := eq_true p257
          replace q257 := eq_true q257
          refine start_ (n := 16) (S := fun w' => w'.cell? ⟨gb247, 0, none⟩ = some (.slice (some ad255) l0_0.length c0_0) ∧ w'.cell? (ad255.add ((a1).toNat * 2)) = some (.int .i64 ((zT l0_0 a1).f0)) ∧ w'.cell? ⟨(ad255.add ((a1).toNat * 2)).block, (ad255.add ((a1).toNat * 2)).off + 1, none⟩ = some (.slice (some ad257) ((zT l0_0 a1).f1).length c255_1) ∧ w'.cell? (ad256.add (x9_1).toNat) = some (.int .i64 (rd t252 x9_1)) ∧ w'.cell? (ad257.add (((rd t252 x9_1)).toNat * 3)) = some (.int .i64 ((zU ((zT l0_0 a1).f1) (rd t252 x9_1)).f0)) ∧ w'.cell? ⟨(ad257.add (((rd t252 x9_1)).toNat * 3)).block, (ad257.add (((rd t252 x9_1)).toNat * 3)).off + 1, none⟩ = some (.float .f64 (Int.toNat ((zU ((zT l0_0 a1).f1) (rd t252 x9_1)).f1))) ∧ w'.cell? ⟨(ad257.add (((rd t252 x9_1)).toNat * 3)).block, (ad257.add (((rd t252 x9_1)).toNat * 3)).off + 2, none⟩ = some (.float .f64 (Int.toNat ((zU ((zT l0_0 a1).f1) (rd t252 x9_1)).f2)))) (ds := [13, 14]) #[false, false, false, false, false, false, false, false, false, false, false, false, false, false, false, false] (by kernel_rfl) rfl rfl ⟨(qJ BK247.out 0).trans rfl, ((HB.out.cell (World.block_lt_of_cell? w _ hw255_0)).trans hw255_0), ((HB.out.cell (World.block_lt_of_cell? w _ hw255_1)).trans hw255_1), hx256_0, ((HB.out.cell (World.block_lt_of_cell? w _ hw257_0)).trans hw257_0), ((HB.out.cell (World.block_lt_of_cell? w _ hw257_1)).trans hw257_1), ((HB.out.cell (World.block_lt_of_cell? w _ hw257_2)).trans hw257_2)⟩ (fun hHeld => ?_); refine with_tabW jM.tab6 jM.bits6 (fun HT_ HW_ => ?_)
          generalize wr.drew = w20 at HO_7 HO_8 BK247 BK248 HB HR255_1 hx255_0 hx255_1 hx256_0 hx257_0 hx257_1 hx257_2 hHeld ⊢
          refine pure_ (i := 0) (N := some 19) (v := ?_) (a' := ?_) #[true, false, false, false, false, false, false, false, false, false, false, false, false, false, false, false] rfl rfl (any_of HT_.out (by kernel_rfl)) (fun _ _ _ h => h) (Or.inl ⟨by rfl, ?_⟩) ?_ ?_
          rotate_left
          ·intro w'
           go_simp
           with_reducible rfl
          rotate_left
          ·simp only [Act.put, List.setIfInBounds_toArray, List.set_cons_zero, List.set_cons_succ, i64_w, i32_w]
           rfl
          refine pure_ (i := 1) (N := some 20) (v := ?_) (a' := ?_) #[true, true, false, false, false, false, false, false, false, false, false, false, false, false, false, false] rfl rfl (any_of HT_.out (by kernel_rfl)) (fun _ _ _ h => h) (Or.inl ⟨by rfl, ?_⟩) ?_ ?_
          rotate_left
          ·intro w'
           go_simp
           with_reducible rfl
          rotate_left
          ·simp only [Act.put, List.setIfInBounds_toArray, List.set_cons_zero, List.set_cons_succ, i64_w, i32_w]
           rfl
          refine pure_ (i := 3) (N := some 22) (v := ?_) (a' := ?_) #[true, true, false, true, false, false, false, false, false, false, false, false, false, false, false, false] rfl rfl (any_of HT_.out (by kernel_rfl)) (fun _ _ _ h => h) (Or.inl ⟨by rfl, ?_⟩) ?_ ?_
          rotate_left
          ·intro w'
           go_simp
           with_reducible rfl
          rotate_left
          ·simp only [Act.put, List.setIfInBounds_toArray, List.set_cons_zero, List.set_cons_succ, i64_w, i32_w]
           rfl
          refine pure_ (i := 7) (N := some 26) (v := ?_) (a' := ?_) #[true, true, false, true, false, false, false, true, false, false, false, false, false, false, false, false] rfl rfl (any_of HT_.out (by kernel_rfl)) (fun _ _ _ h => h) (Or.inl ⟨by rfl, ?_⟩) ?_ ?_
          rotate_left
          ·intro w'
           go_simp
           with_reducible rfl
          rotate_left
          ·simp only [Act.put, List.setIfInBounds_toArray, List.set_cons_zero, List.set_cons_succ, i64_w, i32_w]
           rfl
          refine pure_ (i := 8) (N := some 27) (v := ?_) (a' := ?_) #[true, true, false, true, false, false, false, true, true, false, false, false, false, false, false, false] rfl rfl (any_of HT_.out (by kernel_rfl)) (fun _ _ _ h => h) (Or.inl ⟨by rfl, ?_⟩) ?_ ?_
          rotate_left
          ·intro w'
           go_simp
           with_reducible rfl
          rotate_left
          ·simp only [Act.put, List.setIfInBounds_toArray, List.set_cons_zero, List.set_cons_succ, i64_w, i32_w]
           rfl
          refine pure_ (i := 9) (N := some 28) (v := ?_) (a' := ?_) #[true, true, false, true, false, false, false, true, true, true, false, false, false, false, false, false] rfl rfl (any_of HT_.out (by kernel_rfl)) (fun _ _ _ h => h) (Or.inl ⟨by rfl, ?_⟩) ?_ ?_
          rotate_left
          ·intro w'
           go_simp
           with_reducible rfl
          rotate_left
          ·simp only [Act.put, List.setIfInBounds_toArray, List.set_cons_zero, List.set_cons_succ, i64_w, i32_w]
           rfl
          refine take_ (i := 2) (N := some 21) (v := ?_) (a' := ?_) #[true, true, true, true, false, false, false, true, true, true, false, false, false, false, false, false] rfl rfl (take_ofW HT_.out HW_.out (by kernel_rfl)) (fun _ _ _ h => h) (Or.inl ⟨by rfl, ?_⟩) hHeld ?_ ?_
          rotate_left
          ·rintro w' ⟨s0, s1, s2, s3, s4, s5, s6⟩
           go_simp
           with_reducible rfl
          rotate_left
          ·simp only [Act.put, List.setIfInBounds_toArray, List.set_cons_zero, List.set_cons_succ, i64_w, i32_w]
           rfl
          refine pure_ (i := 4) (N := some 23) (v := ?_) (a' := ?_) #[true, true, true, true, true, false, false, true, true, true, false, false, false, false, false, false] rfl rfl (any_of HT_.out (by kernel_rfl)) (fun _ _ _ h => h) (Or.inl ⟨by rfl, ?_⟩) ?_ ?_
          rotate_left
          ·intro w'
           go_simp
           with_reducible rfl
          rotate_left
          ·simp only [Act.put, List.setIfInBounds_toArray, List.set_cons_zero, List.set_cons_succ, i64_w, i32_w]
           rfl
          refine pure_ (i := 5) (N := some 24) (v := ?_) (a' := ?_) #[true, true, true, true, true, true, false, true, true, true, false, false, false, false, false, false] rfl rfl (any_of HT_.out (by kernel_rfl)) (fun _ _ _ h => h) (Or.inl ⟨by rfl, ?_⟩) ?_ ?_
          rotate_left
          ·intro w'
           go_simp
           with_reducible rfl
          rotate_left
          ·simp only [Act.put, List.setIfInBounds_toArray, List.set_cons_zero, List.set_cons_succ, i64_w, i32_w]
           rfl
          refine take_ (i := 6) (N := some 25) (v := ?_) (a' := ?_) #[true, true, true, true, true, true, true, true, true, true, false, false, false, false, false, false] rfl rfl (take_ofW HT_.out HW_.out (by kernel_rfl)) (fun _ _ _ h => h) (Or.inl ⟨by rfl, ?_⟩) hHeld ?_ ?_
          rotate_left
          ·rintro w' ⟨s0, s1, s2, s3, s4, s5, s6⟩
           go_simp
           with_reducible rfl
          rotate_left
          ·simp only [Act.put, List.setIfInBounds_toArray, List.set_cons_zero, List.set_cons_succ, i64_w, i32_w]
           rfl
          refine take_ (i := 10) (N := some 29) (v := ?_) (a' := ?_) #[true, true, true, true, true, true, true, true, true, true, true, false, false, false, false, false] rfl rfl (take_ofW HT_.out HW_.out (by kernel_rfl)) (fun _ _ _ h => h) (Or.inl ⟨by rfl, ?_⟩) hHeld ?_ ?_
          rotate_left
          ·rintro w' ⟨s0, s1, s2, s3, s4, s5, s6⟩
           go_simp
           with_reducible rfl
          rotate_left
          ·simp only [Act.put, List.setIfInBounds_toArray, List.set_cons_zero, List.set_cons_succ, i64_w, i32_w]
           rfl
          refine pure_ (i := 11) (N := some 30) (v := ?_) (a' := ?_) #[true, true, true, true, true, true, true, true, true, true, true, true, false, false, false, false] rfl rfl (any_of HT_.out (by kernel_rfl)) (fun _ _ _ h => h) (Or.inl ⟨by rfl, ?_⟩) ?_ ?_
          rotate_left
          ·intro w'
           go_simp
           with_reducible rfl
          rotate_left
          ·simp only [Act.put, List.setIfInBounds_toArray, List.set_cons_zero, List.set_cons_succ, i64_w, i32_w]
           rfl
          refine take_ (i := 12) (N := some 31) (v := ?_) (a' := ?_) #[true, true, true, true, true, true, true, true, true, true, true, true, true, false, false, false] rfl rfl (take_ofW HT_.out HW_.out (by kernel_rfl)) (fun _ _ _ h => h) (Or.inl ⟨by rfl, ?_⟩) hHeld ?_ ?_
          rotate_left
          ·rintro w' ⟨s0, s1, s2, s3, s4, s5, s6⟩
           go_simp
           with_reducible rfl
          rotate_left
          ·simp only [Act.put, List.setIfInBounds_toArray, List.set_cons_zero, List.set_cons_succ, i64_w, i32_w]
           rfl
          refine last_ (i := 13) (N := some 32) #[true, true, true, true, true, true, true, true, true, true, true, true, true, true, false, false] rfl rfl (one_of HT_.out (by kernel_rfl)) (by decide) (fun K hK => ?_)
          refine value_ (w1 := ?_) (v := ?_) (by rfl) rfl ?_ ?_
          rotate_left 2
          ·go_simp
           constructor
           ·rfl
           ·rfl
          refine hK.out _ _ ?_
          clear hK K
          refine norm_ (a' := ?_) ?_ ?_
          rotate_left
          ·show Act.put _ (some 32) _ = _
           simp only [Act.put, List.setIfInBounds_toArray, List.set_cons_zero, List.set_cons_succ, i64_w, i32_w]
           rfl
          refine last_ (i := 14) (N := some 33) #[true, true, true, true, true, true, true, true, true, true, true, true, true, true, true, false] rfl rfl (one_of HT_.out (by kernel_rfl)) (by decide) (fun K hK => ?_)
          refine Kd.R_append_step k27 (w0 := w) w.heap.size (by rfl) (.tmp 19) (.tmp 32) 73 27 (.agg #[(.int .i64 0), (.float .f64 0), (.float .f64 0)]) 24 rfl Tryd.underlying73 info27 rfl (by decide) (by omega) u7 x7_1 (⟨(zU ((zT l0_0 a1).f1) (rd t252 x9_1)).f0, (zU ((zT l0_0 a1).f1) (rd t252 x9_1)).f1, (zU ((zT l0_0 a1).f1) (rd t252 x9_1)).f2⟩ : S27) [.int .i64 ((zU ((zT l0_0 a1).f1) (rd t252 x9_1)).f0), .float .f64 (Int.toNat ((zU ((zT l0_0 a1).f1) (rd t252 x9_1)).f1)), .float .f64 (Int.toNat ((zU ((zT l0_0 a1).f1) (rd t252 x9_1)).f2))] (fun _ => True) (fun _ => False) rfl rfl ?aP (fun _ hk => hk.elim) ?aF ?aO ?aB ?aS ?aL ?_
          (case aP => exact k27_mkM _ _ _ (⟨(zU ((zT l0_0 a1).f1) (rd t252 x9_1)).f0, (zU ((zT l0_0 a1).f1) (rd t252 x9_1)).f1, (zU ((zT l0_0 a1).f1) (rd t252 x9_1)).f2⟩ : S27))
          (case aB => exact (by repeat (first | (with_reducible first | exact HB.out | apply qA | apply qB | apply qC | refine qD ?_ GE247.out | refine qD ?_ GE248.out) | exact HB.out)))
          (case aF => exact (fun _ _ => trivial))
          (case aO => exact (by (with_reducible repeat (first | apply Kd.qM | apply Kd.qN | apply Kd.qO)); exact HO_7.out))
          (case aS => exact (qF (by repeat (first | (with_reducible first | exact HB.out | apply qA | apply qB | apply qC | refine qD ?_ GE247.out | refine qD ?_ GE248.out) | exact HB.out))))
          (case aL => have := LMc18.out; omega)
          intro v259 w21 ho hb hg hat
          rw [← Ny258.out] at ho
          have n0_ := qV.mk (Kd.R_over' (by (with_reducible repeat (first | apply Kd.qM | apply Kd.qN | apply Kd.qO)); exact HO_8.out) (Kd.zN (by (with_reducible repeat (first | apply Kd.qM | apply Kd.qN | apply Kd.qO)); exact HO_7.out)) (by decide) hg)
          have n1_ := qV.mk (blk_grown (g := gb247) (o := .cells #[.slice (some ad255) l0_0.length c0_0] 39 (0, 0)) (by (with_reducible repeat (first | refine qH ?_ _ | refine qI ?_ | refine qG ?_ _)); exact BK247.out) hg (Kd.R_ne HO_7.out BK247.out (by decide)))
          have n2_ := qV.mk (blk_grown (g := gb248) (o := .cells #[.slice A2_0 l2_0.length c2_0, .slice A2_1 l2_1.length c2_1, .int .i64 a2_2] 64 (0, 0)) (by (with_reducible repeat (first | refine qH ?_ _ | refine qI ?_ | refine qG ?_ _)); exact BK248.out) hg (Kd.R_ne HO_7.out BK248.out (by decide)))
          have n3_ := qV.mk (hb)
          have n4_ := qV.mk (ho)
          clear HO_8 BK247 BK248 HB HO_7
          have HO_8 := n0_
          have BK247 := n1_
          have BK248 := n2_
          have HB := n3_
          have HO260 := n4_
          clear n0_ n1_ n2_ n3_ n4_
          clear ho hb hg hat
          refine hK.out _ _ ?_
          clear hK K
          refine norm_ (a' := ?_) ?_ ?_
          rotate_left
          ·show Act.put _ (some 33) _ = _
           simp only [Act.put, List.setIfInBounds_toArray, List.set_cons_zero, List.set_cons_succ, i64_w, i32_w]
           rfl
          refine pure_ (i := 15) (N := some 7) (v := ?_) (a' := ?_) #[true, true, true, true, true, true, true, true, true, true, true, true, true, true, true, true] rfl rfl (any_of HT_.out (by kernel_rfl)) (fun _ _ _ h => h) (Or.inl ⟨by rfl, ?_⟩) ?_ ?_
          rotate_left
          ·intro w'
           go_simp
           with_reducible rfl
          rotate_left
          ·simp only [Act.put, List.setIfInBounds_toArray, List.set_cons_zero, List.set_cons_succ, i64_w, i32_w]
           rfl
          refine done_ (done_of HT_.out (by kernel_rfl)) ?_
          try go_wp2
          go_roundg k1
          case measure => have := HK1.out; omega
          case rel => exact ⟨(y258), (wrap64 (x9_1 + 1)), (by first | rfl | (simp; done) | (simp [*]; done)), H', ⟨by have := HK1.out; omega⟩, ⟨by (with_reducible repeat (first | apply Kd.qM | apply Kd.qN | apply Kd.qO)); exact HO260.out⟩, ⟨by (with_reducible repeat (first | apply Kd.qM | apply Kd.qN | apply Kd.qO)); exact HO_8.out⟩, ⟨by (with_reducible repeat (first | refine qH ?_ _ | refine qI ?_ | refine qG ?_ _)); exact BK247.out⟩, ⟨by (with_reducible repeat (first | refine qH ?_ _ | refine qI ?_ | refine qG ?_ _)); exact BK248.out⟩, ⟨by repeat (first | (with_reducible first | exact HB.out | apply qA | apply qB | apply qC | refine qD ?_ GE247.out | refine qD ?_ GE248.out) | exact HB.out)⟩⟩
         ·rw [if_neg c18] at H
          exact absurd H (by simp)
        ·rw [if_neg c17] at H
         exact absurd H (by simp)
       ·rw [if_neg c16] at H
        exact absurd H (by simp)
      ·rw [if_neg c15] at H
       exact absurd H (by simp)
     ·rw [if_neg c14] at H
      exact absurd H (by simp)
    ·rw [if_neg c13] at H
     exact absurd H (by simp)
   ·rw [if_neg c12] at H
    have c12b0 : decide (x9_1 < (t252.length : Int)) = false := decide_eq_false c12
    clear c12
    obtain rfl := Option.some.inj H
    obtain ⟨Ao22, co22, eo22⟩ := Kd.zB HO_8.out
    subst eo22
    go_wp2
    go_ret
    exact ⟨_, by first | rfl | (simp [zS, zR] <;> rfl) | (simp [*, zS, zR] <;> rfl), by (with_reducible repeat (first | apply Kd.qM | apply Kd.qN | apply Kd.qO)); exact HO_7.out, by repeat (first | (with_reducible first | exact HB.out | apply qA | apply qB | apply qC | refine qD ?_ GE247.out | refine qD ?_ GE248.out) | exact HB.out)⟩

end Go.Proofs.YtpmdgmnpkdoamabDoor.DFnExactRead
