/- Proved here: what the functions answer that the law on Read comes to (the lines were written by a program). Conditions: those that stand ahead in each theorem. -/
import Derived.Test.YtpmdgmnpkdoamabDoorRdDFnExactReadx0
import Derived.Test.YtpmdgmnpkdoamabDoorRdDFnExactReadx3
namespace Go.Proofs.YtpmdgmnpkdoamabDoor.DFnExactRead
open Go.RowKit Go.Proofs.YtpmdgmnpkdoamabDoorW.PrintWords Go.Proofs.YtpmdgmnpkdoamabDoorW.PrintLast Go.Proofs.YtpmdgmnpkdoamabDoorW.PrintMore
attribute [local go_sem] Vc.run_store_float' max2_int min2_int max_two min_two max_three min_three max_four min_four   -- for this text's walks alone
set_option linter.unusedVariables false
set_option linter.unusedSimpArgs false

mutual
def zV.l0 : Nat → Int → List (S85) → Option (Bool)
 | 0, _, _ => none
 | k + 1, x3, x195000 => if x3 < (x195000.length : Int) then (if 0 ≤ x3 then ((spec_l1IsDType.f ((zT x195000 x3).f0)).bind fun t197 => (if t197 = true then (zV.j1 k x3 (decide ((((zT x195000 x3).f1).length : Int) > 4096)) x195000 ((zT x195000 x3).f0) ((zT x195000 x3).f1)) else (zV.j1 k x3 true x195000 ((zT x195000 x3).f0) ((zT x195000 x3).f1)))) else (none)) else (some true)
def zV.j1 : Nat → Int → Bool → List (S85) → Int → List (S27) → Option (Bool)
 | 0, _, _, _, _, _ => none
 | k + 1, x3, x31, x195000, x197000, x197001 => if x31 = true then (some false) else (zV.l1 k x3 0 x195000 x197000 x197001)
def zV.l1 : Nat → Int → Int → List (S85) → Int → List (S27) → Option (Bool)
 | 0, _, _, _, _, _ => none
 | k + 1, x3, x5, x195000, x197000, x197001 => if x5 < (x197001.length : Int) then (if 0 ≤ x5 then ((zQ.f x197000 ((zU x197001 x5).f0) ((zU x197001 x5).f1) ((zU x197001 x5).f2)).bind fun t199 => (if t199 = true then (zV.l1 k x3 (wrap64 (x5 + 1)) x195000 x197000 x197001) else (some false))) else (none)) else (zV.l0 k (wrap64 (x3 + 1)) x195000)
end
def zV.f (k : Nat) (l0_0 : List (S85)) : Option (Bool) := if (l0_0.length : Int) > 64 then (some false) else (zV.l0 k 0 l0_0)
theorem zV.mono_l : ∀ k, (∀ y0 y1, LeO (zV.l0 k y0 y1) (zV.l0 (k + 1) y0 y1)) ∧ (∀ y0 y1 y2 y3 y4, LeO (zV.j1 k y0 y1 y2 y3 y4) (zV.j1 (k + 1) y0 y1 y2 y3 y4)) ∧ (∀ y0 y1 y2 y3 y4, LeO (zV.l1 k y0 y1 y2 y3 y4) (zV.l1 (k + 1) y0 y1 y2 y3 y4))
 | 0 => ⟨fun _ _ r h => by simp [zV.l0] at h, fun _ _ _ _ _ r h => by simp [zV.j1] at h, fun _ _ _ _ _ r h => by simp [zV.l1] at h⟩
 | k + 1 => by
  obtain ⟨ih0, ih1, ih2⟩ := zV.mono_l k
  refine ⟨?_, ?_, ?_⟩
  ·intro y0 y1
   unfold zV.l0
   repeat' first
   | (with_reducible exact ih0 _ _)
   | (with_reducible exact ih1 _ _ _ _ _)
   | (with_reducible exact ih2 _ _ _ _ _)
   | (with_reducible exact LeO.refl _)
   | (with_reducible exact LeO.none _)
   | (with_reducible refine LeO.ite ?_ ?_)
   | (with_reducible refine LeO.bind ?_ (fun _ => ?_))
   | exact ih0 _ _
   | exact ih1 _ _ _ _ _
   | exact ih2 _ _ _ _ _
   | exact LeO.none _
   | refine LeO.ite ?_ ?_
   | refine LeO.bind ?_ (fun _ => ?_)
  ·intro y0 y1 y2 y3 y4
   unfold zV.j1
   repeat' first
   | (with_reducible exact ih0 _ _)
   | (with_reducible exact ih1 _ _ _ _ _)
   | (with_reducible exact ih2 _ _ _ _ _)
   | (with_reducible exact LeO.refl _)
   | (with_reducible exact LeO.none _)
   | (with_reducible refine LeO.ite ?_ ?_)
   | (with_reducible refine LeO.bind ?_ (fun _ => ?_))
   | exact ih0 _ _
   | exact ih1 _ _ _ _ _
   | exact ih2 _ _ _ _ _
   | exact LeO.none _
   | refine LeO.ite ?_ ?_
   | refine LeO.bind ?_ (fun _ => ?_)
  ·intro y0 y1 y2 y3 y4
   unfold zV.l1
   repeat' first
   | (with_reducible exact ih0 _ _)
   | (with_reducible exact ih1 _ _ _ _ _)
   | (with_reducible exact ih2 _ _ _ _ _)
   | (with_reducible exact LeO.refl _)
   | (with_reducible exact LeO.none _)
   | (with_reducible refine LeO.ite ?_ ?_)
   | (with_reducible refine LeO.bind ?_ (fun _ => ?_))
   | exact ih0 _ _
   | exact ih1 _ _ _ _ _
   | exact ih2 _ _ _ _ _
   | exact LeO.none _
   | refine LeO.ite ?_ ?_
   | refine LeO.bind ?_ (fun _ => ?_)
theorem zV.mono : ∀ a0 k, LeO (zV.f k a0) (zV.f (k + 1) a0) := by
 intro a0 k
 obtain ⟨ih0, ih1, ih2⟩ := zV.mono_l k
 unfold zV.f
 repeat' first
   | (with_reducible exact ih0 _ _)
   | (with_reducible exact ih1 _ _ _ _ _)
   | (with_reducible exact ih2 _ _ _ _ _)
   | (with_reducible exact LeO.refl _)
   | (with_reducible exact LeO.none _)
   | (with_reducible refine LeO.ite ?_ ?_)
   | (with_reducible refine LeO.bind ?_ (fun _ => ?_))
   | exact ih0 _ _
   | exact ih1 _ _ _ _ _
   | exact ih2 _ _ _ _ _
   | exact LeO.none _
   | refine LeO.ite ?_ ?_
   | refine LeO.bind ?_ (fun _ => ?_)
def zV.T12 : Bool × List (List Nat × List Nat) := (true, [([], []), ([0], [0]), ([], []), ([2], [2]), ([], []), ([3, 4], [3, 4]), ([5], [5]), ([1, 6], [1, 6]), ([7], [7])])
def zV.B12 : List Nat := [0, 1, 0, 4, 0, 28, 60, 127, 255]
theorem zV.tab12 : rtab .any (opsOf Tryd.f23 12) = zV.T12 := by kernel_rfl
theorem zV.bits12 : waitsOk zV.T12.2 zV.B12 = true := by kernel_rfl
set_option maxHeartbeats 8000000 in
set_option maxRecDepth 100000 in
theorem zV.calls (k : Nat) (A0_0 : Option Addr) (c0_0 : Nat) (l0_0 : List (S85)) (r : Bool) (w : World) (hr0_0 : Kd.C k85 w A0_0 l0_0.length l0_0) (hc0_0 : l0_0.length ≤ c0_0) (h : zV.f k l0_0 = some r) :
  Calls Tryd.prog 23 #[.agg #[.slice A0_0 l0_0.length c0_0]] w fun e w' => e = .returned (.bool r) ∧ Below w.heap.size w w' := by
 have hu39 := Tryd.underlying39
 have hu85 := Tryd.underlying85
 have hu27 := Tryd.underlying27
 have HR0_0 := qV.mk hr0_0
 have HC0_0 := qV.mk hc0_0
 clear hr0_0 hc0_0
 have HB := qV.mk (Below.refl w.heap.size w)
 have H : (if (l0_0.length : Int) > 64 then (some false) else (zV.l0 k 0 l0_0)) = some r := h
 clear h
 by_cases c2 : (l0_0.length : Int) > 64
 ·rw [if_pos c2] at H
  have c2b0 : decide (64 < (l0_0.length : Int)) = true := decide_eq_true c2
  have c2b1 : decide (64 < l0_0.length) = true := decide_eq_true (by omega)
  clear c2
  obtain rfl := Option.some.inj H
  go_enter Tryd.func23, Tryd.ntmps23
  go_wp2_with (first | ((with_reducible refine gate_dst (N := 1) rfl ?_); (try (refine gate_guard (by rfl) ?_; dsimp only)); refine qX ?hg (N := 1) ?hd (cs := #[.slice A0_0 l0_0.length c0_0]) (t := 39) ?hr ?_; (case hd => rfl); (case hg => rfl); (case hr => first | (go_simp; done) | (go_simp; rfl)); intro gb194 hg w3 hbox hb; have n0_ := qV.mk (qE (by repeat (first | (with_reducible first | exact HB.out | apply qA | apply qB | apply qC) | exact HB.out)) hb); have n1_ := qV.mk (hbox); have n2_ := qV.mk ((by rw [hg]; exact (qF (by repeat (first | (with_reducible first | exact HB.out | apply qA | apply qB | apply qC) | exact HB.out))) : w.heap.size ≤ gb194)); have n3_ := qV.mk ((by rw [hg]; exact (qF (by repeat (first | (with_reducible first | exact HB.out | apply qA | apply qB | apply qC) | exact HB.out))) : w.heap.size ≤ gb194)); clear HB; have HB := n0_; have BK194 := n1_; have GW194 := n2_; have GE194 := n3_; clear n0_ n1_ n2_ n3_ hb hbox hg; have hcz4_0 : w3.cell? ⟨gb194, 0, none⟩ = some (.slice A0_0 l0_0.length c0_0) := (qJ BK194.out 0).trans rfl; have hfz4_0 := qK BK194.out 0))
  go_ret
  exact ⟨by first | rfl | (simp [zS, zR] <;> rfl) | (simp [*, zS, zR] <;> rfl), by repeat (first | (with_reducible first | exact HB.out | apply qA | apply qB | apply qC | refine qD ?_ GE194.out) | exact HB.out)⟩
 ·rw [if_neg c2] at H
  have c2b0 : decide (64 < (l0_0.length : Int)) = false := decide_eq_false c2
  have c2b1 : decide (64 < l0_0.length) = false := decide_eq_false (by omega)
  clear c2
  have H' := qV.mk H
  clear H
  go_enter Tryd.func23, Tryd.ntmps23
  go_wp2_with (first | ((with_reducible refine gate_dst (N := 1) rfl ?_); (try (refine gate_guard (by rfl) ?_; dsimp only)); refine qX ?hg (N := 1) ?hd (cs := #[.slice A0_0 l0_0.length c0_0]) (t := 39) ?hr ?_; (case hd => rfl); (case hg => rfl); (case hr => first | (go_simp; done) | (go_simp; rfl)); intro gb194 hg w5 hbox hb; have n0_ := qV.mk (qE (by repeat (first | (with_reducible first | exact HB.out | apply qA | apply qB | apply qC) | exact HB.out)) hb); have n1_ := qV.mk (hbox); have n2_ := qV.mk ((by rw [hg]; exact (qF (by repeat (first | (with_reducible first | exact HB.out | apply qA | apply qB | apply qC) | exact HB.out))) : w.heap.size ≤ gb194)); have n3_ := qV.mk ((by rw [hg]; exact (qF (by repeat (first | (with_reducible first | exact HB.out | apply qA | apply qB | apply qC) | exact HB.out))) : w.heap.size ≤ gb194)); clear HB; have HB := n0_; have BK194 := n1_; have GW194 := n2_; have GE194 := n3_; clear n0_ n1_ n2_ n3_ hb hbox hg; have hcz6_0 : w5.cell? ⟨gb194, 0, none⟩ = some (.slice A0_0 l0_0.length c0_0) := (qJ BK194.out 0).trans rfl; have hfz6_0 := qK BK194.out 0))
  go_loopg [3] k (fun kq v3 w' => ∃ (x3_1 : Int), v3 = .int .i64 x3_1 ∧ qV (zV.l0 kq x3_1 l0_0 = some r) ∧ qV (kq ≤ k) ∧ qV (w'.heap[gb194]? = some (.cells #[(.slice A0_0 l0_0.length c0_0)] 39 (0, 0))) ∧ qV (Below w.heap.size w w'))
  case atStart => exact ⟨(0), (by first | rfl | (simp; done) | (simp [*]; done)), H', ⟨Nat.le_refl _⟩, ⟨by (with_reducible repeat (first | refine qH ?_ _ | refine qI ?_ | refine qG ?_ _)); exact BK194.out⟩, ⟨by repeat (first | (with_reducible first | exact HB.out | apply qA | apply qB | apply qC | refine qD ?_ GE194.out) | exact HB.out)⟩⟩
  case round =>
   clear H'
   try clear c2
   try clear c2b0
   try clear c2b1
   try clear p2
   try clear hcz4_0
   try clear hcz6_0
   try clear hfz4_0
   try clear hfz6_0
   obtain ⟨x3_1, rfl, HA, HK1, BK194, HB⟩ := hrel
   cases gk with
   | zero => exact absurd HA.out (by simp [zV.l0])
   | succ k1 =>
    have H := HA.out
    clear HA
    simp only [zV.l0] at H
    by_cases c7 : x3_1 < (l0_0.length : Int)
    ·rw [if_pos c7] at H
     have c7b0 : decide (x3_1 < (l0_0.length : Int)) = true := decide_eq_true c7
     clear c7
     by_cases c8 : 0 ≤ x3_1
     ·rw [if_pos c8] at H
      have c8b0 : decide (0 ≤ x3_1) = true := decide_eq_true c8
      clear c8
      have HC9 := qV.mk H
      clear H
      have hcz10_0 : wr.cell? ⟨gb194, 0, none⟩ = some (.slice A0_0 l0_0.length c0_0) := (qJ BK194.out 0).trans rfl
      have hfz10_0 := qK BK194.out 0
      have p195 : 0 ≤ (x3_1 : Int) := of_decide_eq_true (by assumption)
      have q195 : x3_1 < (l0_0.length : Int) := of_decide_eq_true (by assumption)
      obtain ⟨ad195, A195_1, c195_1, e195, hx195_0, hx195_1, hl195_1, hi195_1⟩ := at_T85 HR0_0.out x3_1 p195 q195
      cases e195
      replace hx195_0 := (HB.out.cell (World.block_lt_of_cell? w _ hx195_0)).trans hx195_0
      replace hx195_1 := (HB.out.cell (World.block_lt_of_cell? w _ hx195_1)).trans hx195_1
      have HR195_1 := qV.mk hi195_1
      have HC195_1 := qV.mk hl195_1
      clear hi195_1 hl195_1
      replace p195 := eq_true p195
      replace q195 := eq_true q195
      go_upto_region 7 with (first | ((with_reducible refine gate_dst (N := 4) rfl ?_); (try (refine gate_guard (by rfl) ?_; dsimp only)); refine qX ?hg (N := 4) ?hd (cs := #[.int .i64 0, .slice none 0 0]) (t := 85) ?hr ?_; (case hd => rfl); (case hg => rfl); (case hr => first | (go_simp; done) | (go_simp; rfl)); intro gb196 hg w11 hbox hb; have n0_ := qV.mk (qL (g := gb194) (o := .cells #[.slice (some ad195) l0_0.length c0_0] 39 (0, 0)) (by (with_reducible repeat (first | refine qH ?_ _ | refine qI ?_ | refine qG ?_ _)); exact BK194.out) hb); have n1_ := qV.mk (qE (by repeat (first | (with_reducible first | exact HB.out | apply qA | apply qB | apply qC | refine qD ?_ GE194.out) | exact HB.out)) hb); have n2_ := qV.mk (hbox); have n3_ := qV.mk ((by rw [hg]; exact (qF (by repeat (first | (with_reducible first | exact HB.out | apply qA | apply qB | apply qC | refine qD ?_ GE194.out) | exact HB.out))) : w.heap.size ≤ gb196)); have n4_ := qV.mk ((by rw [hg]; exact (qF (by repeat (first | (with_reducible first | exact HB.out | apply qA | apply qB | apply qC | refine qD ?_ GE194.out) | exact HB.out))) : w.heap.size ≤ gb196)); have n5_ := qV.mk ((by rw [hg]; exact Nat.ne_of_lt (jR (g := gb194) (o := .cells #[.slice (some ad195) l0_0.length c0_0] 39 (0, 0)) (by (with_reducible repeat (first | refine qH ?_ _ | refine qI ?_ | refine qG ?_ _)); exact BK194.out)) : gb194 ≠ gb196)); have n6_ := qV.mk ((by rw [hg]; exact Nat.ne_of_gt (jR (g := gb194) (o := .cells #[.slice (some ad195) l0_0.length c0_0] 39 (0, 0)) (by (with_reducible repeat (first | refine qH ?_ _ | refine qI ?_ | refine qG ?_ _)); exact BK194.out)) : gb196 ≠ gb194)); clear BK194 HB; have BK194 := n0_; have HB := n1_; have BK196 := n2_; have GW196 := n3_; have GE196 := n4_; have NB194_196 := n5_; have NB196_194 := n6_; clear n0_ n1_ n2_ n3_ n4_ n5_ n6_ hb hbox hg; have hnb12 := NB196_194.out; have hnc12 := NB194_196.out; have hcz13_0 : w11.cell? ⟨gb196, 0, none⟩ = some (.int .i64 0) := (qJ BK196.out 0).trans rfl; have hcz13_1 : w11.cell? ⟨gb196, 1, none⟩ = some (.slice none 0 0) := (qJ BK196.out 1).trans rfl; have hfz13_0 := qK BK196.out 0; have hfz13_1 := qK BK196.out 1))
      (try simp only [Act.put, List.setIfInBounds_toArray, List.set_cons_zero, List.set_cons_succ])
      go_cut [31] (fun v31 wc => ∃ (kq : Nat) (x31_8 : Bool), v31 = .bool x31_8 ∧ qV (zV.j1 kq x3_1 x31_8 l0_0 ((zT l0_0 x3_1).f0) ((zT l0_0 x3_1).f1) = some r) ∧ qV (kq ≤ k1) ∧ qV (wc.heap[gb194]? = some (.cells #[(.slice (some ad195) l0_0.length c0_0)] 39 (0, 0))) ∧ qV (wc.heap[gb196]? = some (.cells #[.int .i64 ((zT l0_0 x3_1).f0), (.slice A195_1 ((zT l0_0 x3_1).f1).length c195_1)] 85 (0, 0))) ∧ qV (Below w.heap.size w wc))
      case first =>
       have H := HC9.out
       clear HC9
       replace H := Option.bind_eq_some_iff.mp H
       obtain ⟨t197, A140, H⟩ := H
       try dsimp only at H
       have A14 := qV.mk A140
       clear A140
       by_cases c15 : t197 = true
       ·subst c15
        rw [if_pos rfl] at H
        have H' := qV.mk H
        clear H
        have hnb16 := NB196_194.out
        have hnc16 := NB194_196.out
        have hcz17_0 : w11.cell? ⟨gb196, 0, none⟩ = some (.int .i64 0) := (qJ BK196.out 0).trans rfl
        have hcz17_1 : w11.cell? ⟨gb196, 1, none⟩ = some (.slice none 0 0) := (qJ BK196.out 1).trans rfl
        have hfz17_0 := qK BK196.out 0
        have hfz17_1 := qK BK196.out 1
        go_wp2_with (first | ((with_reducible refine gate_callee (f := 65) rfl ?_); refine qW (some 24) rfl rfl Tryd.func65 (by kernel_rfl) rfl #[.int .i64 ((zT l0_0 x3_1).f0)] rfl (by (try simp only [List.map_toArray, List.map_cons, List.map_nil]); first | done | rfl) ?_; (with_reducible refine (spec_l1IsDType.calls ((zT l0_0 x3_1).f0) true _ A14.out).mono ?_); rintro e w' ⟨rfl, ⟨nd, rfl⟩⟩; refine ⟨_, rfl, ?_⟩))
        go_meet
        case rel => exact ⟨_, (decide ((((zT l0_0 x3_1).f1).length : Int) > 4096)), (by first | rfl | (simp; done) | (simp [*]; done)), H', ⟨by have := HK1.out; first | omega | exact Nat.le_refl _⟩, ⟨by (with_reducible repeat (first | refine qH ?_ _ | refine qI ?_ | refine qG ?_ _)); refine jO ?_ NB194_196.out _; (with_reducible repeat (first | refine qH ?_ _ | refine qI ?_ | refine qG ?_ _)); refine jO ?_ NB194_196.out _; (with_reducible repeat (first | refine qH ?_ _ | refine qI ?_ | refine qG ?_ _)); exact BK194.out⟩, ⟨by (with_reducible repeat (first | refine qH ?_ _ | refine qI ?_ | refine qG ?_ _)); refine jQ (cs := #[.int .i64 ((zT l0_0 x3_1).f0), .slice none 0 0]) ?_ 1 _ rfl; (with_reducible repeat (first | refine qH ?_ _ | refine qI ?_ | refine qG ?_ _)); refine jQ (cs := #[.int .i64 0, .slice none 0 0]) ?_ 0 _ rfl; (with_reducible repeat (first | refine qH ?_ _ | refine qI ?_ | refine qG ?_ _)); exact BK196.out⟩, ⟨by repeat (first | (with_reducible first | exact HB.out | apply qA | apply qB | apply qC | refine qD ?_ GE194.out | refine qD ?_ GE196.out) | exact HB.out)⟩⟩
       ·replace c15 := Bool.eq_false_iff.mpr c15
        subst c15
        rw [if_neg (show ¬ (false = true) by decide)] at H
        have H' := qV.mk H
        clear H
        have hnb18 := NB196_194.out
        have hnc18 := NB194_196.out
        have hcz19_0 : w11.cell? ⟨gb196, 0, none⟩ = some (.int .i64 0) := (qJ BK196.out 0).trans rfl
        have hcz19_1 : w11.cell? ⟨gb196, 1, none⟩ = some (.slice none 0 0) := (qJ BK196.out 1).trans rfl
        have hfz19_0 := qK BK196.out 0
        have hfz19_1 := qK BK196.out 1
        go_wp2_with (first | ((with_reducible refine gate_callee (f := 65) rfl ?_); refine qW (some 24) rfl rfl Tryd.func65 (by kernel_rfl) rfl #[.int .i64 ((zT l0_0 x3_1).f0)] rfl (by (try simp only [List.map_toArray, List.map_cons, List.map_nil]); first | done | rfl) ?_; (with_reducible refine (spec_l1IsDType.calls ((zT l0_0 x3_1).f0) false _ A14.out).mono ?_); rintro e w' ⟨rfl, ⟨nd, rfl⟩⟩; refine ⟨_, rfl, ?_⟩))
        go_meet
        case rel => exact ⟨_, (true), (by first | rfl | (simp; done) | (simp [*]; done)), H', ⟨by have := HK1.out; first | omega | exact Nat.le_refl _⟩, ⟨by (with_reducible repeat (first | refine qH ?_ _ | refine qI ?_ | refine qG ?_ _)); refine jO ?_ NB194_196.out _; (with_reducible repeat (first | refine qH ?_ _ | refine qI ?_ | refine qG ?_ _)); refine jO ?_ NB194_196.out _; (with_reducible repeat (first | refine qH ?_ _ | refine qI ?_ | refine qG ?_ _)); exact BK194.out⟩, ⟨by (with_reducible repeat (first | refine qH ?_ _ | refine qI ?_ | refine qG ?_ _)); refine jQ (cs := #[.int .i64 ((zT l0_0 x3_1).f0), .slice none 0 0]) ?_ 1 _ rfl; (with_reducible repeat (first | refine qH ?_ _ | refine qI ?_ | refine qG ?_ _)); refine jQ (cs := #[.int .i64 0, .slice none 0 0]) ?_ 0 _ rfl; (with_reducible repeat (first | refine qH ?_ _ | refine qI ?_ | refine qG ?_ _)); exact BK196.out⟩, ⟨by repeat (first | (with_reducible first | exact HB.out | apply qA | apply qB | apply qC | refine qD ?_ GE194.out | refine qD ?_ GE196.out) | exact HB.out)⟩⟩
      case rest =>
       clear HC9
       try clear c1
       try clear p1
       try clear q1
       try clear hx1
       try clear c2
       try clear c2b0
       try clear c2b1
       try clear p2
       try clear c6
       try clear c7
       try clear c7b0
       try clear c8
       try clear c8b0
       try clear c12
       try clear c15
       try clear c16
       try clear c18
       try clear c19
       try clear p19
       try clear q19
       try clear hx19
       try clear hcz10_0
       try clear hcz13_0
       try clear hcz13_1
       try clear hcz17_0
       try clear hcz17_1
       try clear hcz19_0
       try clear hcz19_1
       try clear hcz4_0
       try clear hcz6_0
       try clear hfz10_0
       try clear hfz13_0
       try clear hfz13_1
       try clear hfz17_0
       try clear hfz17_1
       try clear hfz19_0
       try clear hfz19_1
       try clear hfz4_0
       try clear hfz6_0
       try clear hx195_0
       try clear hx195_1
       try clear p195
       try clear p2
       try clear q195
       obtain ⟨kq, x31_8, rfl, HA, HJ8, BK194, BK196, HB⟩ := hcut
       cases kq with
       | zero => exact absurd HA.out (by simp [zV.j1])
       | succ kj8 =>
        have H := HA.out
        clear HA
        simp only [zV.j1] at H
        by_cases c20 : x31_8 = true
        ·subst c20
         rw [if_pos rfl] at H
         obtain rfl := Option.some.inj H
         go_wp2
         go_ret
         exact ⟨by first | rfl | (simp [zS, zR] <;> rfl) | (simp [*, zS, zR] <;> rfl), by repeat (first | (with_reducible first | exact HB.out | apply qA | apply qB | apply qC | refine qD ?_ GE194.out | refine qD ?_ GE196.out) | exact HB.out)⟩
        ·replace c20 := Bool.eq_false_iff.mpr c20
         subst c20
         rw [if_neg (show ¬ (false = true) by decide)] at H
         have H' := qV.mk H
         clear H
         go_wp2
         go_loopg [5] kj8 (fun kq v5 w' => ∃ (x5_3 : Int), v5 = .int .i64 x5_3 ∧ qV (zV.l1 kq x3_1 x5_3 l0_0 ((zT l0_0 x3_1).f0) ((zT l0_0 x3_1).f1) = some r) ∧ qV (kq ≤ kj8) ∧ qV (w'.heap[gb194]? = some (.cells #[(.slice (some ad195) l0_0.length c0_0)] 39 (0, 0))) ∧ qV (w'.heap[gb196]? = some (.cells #[.int .i64 ((zT l0_0 x3_1).f0), (.slice A195_1 ((zT l0_0 x3_1).f1).length c195_1)] 85 (0, 0))) ∧ qV (Below w.heap.size w w'))
         case atStart => exact ⟨(0), (by first | rfl | (simp; done) | (simp [*]; done)), H', ⟨Nat.le_refl _⟩, ⟨by (with_reducible repeat (first | refine qH ?_ _ | refine qI ?_ | refine qG ?_ _)); exact BK194.out⟩, ⟨by (with_reducible repeat (first | refine qH ?_ _ | refine qI ?_ | refine qG ?_ _)); exact BK196.out⟩, ⟨by repeat (first | (with_reducible first | exact HB.out | apply qA | apply qB | apply qC | refine qD ?_ GE194.out | refine qD ?_ GE196.out) | exact HB.out)⟩⟩
         case round =>
          clear H'
          try clear c1
          try clear p1
          try clear q1
          try clear hx1
          try clear c2
          try clear c2b0
          try clear c2b1
          try clear p2
          try clear c6
          try clear c7
          try clear c7b0
          try clear c8
          try clear c8b0
          try clear c12
          try clear c15
          try clear c16
          try clear c18
          try clear c19
          try clear p19
          try clear q19
          try clear hx19
          try clear c20
          try clear hcz10_0
          try clear hcz13_0
          try clear hcz13_1
          try clear hcz17_0
          try clear hcz17_1
          try clear hcz19_0
          try clear hcz19_1
          try clear hcz4_0
          try clear hcz6_0
          try clear hfz10_0
          try clear hfz13_0
          try clear hfz13_1
          try clear hfz17_0
          try clear hfz17_1
          try clear hfz19_0
          try clear hfz19_1
          try clear hfz4_0
          try clear hfz6_0
          try clear hx195_0
          try clear hx195_1
          try clear p1
          try clear p19
          try clear p195
          try clear p2
          try clear q1
          try clear q19
          try clear q195
          obtain ⟨x5_3, rfl, HA, HK3, BK194, BK196, HB⟩ := hrel
          cases gk with
          | zero => exact absurd HA.out (by simp [zV.l1])
          | succ k3 =>
           have H := HA.out
           clear HA
           simp only [zV.l1] at H
           by_cases c21 : x5_3 < (((zT l0_0 x3_1).f1).length : Int)
           ·rw [if_pos c21] at H
            have c21b0 : decide (x5_3 < (((zT l0_0 x3_1).f1).length : Int)) = true := decide_eq_true c21
            clear c21
            by_cases c22 : 0 ≤ x5_3
            ·rw [if_pos c22] at H
             have c22b0 : decide (0 ≤ x5_3) = true := decide_eq_true c22
             clear c22
             replace H := Option.bind_eq_some_iff.mp H
             obtain ⟨t199, A230, H⟩ := H
             try dsimp only at H
             have A23 := qV.mk A230
             clear A230
             by_cases c24 : t199 = true
             ·subst c24
              rw [if_pos rfl] at H
              have H' := qV.mk H
              clear H
              have hnb25 := NB196_194.out
              have hnc25 := NB194_196.out
              have hcz26_0 : wr.cell? ⟨gb196, 0, none⟩ = some (.int .i64 ((zT l0_0 x3_1).f0)) := (qJ BK196.out 0).trans rfl
              have hcz26_1 : wr.cell? ⟨gb196, 1, none⟩ = some (.slice A195_1 ((zT l0_0 x3_1).f1).length c195_1) := (qJ BK196.out 1).trans rfl
              have hfz26_0 := qK BK196.out 0
              have hfz26_1 := qK BK196.out 1
              try go_wp2
              have n0_ := qV.mk (qI BK194.out)
              have n1_ := qV.mk (qI BK196.out)
              have n2_ := qV.mk (qC HB.out)
              clear BK194 BK196 HB
              have BK194 := n0_
              have BK196 := n1_
              have HB := n2_
              clear n0_ n1_ n2_
              have p198 : 0 ≤ (x5_3 : Int) := of_decide_eq_true (by assumption)
              have q198 : x5_3 < (((zT l0_0 x3_1).f1).length : Int) := of_decide_eq_true (by assumption)
              obtain ⟨ad198, e198, hx198_0, hx198_1, hx198_2⟩ := at_T27 HR195_1.out x5_3 p198 q198
              have hw198_2 := hx198_2
              have hw198_1 := hx198_1
              have hw198_0 := hx198_0
              cases e198
              replace hx198_0 := (HB.out.cell (World.block_lt_of_cell? w _ hx198_0)).trans hx198_0
              replace hx198_1 := (HB.out.cell (World.block_lt_of_cell? w _ hx198_1)).trans hx198_1
              replace hx198_2 := (HB.out.cell (World.block_lt_of_cell? w _ hx198_2)).trans hx198_2
              replace p198 := eq_true p198
              replace q198 := eq_true q198
              refine start_ (n := 9) (S := fun w' => w'.cell? ⟨gb196, 0, none⟩ = some (.int .i64 ((zT l0_0 x3_1).f0)) ∧ w'.cell? ⟨gb196, 1, none⟩ = some (.slice (some ad198) ((zT l0_0 x3_1).f1).length c195_1) ∧ w'.cell? (ad198.add ((x5_3).toNat * 3)) = some (.int .i64 ((zU ((zT l0_0 x3_1).f1) x5_3).f0)) ∧ w'.cell? ⟨(ad198.add ((x5_3).toNat * 3)).block, (ad198.add ((x5_3).toNat * 3)).off + 1, none⟩ = some (.float .f64 (Int.toNat ((zU ((zT l0_0 x3_1).f1) x5_3).f1))) ∧ w'.cell? ⟨(ad198.add ((x5_3).toNat * 3)).block, (ad198.add ((x5_3).toNat * 3)).off + 2, none⟩ = some (.float .f64 (Int.toNat ((zU ((zT l0_0 x3_1).f1) x5_3).f2)))) (ds := []) #[false, false, false, false, false, false, false, false, false] (by kernel_rfl) rfl rfl ⟨(qJ BK196.out 0).trans rfl, (qJ BK196.out 1).trans rfl, ((HB.out.cell (World.block_lt_of_cell? w _ hw198_0)).trans hw198_0), ((HB.out.cell (World.block_lt_of_cell? w _ hw198_1)).trans hw198_1), ((HB.out.cell (World.block_lt_of_cell? w _ hw198_2)).trans hw198_2)⟩ (fun hHeld => ?_); refine with_tabW zV.tab12 zV.bits12 (fun HT_ HW_ => ?_)
              generalize wr.drew = w27 at BK194 BK196 HB hx198_0 hx198_1 hx198_2 hHeld ⊢
              refine pure_ (i := 0) (N := some 39) (v := ?_) (a' := ?_) #[true, false, false, false, false, false, false, false, false] rfl rfl (any_of HT_.out (by kernel_rfl)) (fun _ _ _ h => h) (Or.inl ⟨by rfl, ?_⟩) ?_ ?_
              rotate_left
              ·intro w'
               go_simp
               with_reducible rfl
              rotate_left
              ·simp only [Act.put, List.setIfInBounds_toArray, List.set_cons_zero, List.set_cons_succ, i64_w, i32_w]
               rfl
              refine pure_ (i := 2) (N := some 41) (v := ?_) (a' := ?_) #[true, false, true, false, false, false, false, false, false] rfl rfl (any_of HT_.out (by kernel_rfl)) (fun _ _ _ h => h) (Or.inl ⟨by rfl, ?_⟩) ?_ ?_
              rotate_left
              ·intro w'
               go_simp
               with_reducible rfl
              rotate_left
              ·simp only [Act.put, List.setIfInBounds_toArray, List.set_cons_zero, List.set_cons_succ, i64_w, i32_w]
               rfl
              refine pure_ (i := 4) (N := some 43) (v := ?_) (a' := ?_) #[true, false, true, false, true, false, false, false, false] rfl rfl (any_of HT_.out (by kernel_rfl)) (fun _ _ _ h => h) (Or.inl ⟨by rfl, ?_⟩) ?_ ?_
              rotate_left
              ·intro w'
               go_simp
               with_reducible rfl
              rotate_left
              ·simp only [Act.put, List.setIfInBounds_toArray, List.set_cons_zero, List.set_cons_succ, i64_w, i32_w]
               rfl
              refine take_ (i := 1) (N := some 40) (v := ?_) (a' := ?_) #[true, true, true, false, true, false, false, false, false] rfl rfl (take_ofW HT_.out HW_.out (by kernel_rfl)) (fun _ _ _ h => h) (Or.inl ⟨by rfl, ?_⟩) hHeld ?_ ?_
              rotate_left
              ·rintro w' ⟨s0, s1, s2, s3, s4⟩
               go_simp
               with_reducible rfl
              rotate_left
              ·simp only [Act.put, List.setIfInBounds_toArray, List.set_cons_zero, List.set_cons_succ, i64_w, i32_w]
               rfl
              refine take_ (i := 3) (N := some 42) (v := ?_) (a' := ?_) #[true, true, true, true, true, false, false, false, false] rfl rfl (take_ofW HT_.out HW_.out (by kernel_rfl)) (fun _ _ _ h => h) (Or.inl ⟨by rfl, ?_⟩) hHeld ?_ ?_
              rotate_left
              ·rintro w' ⟨s0, s1, s2, s3, s4⟩
               go_simp
               with_reducible rfl
              rotate_left
              ·simp only [Act.put, List.setIfInBounds_toArray, List.set_cons_zero, List.set_cons_succ, i64_w, i32_w]
               rfl
              refine pure_ (i := 5) (N := some 44) (v := ?_) (a' := ?_) #[true, true, true, true, true, true, false, false, false] rfl rfl (any_of HT_.out (by kernel_rfl)) (fun _ _ _ h => h) (Or.inl ⟨by rfl, ?_⟩) ?_ ?_
              rotate_left
              ·intro w'
               go_simp
               with_reducible rfl
              rotate_left
              ·simp only [Act.put, List.setIfInBounds_toArray, List.set_cons_zero, List.set_cons_succ, i64_w, i32_w]
               rfl
              refine take_ (i := 6) (N := some 45) (v := ?_) (a' := ?_) #[true, true, true, true, true, true, true, false, false] rfl rfl (take_ofW HT_.out HW_.out (by kernel_rfl)) (fun _ _ _ h => h) (Or.inl ⟨by rfl, ?_⟩) hHeld ?_ ?_
              rotate_left
              ·rintro w' ⟨s0, s1, s2, s3, s4⟩
               go_simp
               with_reducible rfl
              rotate_left
              ·simp only [Act.put, List.setIfInBounds_toArray, List.set_cons_zero, List.set_cons_succ, i64_w, i32_w]
               rfl
              refine one_ (i := 7) (N := some 46) #[true, true, true, true, true, true, true, true, false] rfl rfl (one_of HT_.out (by kernel_rfl)) (by decide) (fun K hK => ?_)
              refine goes_ Tryd.func17 (by kernel_rfl) rfl #[.int .i64 ((zT l0_0 x3_1).f0), .agg #[.int .i64 ((zU ((zT l0_0 x3_1).f1) x5_3).f0), .float .f64 (Int.toNat ((zU ((zT l0_0 x3_1).f1) x5_3).f1)), .float .f64 (Int.toNat ((zU ((zT l0_0 x3_1).f1) x5_3).f2))]] (by rfl) rfl rfl (by (try simp only [List.map_toArray, List.map_cons, List.map_nil]); first | done | rfl) ?_
              with_reducible refine (zQ.calls ((zT l0_0 x3_1).f0) ((zU ((zT l0_0 x3_1).f1) x5_3).f0) ((zU ((zT l0_0 x3_1).f1) x5_3).f1) ((zU ((zT l0_0 x3_1).f1) x5_3).f2) true _ A23.out).mono ?_
              rintro e w28 ⟨rfl, hb⟩
              refine ⟨_, rfl, ?_⟩
              have n0_ := qV.mk (qL (g := gb194) (o := .cells #[.slice (some ad195) l0_0.length c0_0] 39 (0, 0)) (by (with_reducible repeat (first | refine qH ?_ _ | refine qI ?_ | refine qG ?_ _)); exact BK194.out) hb)
              have n1_ := qV.mk (qL (g := gb196) (o := .cells #[.int .i64 ((zT l0_0 x3_1).f0), .slice (some ad198) ((zT l0_0 x3_1).f1).length c195_1] 85 (0, 0)) (by (with_reducible repeat (first | refine qH ?_ _ | refine qI ?_ | refine qG ?_ _)); exact BK196.out) hb)
              have n2_ := qV.mk (qE (by repeat (first | (with_reducible first | exact HB.out | apply qA | apply qB | apply qC | refine qD ?_ GE194.out | refine qD ?_ GE196.out) | exact HB.out)) hb)
              clear BK194 BK196 HB
              have BK194 := n0_
              have BK196 := n1_
              have HB := n2_
              clear n0_ n1_ n2_
              (try clear hb)
              (try clear hb2)
              (try clear hk)
              (try clear hi)
              refine hK.out _ _ ⟨(qJ BK196.out 0).trans rfl, (qJ BK196.out 1).trans rfl, ((HB.out.cell (World.block_lt_of_cell? w _ hw198_0)).trans hw198_0), ((HB.out.cell (World.block_lt_of_cell? w _ hw198_1)).trans hw198_1), ((HB.out.cell (World.block_lt_of_cell? w _ hw198_2)).trans hw198_2)⟩ (fun hHeld => ?_)
              clear hK K
              refine norm_ (a' := ?_) ?_ ?_
              rotate_left
              ·show Act.put _ (some 46) _ = _
               simp only [Act.put, List.setIfInBounds_toArray, List.set_cons_zero, List.set_cons_succ, i64_w, i32_w]
               rfl
              refine pure_ (i := 8) (N := some 47) (v := ?_) (a' := ?_) #[true, true, true, true, true, true, true, true, true] rfl rfl (any_of HT_.out (by kernel_rfl)) (fun _ _ _ h => h) (Or.inl ⟨by rfl, ?_⟩) ?_ ?_
              rotate_left
              ·intro w'
               go_simp
               with_reducible rfl
              rotate_left
              ·simp only [Act.put, List.setIfInBounds_toArray, List.set_cons_zero, List.set_cons_succ, i64_w, i32_w]
               rfl
              refine done_ (done_of HT_.out (by kernel_rfl)) ?_
              try go_wp2
              go_roundg k3
              case measure => have := HK1.out; have := HJ8.out; have := HK3.out; omega
              case rel => exact ⟨(wrap64 (x5_3 + 1)), (by first | rfl | (simp; done) | (simp [*]; done)), H', ⟨by have := HK1.out; have := HJ8.out; have := HK3.out; omega⟩, ⟨by (with_reducible repeat (first | refine qH ?_ _ | refine qI ?_ | refine qG ?_ _)); exact BK194.out⟩, ⟨by (with_reducible repeat (first | refine qH ?_ _ | refine qI ?_ | refine qG ?_ _)); exact BK196.out⟩, ⟨by repeat (first | (with_reducible first | exact HB.out | apply qA | apply qB | apply qC | refine qD ?_ GE194.out | refine qD ?_ GE196.out) | exact HB.out)⟩⟩
             ·replace c24 := Bool.eq_false_iff.mpr c24
              subst c24
              rw [if_neg (show ¬ (false = true) by decide)] at H
              obtain rfl := Option.some.inj H
              have hnb29 := NB196_194.out
              have hnc29 := NB194_196.out
              have hcz30_0 : wr.cell? ⟨gb196, 0, none⟩ = some (.int .i64 ((zT l0_0 x3_1).f0)) := (qJ BK196.out 0).trans rfl
              have hcz30_1 : wr.cell? ⟨gb196, 1, none⟩ = some (.slice A195_1 ((zT l0_0 x3_1).f1).length c195_1) := (qJ BK196.out 1).trans rfl
              have hfz30_0 := qK BK196.out 0
              have hfz30_1 := qK BK196.out 1
              try go_wp2
              have n0_ := qV.mk (qI BK194.out)
              have n1_ := qV.mk (qI BK196.out)
              have n2_ := qV.mk (qC HB.out)
              clear BK194 BK196 HB
              have BK194 := n0_
              have BK196 := n1_
              have HB := n2_
              clear n0_ n1_ n2_
              have p198 : 0 ≤ (x5_3 : Int) := of_decide_eq_true (by assumption)
              have q198 : x5_3 < (((zT l0_0 x3_1).f1).length : Int) := of_decide_eq_true (by assumption)
              obtain ⟨ad198, e198, hx198_0, hx198_1, hx198_2⟩ := at_T27 HR195_1.out x5_3 p198 q198
              have hw198_2 := hx198_2
              have hw198_1 := hx198_1
              have hw198_0 := hx198_0
              cases e198
              replace hx198_0 := (HB.out.cell (World.block_lt_of_cell? w _ hx198_0)).trans hx198_0
              replace hx198_1 := (HB.out.cell (World.block_lt_of_cell? w _ hx198_1)).trans hx198_1
              replace hx198_2 := (HB.out.cell (World.block_lt_of_cell? w _ hx198_2)).trans hx198_2
              replace p198 := eq_true p198
              replace q198 := eq_true q198
              refine start_ (n := 9) (S := fun w' => w'.cell? ⟨gb196, 0, none⟩ = some (.int .i64 ((zT l0_0 x3_1).f0)) ∧ w'.cell? ⟨gb196, 1, none⟩ = some (.slice (some ad198) ((zT l0_0 x3_1).f1).length c195_1) ∧ w'.cell? (ad198.add ((x5_3).toNat * 3)) = some (.int .i64 ((zU ((zT l0_0 x3_1).f1) x5_3).f0)) ∧ w'.cell? ⟨(ad198.add ((x5_3).toNat * 3)).block, (ad198.add ((x5_3).toNat * 3)).off + 1, none⟩ = some (.float .f64 (Int.toNat ((zU ((zT l0_0 x3_1).f1) x5_3).f1))) ∧ w'.cell? ⟨(ad198.add ((x5_3).toNat * 3)).block, (ad198.add ((x5_3).toNat * 3)).off + 2, none⟩ = some (.float .f64 (Int.toNat ((zU ((zT l0_0 x3_1).f1) x5_3).f2)))) (ds := []) #[false, false, false, false, false, false, false, false, false] (by kernel_rfl) rfl rfl ⟨(qJ BK196.out 0).trans rfl, (qJ BK196.out 1).trans rfl, ((HB.out.cell (World.block_lt_of_cell? w _ hw198_0)).trans hw198_0), ((HB.out.cell (World.block_lt_of_cell? w _ hw198_1)).trans hw198_1), ((HB.out.cell (World.block_lt_of_cell? w _ hw198_2)).trans hw198_2)⟩ (fun hHeld => ?_); refine with_tabW zV.tab12 zV.bits12 (fun HT_ HW_ => ?_)
              generalize wr.drew = w31 at BK194 BK196 HB hx198_0 hx198_1 hx198_2 hHeld ⊢
              refine pure_ (i := 0) (N := some 39) (v := ?_) (a' := ?_) #[true, false, false, false, false, false, false, false, false] rfl rfl (any_of HT_.out (by kernel_rfl)) (fun _ _ _ h => h) (Or.inl ⟨by rfl, ?_⟩) ?_ ?_
              rotate_left
              ·intro w'
               go_simp
               with_reducible rfl
              rotate_left
              ·simp only [Act.put, List.setIfInBounds_toArray, List.set_cons_zero, List.set_cons_succ, i64_w, i32_w]
               rfl
              refine pure_ (i := 2) (N := some 41) (v := ?_) (a' := ?_) #[true, false, true, false, false, false, false, false, false] rfl rfl (any_of HT_.out (by kernel_rfl)) (fun _ _ _ h => h) (Or.inl ⟨by rfl, ?_⟩) ?_ ?_
              rotate_left
              ·intro w'
               go_simp
               with_reducible rfl
              rotate_left
              ·simp only [Act.put, List.setIfInBounds_toArray, List.set_cons_zero, List.set_cons_succ, i64_w, i32_w]
               rfl
              refine pure_ (i := 4) (N := some 43) (v := ?_) (a' := ?_) #[true, false, true, false, true, false, false, false, false] rfl rfl (any_of HT_.out (by kernel_rfl)) (fun _ _ _ h => h) (Or.inl ⟨by rfl, ?_⟩) ?_ ?_
              rotate_left
              ·intro w'
               go_simp
               with_reducible rfl
              rotate_left
              ·simp only [Act.put, List.setIfInBounds_toArray, List.set_cons_zero, List.set_cons_succ, i64_w, i32_w]
               rfl
              refine take_ (i := 1) (N := some 40) (v := ?_) (a' := ?_) #[true, true, true, false, true, false, false, false, false] rfl rfl (take_ofW HT_.out HW_.out (by kernel_rfl)) (fun _ _ _ h => h) (Or.inl ⟨by rfl, ?_⟩) hHeld ?_ ?_
              rotate_left
              ·rintro w' ⟨s0, s1, s2, s3, s4⟩
               go_simp
               with_reducible rfl
              rotate_left
              ·simp only [Act.put, List.setIfInBounds_toArray, List.set_cons_zero, List.set_cons_succ, i64_w, i32_w]
               rfl
              refine take_ (i := 3) (N := some 42) (v := ?_) (a' := ?_) #[true, true, true, true, true, false, false, false, false] rfl rfl (take_ofW HT_.out HW_.out (by kernel_rfl)) (fun _ _ _ h => h) (Or.inl ⟨by rfl, ?_⟩) hHeld ?_ ?_
              rotate_left
              ·rintro w' ⟨s0, s1, s2, s3, s4⟩
               go_simp
               with_reducible rfl
              rotate_left
              ·simp only [Act.put, List.setIfInBounds_toArray, List.set_cons_zero, List.set_cons_succ, i64_w, i32_w]
               rfl
              refine pure_ (i := 5) (N := some 44) (v := ?_) (a' := ?_) #[true, true, true, true, true, true, false, false, false] rfl rfl (any_of HT_.out (by kernel_rfl)) (fun _ _ _ h => h) (Or.inl ⟨by rfl, ?_⟩) ?_ ?_
              rotate_left
              ·intro w'
               go_simp
               with_reducible rfl
              rotate_left
              ·simp only [Act.put, List.setIfInBounds_toArray, List.set_cons_zero, List.set_cons_succ, i64_w, i32_w]
               rfl
              refine take_ (i := 6) (N := some 45) (v := ?_) (a' := ?_) #[true, true, true, true, true, true, true, false, false] rfl rfl (take_ofW HT_.out HW_.out (by kernel_rfl)) (fun _ _ _ h => h) (Or.inl ⟨by rfl, ?_⟩) hHeld ?_ ?_
              rotate_left
              ·rintro w' ⟨s0, s1, s2, s3, s4⟩
               go_simp
               with_reducible rfl
              rotate_left
              ·simp only [Act.put, List.setIfInBounds_toArray, List.set_cons_zero, List.set_cons_succ, i64_w, i32_w]
               rfl
              refine one_ (i := 7) (N := some 46) #[true, true, true, true, true, true, true, true, false] rfl rfl (one_of HT_.out (by kernel_rfl)) (by decide) (fun K hK => ?_)
              refine goes_ Tryd.func17 (by kernel_rfl) rfl #[.int .i64 ((zT l0_0 x3_1).f0), .agg #[.int .i64 ((zU ((zT l0_0 x3_1).f1) x5_3).f0), .float .f64 (Int.toNat ((zU ((zT l0_0 x3_1).f1) x5_3).f1)), .float .f64 (Int.toNat ((zU ((zT l0_0 x3_1).f1) x5_3).f2))]] (by rfl) rfl rfl (by (try simp only [List.map_toArray, List.map_cons, List.map_nil]); first | done | rfl) ?_
              with_reducible refine (zQ.calls ((zT l0_0 x3_1).f0) ((zU ((zT l0_0 x3_1).f1) x5_3).f0) ((zU ((zT l0_0 x3_1).f1) x5_3).f1) ((zU ((zT l0_0 x3_1).f1) x5_3).f2) false _ A23.out).mono ?_
              rintro e w32 ⟨rfl, hb⟩
              refine ⟨_, rfl, ?_⟩
              have n0_ := qV.mk (qL (g := gb194) (o := .cells #[.slice (some ad195) l0_0.length c0_0] 39 (0, 0)) (by (with_reducible repeat (first | refine qH ?_ _ | refine qI ?_ | refine qG ?_ _)); exact BK194.out) hb)
              have n1_ := qV.mk (qL (g := gb196) (o := .cells #[.int .i64 ((zT l0_0 x3_1).f0), .slice (some ad198) ((zT l0_0 x3_1).f1).length c195_1] 85 (0, 0)) (by (with_reducible repeat (first | refine qH ?_ _ | refine qI ?_ | refine qG ?_ _)); exact BK196.out) hb)
              have n2_ := qV.mk (qE (by repeat (first | (with_reducible first | exact HB.out | apply qA | apply qB | apply qC | refine qD ?_ GE194.out | refine qD ?_ GE196.out) | exact HB.out)) hb)
              clear BK194 BK196 HB
              have BK194 := n0_
              have BK196 := n1_
              have HB := n2_
              clear n0_ n1_ n2_
              (try clear hb)
              (try clear hb2)
              (try clear hk)
              (try clear hi)
              refine hK.out _ _ ⟨(qJ BK196.out 0).trans rfl, (qJ BK196.out 1).trans rfl, ((HB.out.cell (World.block_lt_of_cell? w _ hw198_0)).trans hw198_0), ((HB.out.cell (World.block_lt_of_cell? w _ hw198_1)).trans hw198_1), ((HB.out.cell (World.block_lt_of_cell? w _ hw198_2)).trans hw198_2)⟩ (fun hHeld => ?_)
              clear hK K
              refine norm_ (a' := ?_) ?_ ?_
              rotate_left
              ·show Act.put _ (some 46) _ = _
               simp only [Act.put, List.setIfInBounds_toArray, List.set_cons_zero, List.set_cons_succ, i64_w, i32_w]
               rfl
              refine pure_ (i := 8) (N := some 47) (v := ?_) (a' := ?_) #[true, true, true, true, true, true, true, true, true] rfl rfl (any_of HT_.out (by kernel_rfl)) (fun _ _ _ h => h) (Or.inl ⟨by rfl, ?_⟩) ?_ ?_
              rotate_left
              ·intro w'
               go_simp
               with_reducible rfl
              rotate_left
              ·simp only [Act.put, List.setIfInBounds_toArray, List.set_cons_zero, List.set_cons_succ, i64_w, i32_w]
               rfl
              refine done_ (done_of HT_.out (by kernel_rfl)) ?_
              try go_wp2
              go_ret
              exact ⟨by first | rfl | (simp [zS, zR] <;> rfl) | (simp [*, zS, zR] <;> rfl), by repeat (first | (with_reducible first | exact HB.out | apply qA | apply qB | apply qC | refine qD ?_ GE194.out | refine qD ?_ GE196.out) | exact HB.out)⟩
            ·rw [if_neg c22] at H
             exact absurd H (by simp)
           ·rw [if_neg c21] at H
            have c21b0 : decide (x5_3 < (((zT l0_0 x3_1).f1).length : Int)) = false := decide_eq_false c21
            clear c21
            have H' := qV.mk H
            clear H
            have hnb33 := NB196_194.out
            have hnc33 := NB194_196.out
            have hcz34_0 : wr.cell? ⟨gb196, 0, none⟩ = some (.int .i64 ((zT l0_0 x3_1).f0)) := (qJ BK196.out 0).trans rfl
            have hcz34_1 : wr.cell? ⟨gb196, 1, none⟩ = some (.slice A195_1 ((zT l0_0 x3_1).f1).length c195_1) := (qJ BK196.out 1).trans rfl
            have hfz34_0 := qK BK196.out 0
            have hfz34_1 := qK BK196.out 1
            go_wp2
            go_roundg k3
            case measure => have := HK1.out; have := HJ8.out; have := HK3.out; omega
            case rel => exact ⟨(wrap64 (x3_1 + 1)), (by first | rfl | (simp; done) | (simp [*]; done)), H', ⟨by have := HK1.out; have := HJ8.out; have := HK3.out; omega⟩, ⟨by (with_reducible repeat (first | refine qH ?_ _ | refine qI ?_ | refine qG ?_ _)); exact BK194.out⟩, ⟨by repeat (first | (with_reducible first | exact HB.out | apply qA | apply qB | apply qC | refine qD ?_ GE194.out | refine qD ?_ GE196.out) | exact HB.out)⟩⟩
     ·rw [if_neg c8] at H
      exact absurd H (by simp)
    ·rw [if_neg c7] at H
     have c7b0 : decide (x3_1 < (l0_0.length : Int)) = false := decide_eq_false c7
     clear c7
     obtain rfl := Option.some.inj H
     have hcz35_0 : wr.cell? ⟨gb194, 0, none⟩ = some (.slice A0_0 l0_0.length c0_0) := (qJ BK194.out 0).trans rfl
     have hfz35_0 := qK BK194.out 0
     go_wp2
     go_ret
     exact ⟨by first | rfl | (simp [zS, zR] <;> rfl) | (simp [*, zS, zR] <;> rfl), by repeat (first | (with_reducible first | exact HB.out | apply qA | apply qB | apply qC | refine qD ?_ GE194.out) | exact HB.out)⟩

def jF.l0 : Nat → List Int → Int → Int → Option (Int)
 | 0, _, _, _ => none
 | k + 1, x0, x3, x4 => if x4 < (x0.length : Int) then (if 0 ≤ x4 then (if (rd x0 x4) < 0 then (some (-1)) else (if (rd x0 x4) > 4096 then (some (-1)) else (jF.l0 k x0 (wrap64 (x3 * (rd x0 x4))) (wrap64 (x4 + 1))))) else (none)) else (if x3 > 4096 then (some (-1)) else (some x3))
def jF.f (k : Nat) (l0 : List Int) : Option (Int) := if (l0.length : Int) > 4 then (some (-1)) else (jF.l0 k l0 1 0)
theorem jF.mono_l : ∀ k, (∀ y0 y1 y2, LeO (jF.l0 k y0 y1 y2) (jF.l0 (k + 1) y0 y1 y2))
 | 0 => fun _ _ _ r h => by simp [jF.l0] at h
 | k + 1 => by
  have ih0 := jF.mono_l k
  ·intro y0 y1 y2
   unfold jF.l0
   repeat' first
   | (with_reducible exact ih0 _ _ _)
   | (with_reducible exact LeO.refl _)
   | (with_reducible exact LeO.none _)
   | (with_reducible refine LeO.ite ?_ ?_)
   | (with_reducible refine LeO.bind ?_ (fun _ => ?_))
   | exact ih0 _ _ _
   | exact LeO.none _
   | refine LeO.ite ?_ ?_
   | refine LeO.bind ?_ (fun _ => ?_)
theorem jF.mono : ∀ a0 k, LeO (jF.f k a0) (jF.f (k + 1) a0) := by
 intro a0 k
 have ih0 := jF.mono_l k
 unfold jF.f
 repeat' first
   | (with_reducible exact ih0 _ _ _)
   | (with_reducible exact LeO.refl _)
   | (with_reducible exact LeO.none _)
   | (with_reducible refine LeO.ite ?_ ?_)
   | (with_reducible refine LeO.bind ?_ (fun _ => ?_))
   | exact ih0 _ _ _
   | exact LeO.none _
   | refine LeO.ite ?_ ?_
   | refine LeO.bind ?_ (fun _ => ?_)
set_option maxHeartbeats 8000000 in
set_option maxRecDepth 100000 in
theorem jF.calls (k : Nat) (A0 : Option Addr) (c0 : Nat) (l0 : List Int) (r : Int) (w : World) (hr0 : Kd.C (Kd.int .i64) w A0 l0.length l0) (hc0 : l0.length ≤ c0) (h : jF.f k l0 = some r) :
  Calls Tryd.prog 118 #[.slice A0 l0.length c0] w fun e w' => e = .returned (.int .i64 r) ∧ zI w w' := by
 have HR0 := qV.mk hr0
 have HC0 := qV.mk hc0
 clear hr0 hc0
 have H : (if (l0.length : Int) > 4 then (some (-1)) else (jF.l0 k l0 1 0)) = some r := h
 clear h
 by_cases c2 : (l0.length : Int) > 4
 ·rw [if_pos c2] at H
  have c2b0 : decide (4 < (l0.length : Int)) = true := decide_eq_true c2
  have c2b1 : decide (4 < l0.length) = true := decide_eq_true (by omega)
  clear c2
  obtain rfl := Option.some.inj H
  go_enter Tryd.func118, Tryd.ntmps118
  go_wp2
  go_ret
  exact ⟨by first | rfl | (simp; done) | (simp [*]; done), by repeat (first | exact zI.refl _ | apply zI.step)⟩
 ·rw [if_neg c2] at H
  have c2b0 : decide (4 < (l0.length : Int)) = false := decide_eq_false c2
  have c2b1 : decide (4 < l0.length) = false := decide_eq_false (by omega)
  clear c2
  have H' := qV.mk H
  clear H
  go_enter Tryd.func118, Tryd.ntmps118
  go_wp2
  go_loopg [3, 4] k (fun kq v3 v4 w' => ∃ (x3_1 : Int) (x4_1 : Int), v3 = .int .i64 x3_1 ∧ v4 = .int .i64 x4_1 ∧ qV (jF.l0 kq l0 x3_1 x4_1 = some r) ∧ qV (kq ≤ k) ∧ zI w w')
  case atStart => exact ⟨(1), (0), (by first | rfl | (simp; done) | (simp [*]; done)), (by first | rfl | (simp; done) | (simp [*]; done)), H', ⟨Nat.le_refl _⟩, by repeat (first | exact zI.refl _ | apply zI.step)⟩
  case round =>
   clear H'
   try clear c1
   try clear c2
   try clear c2b0
   try clear c2b1
   try clear p2
   obtain ⟨x3_1, x4_1, rfl, rfl, HA, HK1, ⟨m1, rfl⟩⟩ := hrel
   cases gk with
   | zero => exact absurd HA.out (by simp [jF.l0])
   | succ k1 =>
    have H := HA.out
    clear HA
    simp only [jF.l0] at H
    by_cases c3 : x4_1 < (l0.length : Int)
    ·rw [if_pos c3] at H
     have c3b0 : decide (x4_1 < (l0.length : Int)) = true := decide_eq_true c3
     clear c3
     by_cases c4 : 0 ≤ x4_1
     ·rw [if_pos c4] at H
      have c4b0 : decide (0 ≤ x4_1) = true := decide_eq_true c4
      clear c4
      by_cases c5 : (rd l0 x4_1) < 0
      ·rw [if_pos c5] at H
       have c5b0 : decide ((rd l0 x4_1) < 0) = true := decide_eq_true c5
       clear c5
       obtain rfl := Option.some.inj H
       have p200 : 0 ≤ (x4_1 : Int) := of_decide_eq_true (by assumption)
       have q200 : x4_1 < (l0.length : Int) := of_decide_eq_true (by assumption)
       obtain ⟨ad200, e200, hx200_0⟩ := Kd.at_int HR0.out x4_1 p200 q200
       cases e200
       replace p200 := eq_true p200
       replace q200 := eq_true q200
       go_wp2
       go_ret
       exact ⟨by first | rfl | (simp; done) | (simp [*]; done), by repeat (first | exact zI.refl _ | apply zI.step)⟩
      ·rw [if_neg c5] at H
       have c5b0 : decide ((rd l0 x4_1) < 0) = false := decide_eq_false c5
       clear c5
       by_cases c6 : (rd l0 x4_1) > 4096
       ·rw [if_pos c6] at H
        have c6b0 : decide (4096 < (rd l0 x4_1)) = true := decide_eq_true c6
        clear c6
        obtain rfl := Option.some.inj H
        have p200 : 0 ≤ (x4_1 : Int) := of_decide_eq_true (by assumption)
        have q200 : x4_1 < (l0.length : Int) := of_decide_eq_true (by assumption)
        obtain ⟨ad200, e200, hx200_0⟩ := Kd.at_int HR0.out x4_1 p200 q200
        cases e200
        replace p200 := eq_true p200
        replace q200 := eq_true q200
        have p201 : 0 ≤ (x4_1 : Int) := of_decide_eq_true (by assumption)
        have q201 : x4_1 < (l0.length : Int) := of_decide_eq_true (by assumption)
        obtain ⟨ad201, e201, hx201_0⟩ := Kd.at_int HR0.out x4_1 p201 q201
        obtain rfl : ad200 = ad201 := (by injection e201)
        replace p201 := eq_true p201
        replace q201 := eq_true q201
        go_wp2
        go_ret
        exact ⟨by first | rfl | (simp; done) | (simp [*]; done), by repeat (first | exact zI.refl _ | apply zI.step)⟩
       ·rw [if_neg c6] at H
        have c6b0 : decide (4096 < (rd l0 x4_1)) = false := decide_eq_false c6
        clear c6
        have H' := qV.mk H
        clear H
        have p200 : 0 ≤ (x4_1 : Int) := of_decide_eq_true (by assumption)
        have q200 : x4_1 < (l0.length : Int) := of_decide_eq_true (by assumption)
        obtain ⟨ad200, e200, hx200_0⟩ := Kd.at_int HR0.out x4_1 p200 q200
        cases e200
        replace p200 := eq_true p200
        replace q200 := eq_true q200
        have p201 : 0 ≤ (x4_1 : Int) := of_decide_eq_true (by assumption)
        have q201 : x4_1 < (l0.length : Int) := of_decide_eq_true (by assumption)
        obtain ⟨ad201, e201, hx201_0⟩ := Kd.at_int HR0.out x4_1 p201 q201
        obtain rfl : ad200 = ad201 := (by injection e201)
        replace p201 := eq_true p201
        replace q201 := eq_true q201
        have p202 : 0 ≤ (x4_1 : Int) := of_decide_eq_true (by assumption)
        have q202 : x4_1 < (l0.length : Int) := of_decide_eq_true (by assumption)
        obtain ⟨ad202, e202, hx202_0⟩ := Kd.at_int HR0.out x4_1 p202 q202
        obtain rfl : ad200 = ad202 := (by injection e202)
        replace p202 := eq_true p202
        replace q202 := eq_true q202
        go_wp2
        go_roundg k1
        case measure => have := HK1.out; omega
        case rel => exact ⟨(wrap64 (x3_1 * (rd l0 x4_1))), (wrap64 (x4_1 + 1)), (by first | rfl | (simp; done) | (simp [*]; done)), (by first | rfl | (simp; done) | (simp [*]; done)), H', ⟨by have := HK1.out; omega⟩, by repeat (first | exact zI.refl _ | apply zI.step)⟩
     ·rw [if_neg c4] at H
      exact absurd H (by simp)
    ·rw [if_neg c3] at H
     have c3b0 : decide (x4_1 < (l0.length : Int)) = false := decide_eq_false c3
     clear c3
     by_cases c7 : x3_1 > 4096
     ·rw [if_pos c7] at H
      have c7b0 : decide (4096 < x3_1) = true := decide_eq_true c7
      clear c7
      obtain rfl := Option.some.inj H
      go_wp2
      go_ret
      exact ⟨by first | rfl | (simp; done) | (simp [*]; done), by repeat (first | exact zI.refl _ | apply zI.step)⟩
     ·rw [if_neg c7] at H
      have c7b0 : decide (4096 < x3_1) = false := decide_eq_false c7
      clear c7
      obtain rfl := Option.some.inj H
      go_wp2
      go_ret
      exact ⟨by first | rfl | (simp; done) | (simp [*]; done), by repeat (first | exact zI.refl _ | apply zI.step)⟩

end Go.Proofs.YtpmdgmnpkdoamabDoor.DFnExactRead
