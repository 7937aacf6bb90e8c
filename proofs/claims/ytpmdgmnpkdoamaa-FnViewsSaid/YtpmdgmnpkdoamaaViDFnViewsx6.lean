/- Proved here: what the functions answer that the law on  comes to (the lines were written by a program). Conditions: those that stand ahead in each theorem. -/
import Derived.Test.YtpmdgmnpkdoamaaViWSq
import Derived.Test.YtpmdgmnpkdoamaaViDFnViewsx0
import Derived.Test.YtpmdgmnpkdoamaaViDFnViewsx1
import Derived.Test.YtpmdgmnpkdoamaaViDFnViewsx2
namespace Go.Proofs.Ytpmdgmnpkdoamaa.DFnViews
open Go.RowKit Go.Proofs.YtpmdgmnpkdoamaaW.PrintWords Go.Proofs.YtpmdgmnpkdoamaaW.PrintLast Go.Proofs.YtpmdgmnpkdoamaaW.PrintMore
attribute [local go_sem] max2_int min2_int max_two min_two max_three min_three max_four min_four   -- for this text's walks alone
set_option linter.unusedVariables false
set_option linter.unusedSimpArgs false

mutual
def spec_Broadcast.j0 : Nat → List Int → Bool → List Int → List Int → Int → Option (Int × List Int × List Int × Int)
 | 0, _, _, _, _, _ => none
 | k + 1, x1, x23, x173000, x173001, x173002 => if x23 = true then (some (6, ([] : List Int), ([] : List Int), 0)) else (spec_Broadcast.l0 k x1 (wrap64 ((x1.length : Int) - (x173000.length : Int))) 0 x173000 x173001 x173002 ([] : List Int) ([] : List Int) x173002)
def spec_Broadcast.l0 : Nat → List Int → Int → Int → List Int → List Int → Int → List Int → List Int → Int → Option (Int × List Int × List Int × Int)
 | 0, _, _, _, _, _, _, _, _, _ => none
 | k + 1, x1, x6, x7, x173000, x173001, x173002, x177000, x177001, x177002 => if x7 < (x1.length : Int) then (if x7 ≥ x6 then (if 0 ≤ (wrap64 (x7 - x6)) then (if (wrap64 (x7 - x6)) < (x173000.length : Int) then (if 0 ≤ x7 then (if (rd x173000 (wrap64 (x7 - x6))) = (rd x1 x7) then (if (wrap64 (x7 - x6)) < (x173001.length : Int) then (if x177000.length < 17592186044416 then (if x177001.length < 17592186044416 then (spec_Broadcast.l0 k x1 x6 (wrap64 (x7 + 1)) x173000 x173001 x173002 (x177000 ++ [rd x1 x7]) (x177001 ++ [rd x173001 (wrap64 (x7 - x6))]) x177002) else (none)) else (none)) else (none)) else (if (rd x173000 (wrap64 (x7 - x6))) = 1 then (if x177000.length < 17592186044416 then (if x177001.length < 17592186044416 then (spec_Broadcast.l0 k x1 x6 (wrap64 (x7 + 1)) x173000 x173001 x173002 (x177000 ++ [rd x1 x7]) (x177001 ++ [0]) x177002) else (none)) else (none)) else (some (6, ([] : List Int), ([] : List Int), 0)))) else (none)) else (none)) else (none)) else (if 0 ≤ x7 then (if x177000.length < 17592186044416 then (if x177001.length < 17592186044416 then (spec_Broadcast.l0 k x1 x6 (wrap64 (x7 + 1)) x173000 x173001 x173002 (x177000 ++ [rd x1 x7]) (x177001 ++ [0]) x177002) else (none)) else (none)) else (none))) else (some (0, x177000, x177001, x177002))
end
def spec_Broadcast.f (k : Nat) (l0_0 : List Int) (l0_1 : List Int) (a0_2 : Int) (l1 : List Int) : Option (Int × List Int × List Int × Int) := (zH.f k l0_0 l0_1 a0_2).bind fun t174 => (if t174 = true then ((zL.f k l1).bind fun t175 => (if t175 < 0 then (spec_Broadcast.j0 k l1 true l0_0 l0_1 a0_2) else (spec_Broadcast.j0 k l1 (decide ((l1.length : Int) < (l0_0.length : Int))) l0_0 l0_1 a0_2))) else (some (12, ([] : List Int), ([] : List Int), 0)))
theorem spec_Broadcast.mono_l : ∀ k, (∀ y0 y1 y2 y3 y4, LeO (spec_Broadcast.j0 k y0 y1 y2 y3 y4) (spec_Broadcast.j0 (k + 1) y0 y1 y2 y3 y4)) ∧ (∀ y0 y1 y2 y3 y4 y5 y6 y7 y8, LeO (spec_Broadcast.l0 k y0 y1 y2 y3 y4 y5 y6 y7 y8) (spec_Broadcast.l0 (k + 1) y0 y1 y2 y3 y4 y5 y6 y7 y8))
 | 0 => ⟨fun _ _ _ _ _ r h => by simp [spec_Broadcast.j0] at h, fun _ _ _ _ _ _ _ _ _ r h => by simp [spec_Broadcast.l0] at h⟩
 | k + 1 => by
  obtain ⟨ih0, ih1⟩ := spec_Broadcast.mono_l k
  refine ⟨?_, ?_⟩
  ·intro y0 y1 y2 y3 y4
   unfold spec_Broadcast.j0
   repeat' first
   | (with_reducible exact ih0 _ _ _ _ _)
   | (with_reducible exact ih1 _ _ _ _ _ _ _ _ _)
   | (with_reducible exact zH.mono _ _ _ _)
   | (with_reducible exact zL.mono _ _)
   | (with_reducible exact LeO.refl _)
   | (with_reducible exact LeO.none _)
   | (with_reducible refine LeO.ite ?_ ?_)
   | (with_reducible refine LeO.bind ?_ (fun _ => ?_))
   | exact ih0 _ _ _ _ _
   | exact ih1 _ _ _ _ _ _ _ _ _
   | exact zH.mono _ _ _ _
   | exact zL.mono _ _
   | exact LeO.none _
   | refine LeO.ite ?_ ?_
   | refine LeO.bind ?_ (fun _ => ?_)
  ·intro y0 y1 y2 y3 y4 y5 y6 y7 y8
   unfold spec_Broadcast.l0
   repeat' first
   | (with_reducible exact ih0 _ _ _ _ _)
   | (with_reducible exact ih1 _ _ _ _ _ _ _ _ _)
   | (with_reducible exact zH.mono _ _ _ _)
   | (with_reducible exact zL.mono _ _)
   | (with_reducible exact LeO.refl _)
   | (with_reducible exact LeO.none _)
   | (with_reducible refine LeO.ite ?_ ?_)
   | (with_reducible refine LeO.bind ?_ (fun _ => ?_))
   | exact ih0 _ _ _ _ _
   | exact ih1 _ _ _ _ _ _ _ _ _
   | exact zH.mono _ _ _ _
   | exact zL.mono _ _
   | exact LeO.none _
   | refine LeO.ite ?_ ?_
   | refine LeO.bind ?_ (fun _ => ?_)
theorem spec_Broadcast.mono : ∀ a0 a1 a2 a3 k, LeO (spec_Broadcast.f k a0 a1 a2 a3) (spec_Broadcast.f (k + 1) a0 a1 a2 a3) := by
 intro a0 a1 a2 a3 k
 obtain ⟨ih0, ih1⟩ := spec_Broadcast.mono_l k
 unfold spec_Broadcast.f
 repeat' first
   | (with_reducible exact ih0 _ _ _ _ _)
   | (with_reducible exact ih1 _ _ _ _ _ _ _ _ _)
   | (with_reducible exact zH.mono _ _ _ _)
   | (with_reducible exact zL.mono _ _)
   | (with_reducible exact LeO.refl _)
   | (with_reducible exact LeO.none _)
   | (with_reducible refine LeO.ite ?_ ?_)
   | (with_reducible refine LeO.bind ?_ (fun _ => ?_))
   | exact ih0 _ _ _ _ _
   | exact ih1 _ _ _ _ _ _ _ _ _
   | exact zH.mono _ _ _ _
   | exact zL.mono _ _
   | exact LeO.none _
   | refine LeO.ite ?_ ?_
   | refine LeO.bind ?_ (fun _ => ?_)
def spec_Broadcast.T12 : Bool × List (List Nat × List Nat) := (true, [([], []), ([0], [0]), ([], []), ([], []), ([2, 3], [2, 3]), ([1, 4], [1, 4]), ([5], [5]), ([], []), ([], []), ([7, 8], [7, 8]), ([9], [9]), ([6, 10], [6, 10])])
def spec_Broadcast.B12 : List Nat := [0, 1, 0, 0, 12, 31, 63, 0, 0, 384, 896, 2047]
theorem spec_Broadcast.tab12 : rtab .any (opsOf Try.f54 12) = spec_Broadcast.T12 := by kernel_rfl
theorem spec_Broadcast.bits12 : waitsOk spec_Broadcast.T12.2 spec_Broadcast.B12 = true := by kernel_rfl
def spec_Broadcast.T16 : Bool × List (List Nat × List Nat) := (true, [([], []), ([0], [0]), ([], []), ([], []), ([2, 3], [2, 3]), ([4], [4]), ([5], [5]), ([1, 6], [1, 6]), ([0, 1, 2, 3, 4, 5, 6, 7], []), ([8, 7, 7, 0, 1, 2, 3, 4, 5, 6, 7], [7, 8])])
def spec_Broadcast.B16 : List Nat := [0, 1, 0, 0, 12, 28, 60, 127, 255, 511]
theorem spec_Broadcast.tab16 : rtab .any (opsOf Try.f54 16) = spec_Broadcast.T16 := by kernel_rfl
theorem spec_Broadcast.bits16 : waitsOk spec_Broadcast.T16.2 spec_Broadcast.B16 = true := by kernel_rfl
set_option maxHeartbeats 8000000 in
set_option maxRecDepth 100000 in
theorem spec_Broadcast.calls (k : Nat) (A0_0 : Option Addr) (c0_0 : Nat) (l0_0 : List Int) (A0_1 : Option Addr) (c0_1 : Nat) (l0_1 : List Int) (a0_2 : Int) (A1 : Option Addr) (c1 : Nat) (l1 : List Int) (r1 : Int) (r2 : List Int) (r3 : List Int) (r4 : Int) (w : World) (hr0_0 : Kd.C (Kd.int .i64) w A0_0 l0_0.length l0_0) (hc0_0 : l0_0.length ≤ c0_0) (hr0_1 : Kd.C (Kd.int .i64) w A0_1 l0_1.length l0_1) (hc0_1 : l0_1.length ≤ c0_1) (hr1 : Kd.C (Kd.int .i64) w A1 l1.length l1) (hc1 : l1.length ≤ c1) (h : spec_Broadcast.f k l0_0 l0_1 a0_2 l1 = some (r1, r2, r3, r4)) :
  Calls Try.prog 54 #[.agg #[.slice A0_0 l0_0.length c0_0, .slice A0_1 l0_1.length c0_1, .int .i64 a0_2], .slice A1 l1.length c1] w fun e w' => ∃ v1_ v2_ : Value, e = .returned (.agg #[.int .i64 r1, v1_, v2_, .int .i64 r4]) ∧ Kd.R (Kd.int .i64) 2 w' w.heap.size (fun k_ => some k_ ≠ (v2_ : Value).ownBlock) v1_ r2 ∧ Kd.R (Kd.int .i64) 2 w' w.heap.size (fun k_ => some k_ ≠ (v1_ : Value).ownBlock) v2_ r3 ∧ Below w.heap.size w w' := by
 have hu32 := Try.underlying32
 have hu53 := Try.underlying53
 have HR0_0 := qS.mk hr0_0
 have HC0_0 := qS.mk hc0_0
 clear hr0_0 hc0_0
 have HR0_1 := qS.mk hr0_1
 have HC0_1 := qS.mk hc0_1
 clear hr0_1 hc0_1
 have HR1 := qS.mk hr1
 have HC1 := qS.mk hc1
 clear hr1 hc1
 have HB := qS.mk (Below.refl w.heap.size w)
 have H : ((zH.f k l0_0 l0_1 a0_2).bind fun t174 => (if t174 = true then ((zL.f k l1).bind fun t175 => (if t175 < 0 then (spec_Broadcast.j0 k l1 true l0_0 l0_1 a0_2) else (spec_Broadcast.j0 k l1 (decide ((l1.length : Int) < (l0_0.length : Int))) l0_0 l0_1 a0_2))) else (some (12, ([] : List Int), ([] : List Int), 0)))) = some (r1, r2, r3, r4) := h
 clear h
 replace H := Option.bind_eq_some_iff.mp H
 obtain ⟨t174, A30, H⟩ := H
 try dsimp only at H
 have A3 := qS.mk A30
 clear A30
 by_cases c4 : t174 = true
 ·subst c4
  rw [if_pos rfl] at H
  have HC5 := qS.mk H
  clear H
  go_enter Try.func54, Try.ntmps54
  go_upto_region 3 with (first | ((with_reducible refine gate_dst (N := 2) rfl ?_); (try (refine gate_guard (by rfl) ?_; dsimp only)); refine bE #[.slice A0_0 l0_0.length c0_0, .slice A0_1 l0_1.length c0_1, .int .i64 a0_2] 32 ?_; intro gb172 hg w6 hbox hb; have BK172 := qS.mk (hbox); have GW172 := mG HB hg; have GE172 := mG HB hg; replace HB := mS HB hb; clear hb hbox hg) | ((with_reducible refine gate_dst (N := 4) rfl ?_); (try (refine gate_guard (by rfl) ?_; dsimp only)); refine bE #[.int .i64 0, .slice none 0 0, .slice none 0 0, .int .i64 0] 53 ?_; intro gb173 hg w7 hbox hb; have BK173 := qS.mk (hbox); have GW173 := mG HB hg; have GE173 := mG HB hg; have NB172_173 := mN BK172 hg; have NB173_172 := mM BK172 hg; replace BK172 := mB BK172 hb; replace HB := mS HB hb; clear hb hbox hg; have hnb8 := NB172_173.out; have hnc8 := NB173_172.out; obtain ⟨hcz9_0, hcz9_1, hcz9_2, hfz9_0, hfz9_1, hfz9_2⟩ := bx3 BK172) | ((with_reducible refine gate_callee (f := 24) rfl ?_); refine gL (some 10) Try.func24 #[.agg #[.slice A0_0 l0_0.length c0_0, .slice A0_1 l0_1.length c0_1, .int .i64 a0_2]] ?_; (with_reducible refine (zH.calls k _ _ l0_0 _ _ l0_1 a0_2 true _ (cS (Kd.qW HR0_0.out HB.out)) HC0_0.out (cS (Kd.qW HR0_1.out HB.out)) HC0_1.out A3.out).mono ?_); rintro e w10 ⟨rfl, hb⟩; refine ⟨_, rfl, ?_⟩; replace BK172 := mB BK172 hb; replace BK173 := mB BK173 hb; replace HB := mS HB hb; (try clear hb); (try clear hb2); (try clear hk); (try clear hi)))
  (try simp only [Act.put, List.setIfInBounds_toArray, List.set_cons_zero, List.set_cons_succ])
  go_cut [23] (fun v23 wc => ∃ (kq : Nat) (x23_4 : Bool), v23 = .bool x23_4 ∧ qS (spec_Broadcast.j0 kq l1 x23_4 l0_0 l0_1 a0_2 = some (r1, r2, r3, r4)) ∧ qS (kq ≤ k) ∧ qS (wc.heap[gb172]? = some (.cells #[(.slice A0_0 l0_0.length c0_0), (.slice A0_1 l0_1.length c0_1), .int .i64 a0_2] 32 (0, 0))) ∧ qS (wc.heap[gb173]? = some (.cells #[.int .i64 0, (.slice none 0 0), (.slice none 0 0), .int .i64 0] 53 (0, 0))) ∧ qS (Below w.heap.size w wc))
  case first =>
   have H := HC5.out
   clear HC5
   replace H := Option.bind_eq_some_iff.mp H
   obtain ⟨t175, A110, H⟩ := H
   try dsimp only at H
   have A11 := qS.mk A110
   clear A110
   by_cases c12 : t175 < 0
   ·rw [if_pos c12] at H
    have c12b0 : decide (t175 < 0) = true := decide_eq_true c12
    clear c12
    (first | rw [c12b0] | (simp only [i64_w, i32_w]; rw [c12b0]) | skip)
    have H' := qS.mk H
    clear H
    go_wp2_with (first | ((with_reducible refine gate_callee (f := 78) rfl ?_); refine gL (some 14) Try.func78 #[.slice A1 l1.length c1] ?_; (with_reducible refine (zL.calls k _ _ l1 t175 _ (cS (Kd.qW HR1.out HB.out)) HC1.out A11.out).mono ?_); rintro e w' ⟨rfl, ⟨nd, rfl⟩⟩; refine ⟨_, rfl, ?_⟩))
    go_meet
    case rel => exact ⟨_, (true), rf, H', ⟨by first | omega | exact Nat.le_refl _⟩, ⟨bS BK172⟩, ⟨bS BK173⟩, ⟨lS HB⟩⟩
   ·rw [if_neg c12] at H
    have c12b0 : decide (t175 < 0) = false := decide_eq_false c12
    clear c12
    (first | rw [c12b0] | (simp only [i64_w, i32_w]; rw [c12b0]) | skip)
    have H' := qS.mk H
    clear H
    go_wp2_with (first | ((with_reducible refine gate_callee (f := 78) rfl ?_); refine gL (some 14) Try.func78 #[.slice A1 l1.length c1] ?_; (with_reducible refine (zL.calls k _ _ l1 t175 _ (cS (Kd.qW HR1.out HB.out)) HC1.out A11.out).mono ?_); rintro e w' ⟨rfl, ⟨nd, rfl⟩⟩; refine ⟨_, rfl, ?_⟩; have hnb13 := NB172_173.out; have hnc13 := NB173_172.out; obtain ⟨hcz14_0, hcz14_1, hcz14_2, hfz14_0, hfz14_1, hfz14_2⟩ := bx3 BK172))
    go_meet
    case rel => exact ⟨_, (decide ((l1.length : Int) < (l0_0.length : Int))), rf, H', ⟨by first | omega | exact Nat.le_refl _⟩, ⟨bS BK172⟩, ⟨bS BK173⟩, ⟨lS HB⟩⟩
  case rest =>
   clear HC5
   (try clear c1); (try clear c4); (try clear hcz9_0); (try clear hcz9_1); (try clear hcz9_2); (try clear hfz9_0); (try clear hfz9_1); (try clear hfz9_2)
   obtain ⟨kq, x23_4, rfl, HA, HJ4, BK172, BK173, HB⟩ := hcut
   cases kq with
   | zero => exact absurd HA.out (by simp [spec_Broadcast.j0])
   | succ kj4 =>
    have H := HA.out
    clear HA
    simp only [spec_Broadcast.j0] at H
    by_cases c15 : x23_4 = true
    ·subst c15
     rw [if_pos rfl] at H
     simp only [Option.some.injEq, Prod.mk.injEq] at H
     obtain ⟨rfl, rfl, rfl, rfl⟩ := H
     have hnb16 := NB173_172.out
     have hnc16 := NB172_173.out
     obtain ⟨hcz17_0, hcz17_1, hcz17_2, hcz17_3, hfz17_0, hfz17_1, hfz17_2, hfz17_3⟩ := bx4 BK173
     go_wp2
     refine bodyPost_ret (rC gb173 53 #[.int .i64 6, .slice none 0 0, .slice none 0 0, .int .i64 0] (bQ BK173) Try.underlying53) rfl ?_
     exact ⟨_, _, rg, rN, rN, lS HB⟩
    ·replace c15 := Bool.eq_false_iff.mpr c15
     subst c15
     rw [if_neg (show ¬ (false = true) by decide)] at H
     have H' := qS.mk H
     clear H
     have hnb18 := NB172_173.out
     have hnc18 := NB173_172.out
     obtain ⟨hcz19_0, hcz19_1, hcz19_2, hfz19_0, hfz19_1, hfz19_2⟩ := bx3 BK172
     go_wp2_with (first | ((with_reducible refine gate_dst (N := 5) rfl ?_); (try (refine gate_guard (by rfl) ?_; dsimp only)); refine bE #[.slice none 0 0, .slice none 0 0, .int .i64 0] 32 ?_; intro gb176 hg w20 hbox hb; have BK176 := qS.mk (hbox); have GW176 := mG HB hg; have GE176 := mG HB hg; have NB172_176 := mN BK172 hg; have NB176_172 := mM BK172 hg; have NB173_176 := mN BK173 hg; have NB176_173 := mM BK173 hg; replace BK172 := mB BK172 hb; replace BK173 := mB BK173 hb; replace HB := mS HB hb; clear hb hbox hg; have hnb21 := NB176_172.out; have hnc21 := NB172_176.out; have hnb22 := NB176_173.out; have hnc22 := NB173_176.out; obtain ⟨hcz23_0, hcz23_1, hcz23_2, hfz23_0, hfz23_1, hfz23_2⟩ := bx3 BK176; obtain ⟨hcz24_0, hcz24_1, hcz24_2, hfz24_0, hfz24_1, hfz24_2⟩ := bx3 BK172))
     go_loopg [7] kj4 (fun kq v7 w' => ∃ (x7_2 : Int) (x174000_2 : Int) (x174003_2 : Int) (x177000_2 : List Int) (x177001_2 : List Int) (u177000 : Value) (u177001 : Value), v7 = .int .i64 x7_2 ∧ qS (spec_Broadcast.l0 kq l1 (wrap64 ((l1.length : Int) - (l0_0.length : Int))) x7_2 l0_0 l0_1 a0_2 x177000_2 x177001_2 a0_2 = some (r1, r2, r3, r4)) ∧ qS (kq ≤ kj4) ∧ qS (Kd.R (Kd.int .i64) 2 w' w.heap.size (fun k_ => some k_ ≠ (u177001 : Value).ownBlock) u177000 x177000_2) ∧ qS (Kd.R (Kd.int .i64) 2 w' w.heap.size (fun k_ => some k_ ≠ (u177000 : Value).ownBlock) u177001 x177001_2) ∧ qS (w'.heap[gb172]? = some (.cells #[(.slice A0_0 l0_0.length c0_0), (.slice A0_1 l0_1.length c0_1), .int .i64 a0_2] 32 (0, 0))) ∧ qS (w'.heap[gb173]? = some (.cells #[.int .i64 x174000_2, (.slice none 0 0), (.slice none 0 0), .int .i64 x174003_2] 53 (0, 0))) ∧ qS (w'.heap[gb176]? = some (.cells #[u177000, u177001, .int .i64 a0_2] 32 (0, 0))) ∧ qS (Below w.heap.size w w'))
     case atStart => exact ⟨(0), (0), (0), (([] : List Int)), (([] : List Int)), (.slice none 0 0), (.slice none 0 0), rf, H', ⟨Nat.le_refl _⟩, ⟨rN⟩, ⟨rN⟩, ⟨bQ BK172⟩, ⟨bQ BK173⟩, ⟨bQ BK176⟩, ⟨lS HB⟩⟩
     case round =>
      clear H'
      (try clear c1); (try clear c4); (try clear c15); (try clear hcz19_0); (try clear hcz19_1); (try clear hcz19_2); (try clear hcz23_0); (try clear hcz23_1); (try clear hcz23_2); (try clear hcz24_0); (try clear hcz24_1); (try clear hcz24_2); (try clear hcz9_0); (try clear hcz9_1); (try clear hcz9_2); (try clear hfz19_0); (try clear hfz19_1); (try clear hfz19_2); (try clear hfz23_0); (try clear hfz23_1); (try clear hfz23_2); (try clear hfz24_0); (try clear hfz24_1); (try clear hfz24_2); (try clear hfz9_0); (try clear hfz9_1); (try clear hfz9_2)
      obtain ⟨x7_2, x174000_2, x174003_2, x177000_2, x177001_2, u177000, u177001, rfl, HA, HK2, HO_177000, HO_177001, BK172, BK173, BK176, HB⟩ := hrel
      cases gk with
      | zero => exact absurd HA.out (by simp [spec_Broadcast.l0])
      | succ k2 =>
       have H := HA.out
       clear HA
       simp only [spec_Broadcast.l0] at H
       by_cases c25 : x7_2 < (l1.length : Int)
       ·rw [if_pos c25] at H
        have c25b0 : decide (x7_2 < (l1.length : Int)) = true := decide_eq_true c25
        clear c25
        by_cases c26 : x7_2 ≥ (wrap64 ((l1.length : Int) - (l0_0.length : Int)))
        ·rw [if_pos c26] at H
         have c26b0 : decide ((wrap64 ((l1.length : Int) - (l0_0.length : Int))) ≤ x7_2) = true := decide_eq_true c26
         clear c26
         obtain ⟨ji27, hji27⟩ : ∃ j_ : Int, (wrap64 (x7_2 - (wrap64 ((l1.length : Int) - (l0_0.length : Int))))) = j_ := ⟨_, rfl⟩
         replace H : (if 0 ≤ (ji27) then (if (ji27) < (l0_0.length : Int) then (if 0 ≤ x7_2 then (if (rd l0_0 (ji27)) = (rd l1 x7_2) then (if (ji27) < (l0_1.length : Int) then (if x177000_2.length < 17592186044416 then (if x177001_2.length < 17592186044416 then (spec_Broadcast.l0 k2 l1 (wrap64 ((l1.length : Int) - (l0_0.length : Int))) (wrap64 (x7_2 + 1)) l0_0 l0_1 a0_2 (x177000_2 ++ [rd l1 x7_2]) (x177001_2 ++ [rd l0_1 (ji27)]) a0_2) else (none)) else (none)) else (none)) else (if (rd l0_0 (ji27)) = 1 then (if x177000_2.length < 17592186044416 then (if x177001_2.length < 17592186044416 then (spec_Broadcast.l0 k2 l1 (wrap64 ((l1.length : Int) - (l0_0.length : Int))) (wrap64 (x7_2 + 1)) l0_0 l0_1 a0_2 (x177000_2 ++ [rd l1 x7_2]) (x177001_2 ++ [0]) a0_2) else (none)) else (none)) else (some (6, ([] : List Int), ([] : List Int), 0)))) else (none)) else (none)) else (none)) = some (r1, r2, r3, r4) := by first | (rw [hji27] at H; exact H) | (simp only [hji27] at H ⊢; exact H)
         have hji27w : (IntKind.i64.wrap (x7_2 - (wrap64 ((l1.length : Int) - (l0_0.length : Int))))) = ji27 := (i64_w _).trans hji27
         replace H := gN H
         obtain ⟨c28, H⟩ := H
         have c28b0 : decide (0 ≤ (ji27)) = true := decide_eq_true c28
         clear c28
         replace H := gN H
         obtain ⟨c29, H⟩ := H
         have c29b0 : decide ((ji27) < (l0_0.length : Int)) = true := decide_eq_true c29
         clear c29
         replace H := gN H
         obtain ⟨c30, H⟩ := H
         have c30b0 : decide (0 ≤ x7_2) = true := decide_eq_true c30
         clear c30
         by_cases c31 : (rd l0_0 (ji27)) = (rd l1 x7_2)
         ·rw [if_pos c31] at H
          have c31b0 : ((rd l0_0 (ji27)) == (rd l1 x7_2)) = true := beq_iff_eq.mpr c31
          have c31b1 : ((rd l0_0 (ji27)) != (rd l1 x7_2)) = false := bne_eq_false_iff_eq.mpr c31
          clear c31
          replace H := gN H
          obtain ⟨c32, H⟩ := H
          have c32b0 : decide ((ji27) < (l0_1.length : Int)) = true := decide_eq_true c32
          clear c32
          replace H := gN H
          obtain ⟨c33, H⟩ := H
          have LMc33 := qS.mk c33
          clear c33
          obtain ⟨y181, hy181⟩ : ∃ y_ : List Int, y_ = (x177000_2 ++ [rd l1 x7_2]) := ⟨_, rfl⟩
          replace H : (if x177001_2.length < 17592186044416 then (spec_Broadcast.l0 k2 l1 (wrap64 ((l1.length : Int) - (l0_0.length : Int))) (wrap64 (x7_2 + 1)) l0_0 l0_1 a0_2 y181 (x177001_2 ++ [rd l0_1 (ji27)]) a0_2) else (none)) = some (r1, r2, r3, r4) := by first | (rw [hy181]; with_reducible exact H) | (have H2_ := (Option.bind_some _ _).symm.trans H; rw [hy181]; with_reducible exact H2_) | (have H2_ := (Option.bind_some _ _).symm.trans H; with_reducible exact H2_) | with_reducible exact H | (rw [hy181]; exact H) | exact H
          have Ny181 := qS.mk hy181
          clear hy181
          replace H := gN H
          obtain ⟨c34, H⟩ := H
          have LMc34 := qS.mk c34
          clear c34
          obtain ⟨y184, hy184⟩ : ∃ y_ : List Int, y_ = (x177001_2 ++ [rd l0_1 (ji27)]) := ⟨_, rfl⟩
          replace H : (spec_Broadcast.l0 k2 l1 (wrap64 ((l1.length : Int) - (l0_0.length : Int))) (wrap64 (x7_2 + 1)) l0_0 l0_1 a0_2 y181 y184 a0_2) = some (r1, r2, r3, r4) := by first | (rw [hy184]; with_reducible exact H) | (have H2_ := (Option.bind_some _ _).symm.trans H; rw [hy184]; with_reducible exact H2_) | (have H2_ := (Option.bind_some _ _).symm.trans H; with_reducible exact H2_) | with_reducible exact H | (rw [hy184]; exact H) | exact H
          have Ny184 := qS.mk hy184
          clear hy184
          have H' := qS.mk H
          clear H
          try go_wp2
          replace HO_177000 := rD HO_177000; replace HO_177001 := rD HO_177001; replace BK172 := bD BK172; replace BK173 := bD BK173; replace BK176 := bD BK176; replace HB := lD HB
          obtain ⟨ad177, e177, hx177_0, hw177_0, p177, q177⟩ := aI HR0_0 HB (ji27)
          cases e177
          obtain ⟨ad178, e178, hx178_0, hw178_0, p178, q178⟩ := aI HR1 HB x7_2
          cases e178
          refine start_ (n := 12) (S := fun w' => w'.cell? ⟨gb172, 0, none⟩ = some (.slice (some ad177) l0_0.length c0_0) ∧ w'.cell? ⟨gb172, 1, none⟩ = some (.slice A0_1 l0_1.length c0_1) ∧ w'.cell? ⟨gb172, 2, none⟩ = some (.int .i64 a0_2) ∧ w'.cell? (ad177.add ((ji27)).toNat) = some (.int .i64 (rd l0_0 (ji27))) ∧ w'.cell? (ad178.add (x7_2).toNat) = some (.int .i64 (rd l1 x7_2))) (ds := []) (bs 12 0) (by kernel_rfl) rfl rfl ⟨(qJ BK172.out 0).trans rfl, (qJ BK172.out 1).trans rfl, (qJ BK172.out 2).trans rfl, (cU HB hw177_0), (cU HB hw178_0)⟩ (fun hHeld => ?_); refine with_tabW spec_Broadcast.tab12 spec_Broadcast.bits12 (fun HT_ HW_ => ?_)
          generalize wr.drew = w35 at HO_177000 HO_177001 BK172 BK173 BK176 HB hx177_0 hx178_0 hHeld ⊢
          refine pS 0 43 (bs 12 1) HT_ ?_
          refine pS 2 45 (bs 12 5) HT_ ?_
          refine pS 3 46 (bs 12 13) HT_ ?_
          refine pS 4 47 (bs 12 29) HT_ ?_
          refine pS 7 50 (bs 12 157) HT_ ?_
          refine pS 8 51 (bs 12 413) HT_ ?_
          refine pS 9 52 (bs 12 925) HT_ ?_
          refine tS 1 44 (bs 12 927) HT_ HW_ hHeld ?_
          refine pS 5 48 (bs 12 959) HT_ ?_
          refine tS 6 49 (bs 12 1023) HT_ HW_ hHeld ?_
          refine tS 10 53 (bs 12 2047) HT_ HW_ hHeld ?_
          refine pS 11 54 (bs 12 4095) HT_ ?_
          refine done_ (done_of HT_.out (by kernel_rfl)) ?_
          have hnb36 := NB172_173.out
          have hnc36 := NB173_172.out
          have hnb37 := NB172_176.out
          have hnc37 := NB176_172.out
          obtain ⟨hcz38_0, hcz38_1, hcz38_2, hfz38_0, hfz38_1, hfz38_2⟩ := bx3 BK172
          obtain ⟨ad179, e179, hx179_0, -, p179, q179⟩ := aI HR0_1 HB (ji27)
          cases e179
          try go_wp2
          replace HO_177000 := rD HO_177000; replace HO_177001 := rD HO_177001; replace BK172 := bD BK172; replace BK173 := bD BK173; replace BK176 := bD BK176; replace HB := lD HB
          obtain ⟨ad180, e180, hx180_0, hw180_0, p180, q180⟩ := aI HR1 HB x7_2
          obtain rfl : ad178 = ad180 := (by injection e180)
          refine start_ (n := 10) (S := fun w' => w'.cell? ⟨gb176, 0, none⟩ = some (u177000) ∧ w'.cell? ⟨gb176, 1, none⟩ = some (u177001) ∧ w'.cell? ⟨gb176, 2, none⟩ = some (.int .i64 a0_2) ∧ w'.cell? (ad178.add (x7_2).toNat) = some (.int .i64 (rd l1 x7_2))) (ds := [9]) (bs 10 0) (by kernel_rfl) rfl rfl ⟨(qJ BK176.out 0).trans rfl, (qJ BK176.out 1).trans rfl, (qJ BK176.out 2).trans rfl, (cU HB hw180_0)⟩ (fun hHeld => ?_); refine with_tabW spec_Broadcast.tab16 spec_Broadcast.bits16 (fun HT_ HW_ => ?_)
          generalize w35.drew = w39 at HO_177000 HO_177001 BK172 BK173 BK176 HB hx180_0 hHeld ⊢
          refine pS 0 71 (bs 10 1) HT_ ?_
          refine pS 2 73 (bs 10 5) HT_ ?_
          refine pS 3 74 (bs 10 13) HT_ ?_
          refine pS 4 75 (bs 10 29) HT_ ?_
          refine tS 1 72 (bs 10 31) HT_ HW_ hHeld ?_
          refine tS 5 76 (bs 10 63) HT_ HW_ hHeld ?_
          refine one_ (i := 6) (N := some 77) (bs 10 127) rfl rfl (one_of HT_.out (by kernel_rfl)) (by decide) (fun K hK => ?_)
          refine value_ (w1 := ?_) (v := ?_) (by rfl) rfl ?_ ?_
          rotate_left 2
          ·go_simp
           constructor
           ·rfl
           ·rfl
          refine hK.out _ _ ⟨(qJ (qG BK176.out _) 0).trans rfl, (qJ (qG BK176.out _) 1).trans rfl, (qJ (qG BK176.out _) 2).trans rfl, (World.cell?_alloc_lt _ _ _ (World.block_lt_of_cell? _ _ ((cU HB hw180_0)))).trans ((cU HB hw180_0))⟩ (fun hHeld => ?_)
          clear hK K
          refine norm_ (a' := ?_) ?_ ?_
          rotate_left
          ·show Act.put _ (some 77) _ = _
           simp only [Act.put, List.setIfInBounds_toArray, List.set_cons_zero, List.set_cons_succ, i64_w, i32_w]
           rfl
          refine one_ (i := 7) (N := some 78) (bs 10 255) rfl rfl (one_of HT_.out (by kernel_rfl)) (by decide) (fun K hK => ?_)
          refine Kd.R_append_step (Kd.int .i64) (w0 := w) w.heap.size (by rfl) (.tmp 72) (.tmp 77) 27 2 (.int .i64 0) 8 rfl Try.underlying27 info2 rfl (by decide) (by omega) u177000 x177000_2 (rd l1 x7_2) [.int .i64 (rd l1 x7_2)] (fun k_ => some k_ ≠ (u177001 : Value).ownBlock) (fun _ => False) rfl rfl ?aP (fun _ hk => hk.elim) ?aF ?aO ?aB ?aS ?aL ?_
          (case aP => exact rfl)
          (case aB => exact (lS HB))
          (case aF => exact (fun k_ hk => Kd.fresh' (Kd.R_lt (rS HO_177001)) k_ hk))
          (case aO => exact (rS HO_177000))
          (case aS => exact (qF (lS HB)))
          (case aL => have := LMc33.out; omega)
          intro v182 w40 ho hb hg hat
          rw [← Ny181.out] at ho
          have HO183 := qS.mk (ho); replace HO_177001 := qS.mk (Kd.R_after (ok := (fun _ => True)) (rT (Kd.qZ HO_177001.out (fun _ hk => ⟨trivial, hk⟩))) hg hat); replace BK172 := gB BK172 hg (Kd.R_ne HO_177000.out BK172.out (by decide)); replace BK173 := gB BK173 hg (Kd.R_ne HO_177000.out BK173.out (by decide)); replace BK176 := gB BK176 hg (Kd.R_ne HO_177000.out BK176.out (by decide)); replace HB := qS.mk (hb); clear HO_177000
          clear ho hb hg hat
          obtain ⟨Ao41, co41, eo41⟩ := Kd.qX HO183.out
          (first | subst eo41 | (injection eo41 with f1_ f2_ f3_; have f4_ := f1_.symm; have f5_ := f3_.symm; clear f1_ f2_ f3_; subst f4_; subst f5_))
          refine hK.out _ _ ⟨(qJ BK176.out 0).trans rfl, (qJ BK176.out 1).trans rfl, (qJ BK176.out 2).trans rfl, (cU HB hw180_0)⟩ (fun hHeld => ?_)
          clear hK K
          refine norm_ (a' := ?_) ?_ ?_
          rotate_left
          ·show Act.put _ (some 78) _ = _
           simp only [Act.put, List.setIfInBounds_toArray, List.set_cons_zero, List.set_cons_succ, i64_w, i32_w]
           rfl
          refine pS 8 79 (bs 10 511) HT_ ?_
          refine last_ (i := 9) (N := none) (bs 10 1023) rfl rfl (one_of HT_.out (by kernel_rfl)) (by decide) (fun K hK => ?_)
          have hs42 : w40.cell? ⟨gb176, 0, none⟩ = some (u177000) := (qJ BK176.out 0).trans rfl
          have hfs42 := qK BK176.out 0
          have hns42_0 := NB172_176.out
          have hns42_1 := NB173_176.out
          have hms42_0 := NB176_172.out
          have hms42_1 := NB176_173.out
          refine skip_ (w1 := ?_) (by rfl) rfl ?_ ?_
          rotate_left
          ·go_simp
           rfl
          refine hK.out _ _ ?_
          clear hK K
          refine done_ (done_of HT_.out (by kernel_rfl)) ?_
          have hnb43 := NB176_173.out
          have hnc43 := NB173_176.out
          obtain ⟨hcz44_0, hcz44_1, hcz44_2, hfz44_0, hfz44_1, hfz44_2⟩ := bx3 BK176
          try go_wp2_with (first | ((with_reducible refine gate_builtin (b := .append) (xs := #[.tmp 81, .tmp 83]) rfl ?_); (try (refine gate_guard (by rfl) ?_; dsimp only)); at_builtin; refine Kd.R_append (Kd.int .i64) (w0 := w) w.heap.size rfl (.tmp 81) (.tmp 83) 27 2 (.int .i64 0) 8 rfl Try.underlying27 info2 rfl (by decide) (by omega) u177001 x177001_2 (rd l0_1 (ji27)) [.int .i64 (rd l0_1 (ji27))] (fun k_ => some k_ ≠ (.slice Ao41 y181.length co41 : Value).ownBlock) (fun _ => False) rfl (by first | (go_simp; done) | (go_simp; rfl)) ?aP (fun _ hk => hk.elim) ?aF ?aO ?aB ?aS ?aL ?_; (case aP => exact rfl); (case aB => exact (lS HB)); (case aF => exact (fun k_ hk => Kd.fresh' (Kd.R_lt (rT ((Kd.qZ (Kd.R_far (p := ⟨gb176, 0, none⟩) (Kd.R_types HO183.out BK176.out (by decide)) (fun _ hk => hk.2) (.slice Ao41 y181.length co41)) (fun _ h_ => h_.1))))) k_ hk)); (case aO => exact (rF HO_177001 BK176)); (case aS => exact (qF (lS HB))); (case aL => have := LMc34.out; omega); intro v185 w45 ho hb hg hat; rw [← Ny184.out] at ho; have HO186 := qS.mk (ho); replace BK172 := qS.mk (blk_grown (g := gb172) (o := .cells #[.slice (some ad177) l0_0.length c0_0, .slice (some ad179) l0_1.length c0_1, .int .i64 a0_2] 32 (0, 0)) (bQ BK172) hg (Kd.R_ne HO_177001.out BK172.out (by decide))); replace BK173 := qS.mk (blk_grown (g := gb173) (o := .cells #[.int .i64 x174000_2, .slice none 0 0, .slice none 0 0, .int .i64 x174003_2] 53 (0, 0)) (bQ BK173) hg (Kd.R_ne HO_177001.out BK173.out (by decide))); replace HO183 := qS.mk (Kd.R_after (ok := (fun _ => True)) (rT (Kd.qZ (Kd.R_far (p := ⟨gb176, 0, none⟩) (Kd.R_types HO183.out BK176.out (by decide)) (fun _ hk => hk.2) (.slice Ao41 y181.length co41)) (fun _ hk => ⟨trivial, hk.1⟩))) hg hat); replace BK176 := qS.mk (blk_grown (g := gb176) (o := .cells #[.slice Ao41 y181.length co41, u177001, .int .i64 a0_2] 32 (0, 0)) (bQ BK176) hg (Kd.R_ne HO_177001.out BK176.out (by decide))); replace HB := qS.mk (hb); clear HO_177001 ho hb hg hat; obtain ⟨Ao46, co46, eo46⟩ := Kd.qX HO186.out; subst eo46; obtain ⟨hcz47_0, hcz47_1, hcz47_2, hfz47_0, hfz47_1, hfz47_2⟩ := bx3 BK176))
          go_roundg k2
          case measure => have := HJ4.out; have := HK2.out; omega
          case rel => exact ⟨(wrap64 (x7_2 + 1)), (x174000_2), (x174003_2), (y181), (y184), (.slice Ao41 y181.length co41), (.slice Ao46 y184.length co46), rf, H', ⟨by have := HJ4.out; have := HK2.out; omega⟩, ⟨rF HO183 BK176⟩, ⟨rF HO186 BK176⟩, ⟨bQ BK172⟩, ⟨bQ BK173⟩, ⟨bQ BK176⟩, ⟨lS HB⟩⟩
         ·rw [if_neg c31] at H
          have c31b0 : ((rd l0_0 (ji27)) == (rd l1 x7_2)) = false := beq_eq_false_iff_ne.mpr c31
          have c31b1 : ((rd l0_0 (ji27)) != (rd l1 x7_2)) = true := bne_iff_ne.mpr c31
          by_cases c48 : (rd l0_0 (ji27)) = 1
          ·rw [if_pos c48] at H
           have c48b0 : ((rd l0_0 (ji27)) == 1) = true := beq_iff_eq.mpr c48
           have c48b1 : ((rd l0_0 (ji27)) != 1) = false := bne_eq_false_iff_eq.mpr c48
           clear c48
           replace H := gN H
           obtain ⟨c49, H⟩ := H
           have LMc49 := qS.mk c49
           clear c49
           obtain ⟨y189, hy189⟩ : ∃ y_ : List Int, y_ = (x177000_2 ++ [rd l1 x7_2]) := ⟨_, rfl⟩
           replace H : (if x177001_2.length < 17592186044416 then (spec_Broadcast.l0 k2 l1 (wrap64 ((l1.length : Int) - (l0_0.length : Int))) (wrap64 (x7_2 + 1)) l0_0 l0_1 a0_2 y189 (x177001_2 ++ [0]) a0_2) else (none)) = some (r1, r2, r3, r4) := by first | (rw [hy189]; with_reducible exact H) | (have H2_ := (Option.bind_some _ _).symm.trans H; rw [hy189]; with_reducible exact H2_) | (have H2_ := (Option.bind_some _ _).symm.trans H; with_reducible exact H2_) | with_reducible exact H | (rw [hy189]; exact H) | exact H
           have Ny189 := qS.mk hy189
           clear hy189
           replace H := gN H
           obtain ⟨c50, H⟩ := H
           have LMc50 := qS.mk c50
           clear c50
           obtain ⟨y192, hy192⟩ : ∃ y_ : List Int, y_ = (x177001_2 ++ [0]) := ⟨_, rfl⟩
           replace H : (spec_Broadcast.l0 k2 l1 (wrap64 ((l1.length : Int) - (l0_0.length : Int))) (wrap64 (x7_2 + 1)) l0_0 l0_1 a0_2 y189 y192 a0_2) = some (r1, r2, r3, r4) := by first | (rw [hy192]; with_reducible exact H) | (have H2_ := (Option.bind_some _ _).symm.trans H; rw [hy192]; with_reducible exact H2_) | (have H2_ := (Option.bind_some _ _).symm.trans H; with_reducible exact H2_) | with_reducible exact H | (rw [hy192]; exact H) | exact H
           have Ny192 := qS.mk hy192
           clear hy192
           have H' := qS.mk H
           clear H
           try go_wp2
           replace HO_177000 := rD HO_177000; replace HO_177001 := rD HO_177001; replace BK172 := bD BK172; replace BK173 := bD BK173; replace BK176 := bD BK176; replace HB := lD HB
           obtain ⟨ad177, e177, hx177_0, hw177_0, p177, q177⟩ := aI HR0_0 HB (ji27)
           cases e177
           obtain ⟨ad178, e178, hx178_0, hw178_0, p178, q178⟩ := aI HR1 HB x7_2
           cases e178
           refine start_ (n := 12) (S := fun w' => w'.cell? ⟨gb172, 0, none⟩ = some (.slice (some ad177) l0_0.length c0_0) ∧ w'.cell? ⟨gb172, 1, none⟩ = some (.slice A0_1 l0_1.length c0_1) ∧ w'.cell? ⟨gb172, 2, none⟩ = some (.int .i64 a0_2) ∧ w'.cell? (ad177.add ((ji27)).toNat) = some (.int .i64 (rd l0_0 (ji27))) ∧ w'.cell? (ad178.add (x7_2).toNat) = some (.int .i64 (rd l1 x7_2))) (ds := []) (bs 12 0) (by kernel_rfl) rfl rfl ⟨(qJ BK172.out 0).trans rfl, (qJ BK172.out 1).trans rfl, (qJ BK172.out 2).trans rfl, (cU HB hw177_0), (cU HB hw178_0)⟩ (fun hHeld => ?_); refine with_tabW spec_Broadcast.tab12 spec_Broadcast.bits12 (fun HT_ HW_ => ?_)
           generalize wr.drew = w51 at HO_177000 HO_177001 BK172 BK173 BK176 HB hx177_0 hx178_0 hHeld ⊢
           refine pS 0 43 (bs 12 1) HT_ ?_
           refine pS 2 45 (bs 12 5) HT_ ?_
           refine pS 3 46 (bs 12 13) HT_ ?_
           refine pS 4 47 (bs 12 29) HT_ ?_
           refine pS 7 50 (bs 12 157) HT_ ?_
           refine pS 8 51 (bs 12 413) HT_ ?_
           refine pS 9 52 (bs 12 925) HT_ ?_
           refine tS 1 44 (bs 12 927) HT_ HW_ hHeld ?_
           refine pS 5 48 (bs 12 959) HT_ ?_
           refine tS 6 49 (bs 12 1023) HT_ HW_ hHeld ?_
           refine tS 10 53 (bs 12 2047) HT_ HW_ hHeld ?_
           refine pS 11 54 (bs 12 4095) HT_ ?_
           refine done_ (done_of HT_.out (by kernel_rfl)) ?_
           have hnb52 := NB172_173.out
           have hnc52 := NB173_172.out
           have hnb53 := NB172_176.out
           have hnc53 := NB176_172.out
           obtain ⟨hcz54_0, hcz54_1, hcz54_2, hfz54_0, hfz54_1, hfz54_2⟩ := bx3 BK172
           obtain ⟨ad187, e187, hx187_0, -, p187, q187⟩ := aI HR0_0 HB (ji27)
           obtain rfl : ad177 = ad187 := (by injection e187)
           try go_wp2
           replace HO_177000 := rD HO_177000; replace HO_177001 := rD HO_177001; replace BK172 := bD BK172; replace BK173 := bD BK173; replace BK176 := bD BK176; replace HB := lD HB
           obtain ⟨ad188, e188, hx188_0, hw188_0, p188, q188⟩ := aI HR1 HB x7_2
           obtain rfl : ad178 = ad188 := (by injection e188)
           refine start_ (n := 10) (S := fun w' => w'.cell? ⟨gb176, 0, none⟩ = some (u177000) ∧ w'.cell? ⟨gb176, 1, none⟩ = some (u177001) ∧ w'.cell? ⟨gb176, 2, none⟩ = some (.int .i64 a0_2) ∧ w'.cell? (ad178.add (x7_2).toNat) = some (.int .i64 (rd l1 x7_2))) (ds := [9]) (bs 10 0) (by kernel_rfl) rfl rfl ⟨(qJ BK176.out 0).trans rfl, (qJ BK176.out 1).trans rfl, (qJ BK176.out 2).trans rfl, (cU HB hw188_0)⟩ (fun hHeld => ?_); refine with_tabW spec_Broadcast.tab16 spec_Broadcast.bits16 (fun HT_ HW_ => ?_)
           generalize w51.drew = w55 at HO_177000 HO_177001 BK172 BK173 BK176 HB hx188_0 hHeld ⊢
           refine pS 0 71 (bs 10 1) HT_ ?_
           refine pS 2 73 (bs 10 5) HT_ ?_
           refine pS 3 74 (bs 10 13) HT_ ?_
           refine pS 4 75 (bs 10 29) HT_ ?_
           refine tS 1 72 (bs 10 31) HT_ HW_ hHeld ?_
           refine tS 5 76 (bs 10 63) HT_ HW_ hHeld ?_
           refine one_ (i := 6) (N := some 77) (bs 10 127) rfl rfl (one_of HT_.out (by kernel_rfl)) (by decide) (fun K hK => ?_)
           refine value_ (w1 := ?_) (v := ?_) (by rfl) rfl ?_ ?_
           rotate_left 2
           ·go_simp
            constructor
            ·rfl
            ·rfl
           refine hK.out _ _ ⟨(qJ (qG BK176.out _) 0).trans rfl, (qJ (qG BK176.out _) 1).trans rfl, (qJ (qG BK176.out _) 2).trans rfl, (World.cell?_alloc_lt _ _ _ (World.block_lt_of_cell? _ _ ((cU HB hw188_0)))).trans ((cU HB hw188_0))⟩ (fun hHeld => ?_)
           clear hK K
           refine norm_ (a' := ?_) ?_ ?_
           rotate_left
           ·show Act.put _ (some 77) _ = _
            simp only [Act.put, List.setIfInBounds_toArray, List.set_cons_zero, List.set_cons_succ, i64_w, i32_w]
            rfl
           refine one_ (i := 7) (N := some 78) (bs 10 255) rfl rfl (one_of HT_.out (by kernel_rfl)) (by decide) (fun K hK => ?_)
           refine Kd.R_append_step (Kd.int .i64) (w0 := w) w.heap.size (by rfl) (.tmp 72) (.tmp 77) 27 2 (.int .i64 0) 8 rfl Try.underlying27 info2 rfl (by decide) (by omega) u177000 x177000_2 (rd l1 x7_2) [.int .i64 (rd l1 x7_2)] (fun k_ => some k_ ≠ (u177001 : Value).ownBlock) (fun _ => False) rfl rfl ?aP (fun _ hk => hk.elim) ?aF ?aO ?aB ?aS ?aL ?_
           (case aP => exact rfl)
           (case aB => exact (lS HB))
           (case aF => exact (fun k_ hk => Kd.fresh' (Kd.R_lt (rS HO_177001)) k_ hk))
           (case aO => exact (rS HO_177000))
           (case aS => exact (qF (lS HB)))
           (case aL => have := LMc49.out; omega)
           intro v190 w56 ho hb hg hat
           rw [← Ny189.out] at ho
           have HO191 := qS.mk (ho); replace HO_177001 := qS.mk (Kd.R_after (ok := (fun _ => True)) (rT (Kd.qZ HO_177001.out (fun _ hk => ⟨trivial, hk⟩))) hg hat); replace BK172 := gB BK172 hg (Kd.R_ne HO_177000.out BK172.out (by decide)); replace BK173 := gB BK173 hg (Kd.R_ne HO_177000.out BK173.out (by decide)); replace BK176 := gB BK176 hg (Kd.R_ne HO_177000.out BK176.out (by decide)); replace HB := qS.mk (hb); clear HO_177000
           clear ho hb hg hat
           obtain ⟨Ao57, co57, eo57⟩ := Kd.qX HO191.out
           (first | subst eo57 | (injection eo57 with f1_ f2_ f3_; have f4_ := f1_.symm; have f5_ := f3_.symm; clear f1_ f2_ f3_; subst f4_; subst f5_))
           refine hK.out _ _ ⟨(qJ BK176.out 0).trans rfl, (qJ BK176.out 1).trans rfl, (qJ BK176.out 2).trans rfl, (cU HB hw188_0)⟩ (fun hHeld => ?_)
           clear hK K
           refine norm_ (a' := ?_) ?_ ?_
           rotate_left
           ·show Act.put _ (some 78) _ = _
            simp only [Act.put, List.setIfInBounds_toArray, List.set_cons_zero, List.set_cons_succ, i64_w, i32_w]
            rfl
           refine pS 8 79 (bs 10 511) HT_ ?_
           refine last_ (i := 9) (N := none) (bs 10 1023) rfl rfl (one_of HT_.out (by kernel_rfl)) (by decide) (fun K hK => ?_)
           have hs58 : w56.cell? ⟨gb176, 0, none⟩ = some (u177000) := (qJ BK176.out 0).trans rfl
           have hfs58 := qK BK176.out 0
           have hns58_0 := NB172_176.out
           have hns58_1 := NB173_176.out
           have hms58_0 := NB176_172.out
           have hms58_1 := NB176_173.out
           refine skip_ (w1 := ?_) (by rfl) rfl ?_ ?_
           rotate_left
           ·go_simp
            rfl
           refine hK.out _ _ ?_
           clear hK K
           refine done_ (done_of HT_.out (by kernel_rfl)) ?_
           have hnb59 := NB176_173.out
           have hnc59 := NB173_176.out
           obtain ⟨hcz60_0, hcz60_1, hcz60_2, hfz60_0, hfz60_1, hfz60_2⟩ := bx3 BK176
           try go_wp2_with (first | ((with_reducible refine gate_builtin (b := .append) (xs := #[.tmp 81, .tmp 83]) rfl ?_); (try (refine gate_guard (by rfl) ?_; dsimp only)); at_builtin; refine Kd.R_append (Kd.int .i64) (w0 := w) w.heap.size rfl (.tmp 81) (.tmp 83) 27 2 (.int .i64 0) 8 rfl Try.underlying27 info2 rfl (by decide) (by omega) u177001 x177001_2 0 [.int .i64 0] (fun k_ => some k_ ≠ (.slice Ao57 y189.length co57 : Value).ownBlock) (fun _ => False) rfl (by first | (go_simp; done) | (go_simp; rfl)) ?aP (fun _ hk => hk.elim) ?aF ?aO ?aB ?aS ?aL ?_; (case aP => exact rfl); (case aB => exact (lS HB)); (case aF => exact (fun k_ hk => Kd.fresh' (Kd.R_lt (rT ((Kd.qZ (Kd.R_far (p := ⟨gb176, 0, none⟩) (Kd.R_types HO191.out BK176.out (by decide)) (fun _ hk => hk.2) (.slice Ao57 y189.length co57)) (fun _ h_ => h_.1))))) k_ hk)); (case aO => exact (rF HO_177001 BK176)); (case aS => exact (qF (lS HB))); (case aL => have := LMc50.out; omega); intro v193 w61 ho hb hg hat; rw [← Ny192.out] at ho; have HO194 := qS.mk (ho); replace BK172 := qS.mk (blk_grown (g := gb172) (o := .cells #[.slice (some ad177) l0_0.length c0_0, .slice A0_1 l0_1.length c0_1, .int .i64 a0_2] 32 (0, 0)) (bQ BK172) hg (Kd.R_ne HO_177001.out BK172.out (by decide))); replace BK173 := qS.mk (blk_grown (g := gb173) (o := .cells #[.int .i64 x174000_2, .slice none 0 0, .slice none 0 0, .int .i64 x174003_2] 53 (0, 0)) (bQ BK173) hg (Kd.R_ne HO_177001.out BK173.out (by decide))); replace HO191 := qS.mk (Kd.R_after (ok := (fun _ => True)) (rT (Kd.qZ (Kd.R_far (p := ⟨gb176, 0, none⟩) (Kd.R_types HO191.out BK176.out (by decide)) (fun _ hk => hk.2) (.slice Ao57 y189.length co57)) (fun _ hk => ⟨trivial, hk.1⟩))) hg hat); replace BK176 := qS.mk (blk_grown (g := gb176) (o := .cells #[.slice Ao57 y189.length co57, u177001, .int .i64 a0_2] 32 (0, 0)) (bQ BK176) hg (Kd.R_ne HO_177001.out BK176.out (by decide))); replace HB := qS.mk (hb); clear HO_177001 ho hb hg hat; obtain ⟨Ao62, co62, eo62⟩ := Kd.qX HO194.out; subst eo62; obtain ⟨hcz63_0, hcz63_1, hcz63_2, hfz63_0, hfz63_1, hfz63_2⟩ := bx3 BK176))
           go_roundg k2
           case measure => have := HJ4.out; have := HK2.out; omega
           case rel => exact ⟨(wrap64 (x7_2 + 1)), (x174000_2), (x174003_2), (y189), (y192), (.slice Ao57 y189.length co57), (.slice Ao62 y192.length co62), rf, H', ⟨by have := HJ4.out; have := HK2.out; omega⟩, ⟨rF HO191 BK176⟩, ⟨rF HO194 BK176⟩, ⟨bQ BK172⟩, ⟨bQ BK173⟩, ⟨bQ BK176⟩, ⟨lS HB⟩⟩
          ·rw [if_neg c48] at H
           have c48b0 : ((rd l0_0 (ji27)) == 1) = false := beq_eq_false_iff_ne.mpr c48
           have c48b1 : ((rd l0_0 (ji27)) != 1) = true := bne_iff_ne.mpr c48
           simp only [Option.some.injEq, Prod.mk.injEq] at H
           obtain ⟨rfl, rfl, rfl, rfl⟩ := H
           try go_wp2
           replace HO_177000 := rD HO_177000; replace HO_177001 := rD HO_177001; replace BK172 := bD BK172; replace BK173 := bD BK173; replace BK176 := bD BK176; replace HB := lD HB
           obtain ⟨ad177, e177, hx177_0, hw177_0, p177, q177⟩ := aI HR0_0 HB (ji27)
           cases e177
           obtain ⟨ad178, e178, hx178_0, hw178_0, p178, q178⟩ := aI HR1 HB x7_2
           cases e178
           refine start_ (n := 12) (S := fun w' => w'.cell? ⟨gb172, 0, none⟩ = some (.slice (some ad177) l0_0.length c0_0) ∧ w'.cell? ⟨gb172, 1, none⟩ = some (.slice A0_1 l0_1.length c0_1) ∧ w'.cell? ⟨gb172, 2, none⟩ = some (.int .i64 a0_2) ∧ w'.cell? (ad177.add ((ji27)).toNat) = some (.int .i64 (rd l0_0 (ji27))) ∧ w'.cell? (ad178.add (x7_2).toNat) = some (.int .i64 (rd l1 x7_2))) (ds := []) (bs 12 0) (by kernel_rfl) rfl rfl ⟨(qJ BK172.out 0).trans rfl, (qJ BK172.out 1).trans rfl, (qJ BK172.out 2).trans rfl, (cU HB hw177_0), (cU HB hw178_0)⟩ (fun hHeld => ?_); refine with_tabW spec_Broadcast.tab12 spec_Broadcast.bits12 (fun HT_ HW_ => ?_)
           generalize wr.drew = w64 at HO_177000 HO_177001 BK172 BK173 BK176 HB hx177_0 hx178_0 hHeld ⊢
           refine pS 0 43 (bs 12 1) HT_ ?_
           refine pS 2 45 (bs 12 5) HT_ ?_
           refine pS 3 46 (bs 12 13) HT_ ?_
           refine pS 4 47 (bs 12 29) HT_ ?_
           refine pS 7 50 (bs 12 157) HT_ ?_
           refine pS 8 51 (bs 12 413) HT_ ?_
           refine pS 9 52 (bs 12 925) HT_ ?_
           refine tS 1 44 (bs 12 927) HT_ HW_ hHeld ?_
           refine pS 5 48 (bs 12 959) HT_ ?_
           refine tS 6 49 (bs 12 1023) HT_ HW_ hHeld ?_
           refine tS 10 53 (bs 12 2047) HT_ HW_ hHeld ?_
           refine pS 11 54 (bs 12 4095) HT_ ?_
           refine done_ (done_of HT_.out (by kernel_rfl)) ?_
           have hnb65 := NB172_173.out
           have hnc65 := NB173_172.out
           have hnb66 := NB172_176.out
           have hnc66 := NB176_172.out
           obtain ⟨hcz67_0, hcz67_1, hcz67_2, hfz67_0, hfz67_1, hfz67_2⟩ := bx3 BK172
           obtain ⟨ad187, e187, hx187_0, -, p187, q187⟩ := aI HR0_0 HB (ji27)
           obtain rfl : ad177 = ad187 := (by injection e187)
           have hnb68 := NB173_176.out
           have hnc68 := NB176_173.out
           obtain ⟨hcz69_0, hcz69_1, hcz69_2, hcz69_3, hfz69_0, hfz69_1, hfz69_2, hfz69_3⟩ := bx4 BK173
           try go_wp2
           refine bodyPost_ret (rC gb173 53 #[.int .i64 6, .slice none 0 0, .slice none 0 0, .int .i64 0] (bQ BK173) Try.underlying53) rfl ?_
           exact ⟨_, _, by first | rfl | (simp [zG, zF] <;> rfl) | (simp only [← hji27]; first | rfl | (simp [zG, zF] <;> rfl)) | (simp [*, zG, zF] <;> rfl), rN, rN, lS HB⟩
        ·rw [if_neg c26] at H
         have c26b0 : decide ((wrap64 ((l1.length : Int) - (l0_0.length : Int))) ≤ x7_2) = false := decide_eq_false c26
         clear c26
         replace H := gN H
         obtain ⟨c70, H⟩ := H
         have c70b0 : decide (0 ≤ x7_2) = true := decide_eq_true c70
         clear c70
         replace H := gN H
         obtain ⟨c71, H⟩ := H
         have LMc71 := qS.mk c71
         clear c71
         obtain ⟨y196, hy196⟩ : ∃ y_ : List Int, y_ = (x177000_2 ++ [rd l1 x7_2]) := ⟨_, rfl⟩
         replace H : (if x177001_2.length < 17592186044416 then (spec_Broadcast.l0 k2 l1 (wrap64 ((l1.length : Int) - (l0_0.length : Int))) (wrap64 (x7_2 + 1)) l0_0 l0_1 a0_2 y196 (x177001_2 ++ [0]) a0_2) else (none)) = some (r1, r2, r3, r4) := by first | (rw [hy196]; with_reducible exact H) | (have H2_ := (Option.bind_some _ _).symm.trans H; rw [hy196]; with_reducible exact H2_) | (have H2_ := (Option.bind_some _ _).symm.trans H; with_reducible exact H2_) | with_reducible exact H | (rw [hy196]; exact H) | exact H
         have Ny196 := qS.mk hy196
         clear hy196
         replace H := gN H
         obtain ⟨c72, H⟩ := H
         have LMc72 := qS.mk c72
         clear c72
         obtain ⟨y199, hy199⟩ : ∃ y_ : List Int, y_ = (x177001_2 ++ [0]) := ⟨_, rfl⟩
         replace H : (spec_Broadcast.l0 k2 l1 (wrap64 ((l1.length : Int) - (l0_0.length : Int))) (wrap64 (x7_2 + 1)) l0_0 l0_1 a0_2 y196 y199 a0_2) = some (r1, r2, r3, r4) := by first | (rw [hy199]; with_reducible exact H) | (have H2_ := (Option.bind_some _ _).symm.trans H; rw [hy199]; with_reducible exact H2_) | (have H2_ := (Option.bind_some _ _).symm.trans H; with_reducible exact H2_) | with_reducible exact H | (rw [hy199]; exact H) | exact H
         have Ny199 := qS.mk hy199
         clear hy199
         have H' := qS.mk H
         clear H
         try go_wp2
         replace HO_177000 := rD HO_177000; replace HO_177001 := rD HO_177001; replace BK172 := bD BK172; replace BK173 := bD BK173; replace BK176 := bD BK176; replace HB := lD HB
         obtain ⟨ad195, e195, hx195_0, hw195_0, p195, q195⟩ := aI HR1 HB x7_2
         cases e195
         refine start_ (n := 10) (S := fun w' => w'.cell? ⟨gb176, 0, none⟩ = some (u177000) ∧ w'.cell? ⟨gb176, 1, none⟩ = some (u177001) ∧ w'.cell? ⟨gb176, 2, none⟩ = some (.int .i64 a0_2) ∧ w'.cell? (ad195.add (x7_2).toNat) = some (.int .i64 (rd l1 x7_2))) (ds := [9]) (bs 10 0) (by kernel_rfl) rfl rfl ⟨(qJ BK176.out 0).trans rfl, (qJ BK176.out 1).trans rfl, (qJ BK176.out 2).trans rfl, (cU HB hw195_0)⟩ (fun hHeld => ?_); refine with_tabW spec_Broadcast.tab16 spec_Broadcast.bits16 (fun HT_ HW_ => ?_)
         generalize wr.drew = w73 at HO_177000 HO_177001 BK172 BK173 BK176 HB hx195_0 hHeld ⊢
         refine pS 0 71 (bs 10 1) HT_ ?_
         refine pS 2 73 (bs 10 5) HT_ ?_
         refine pS 3 74 (bs 10 13) HT_ ?_
         refine pS 4 75 (bs 10 29) HT_ ?_
         refine tS 1 72 (bs 10 31) HT_ HW_ hHeld ?_
         refine tS 5 76 (bs 10 63) HT_ HW_ hHeld ?_
         refine one_ (i := 6) (N := some 77) (bs 10 127) rfl rfl (one_of HT_.out (by kernel_rfl)) (by decide) (fun K hK => ?_)
         refine value_ (w1 := ?_) (v := ?_) (by rfl) rfl ?_ ?_
         rotate_left 2
         ·go_simp
          constructor
          ·rfl
          ·rfl
         refine hK.out _ _ ⟨(qJ (qG BK176.out _) 0).trans rfl, (qJ (qG BK176.out _) 1).trans rfl, (qJ (qG BK176.out _) 2).trans rfl, (World.cell?_alloc_lt _ _ _ (World.block_lt_of_cell? _ _ ((cU HB hw195_0)))).trans ((cU HB hw195_0))⟩ (fun hHeld => ?_)
         clear hK K
         refine norm_ (a' := ?_) ?_ ?_
         rotate_left
         ·show Act.put _ (some 77) _ = _
          simp only [Act.put, List.setIfInBounds_toArray, List.set_cons_zero, List.set_cons_succ, i64_w, i32_w]
          rfl
         refine one_ (i := 7) (N := some 78) (bs 10 255) rfl rfl (one_of HT_.out (by kernel_rfl)) (by decide) (fun K hK => ?_)
         refine Kd.R_append_step (Kd.int .i64) (w0 := w) w.heap.size (by rfl) (.tmp 72) (.tmp 77) 27 2 (.int .i64 0) 8 rfl Try.underlying27 info2 rfl (by decide) (by omega) u177000 x177000_2 (rd l1 x7_2) [.int .i64 (rd l1 x7_2)] (fun k_ => some k_ ≠ (u177001 : Value).ownBlock) (fun _ => False) rfl rfl ?aP (fun _ hk => hk.elim) ?aF ?aO ?aB ?aS ?aL ?_
         (case aP => exact rfl)
         (case aB => exact (lS HB))
         (case aF => exact (fun k_ hk => Kd.fresh' (Kd.R_lt (rS HO_177001)) k_ hk))
         (case aO => exact (rS HO_177000))
         (case aS => exact (qF (lS HB)))
         (case aL => have := LMc71.out; omega)
         intro v197 w74 ho hb hg hat
         rw [← Ny196.out] at ho
         have HO198 := qS.mk (ho); replace HO_177001 := qS.mk (Kd.R_after (ok := (fun _ => True)) (rT (Kd.qZ HO_177001.out (fun _ hk => ⟨trivial, hk⟩))) hg hat); replace BK172 := gB BK172 hg (Kd.R_ne HO_177000.out BK172.out (by decide)); replace BK173 := gB BK173 hg (Kd.R_ne HO_177000.out BK173.out (by decide)); replace BK176 := gB BK176 hg (Kd.R_ne HO_177000.out BK176.out (by decide)); replace HB := qS.mk (hb); clear HO_177000
         clear ho hb hg hat
         obtain ⟨Ao75, co75, eo75⟩ := Kd.qX HO198.out
         (first | subst eo75 | (injection eo75 with f1_ f2_ f3_; have f4_ := f1_.symm; have f5_ := f3_.symm; clear f1_ f2_ f3_; subst f4_; subst f5_))
         refine hK.out _ _ ⟨(qJ BK176.out 0).trans rfl, (qJ BK176.out 1).trans rfl, (qJ BK176.out 2).trans rfl, (cU HB hw195_0)⟩ (fun hHeld => ?_)
         clear hK K
         refine norm_ (a' := ?_) ?_ ?_
         rotate_left
         ·show Act.put _ (some 78) _ = _
          simp only [Act.put, List.setIfInBounds_toArray, List.set_cons_zero, List.set_cons_succ, i64_w, i32_w]
          rfl
         refine pS 8 79 (bs 10 511) HT_ ?_
         refine last_ (i := 9) (N := none) (bs 10 1023) rfl rfl (one_of HT_.out (by kernel_rfl)) (by decide) (fun K hK => ?_)
         have hs76 : w74.cell? ⟨gb176, 0, none⟩ = some (u177000) := (qJ BK176.out 0).trans rfl
         have hfs76 := qK BK176.out 0
         have hns76_0 := NB172_176.out
         have hns76_1 := NB173_176.out
         have hms76_0 := NB176_172.out
         have hms76_1 := NB176_173.out
         refine skip_ (w1 := ?_) (by rfl) rfl ?_ ?_
         rotate_left
         ·go_simp
          rfl
         refine hK.out _ _ ?_
         clear hK K
         refine done_ (done_of HT_.out (by kernel_rfl)) ?_
         have hnb77 := NB176_172.out
         have hnc77 := NB172_176.out
         have hnb78 := NB176_173.out
         have hnc78 := NB173_176.out
         obtain ⟨hcz79_0, hcz79_1, hcz79_2, hfz79_0, hfz79_1, hfz79_2⟩ := bx3 BK176
         try go_wp2_with (first | ((with_reducible refine gate_builtin (b := .append) (xs := #[.tmp 81, .tmp 83]) rfl ?_); (try (refine gate_guard (by rfl) ?_; dsimp only)); at_builtin; refine Kd.R_append (Kd.int .i64) (w0 := w) w.heap.size rfl (.tmp 81) (.tmp 83) 27 2 (.int .i64 0) 8 rfl Try.underlying27 info2 rfl (by decide) (by omega) u177001 x177001_2 0 [.int .i64 0] (fun k_ => some k_ ≠ (.slice Ao75 y196.length co75 : Value).ownBlock) (fun _ => False) rfl (by first | (go_simp; done) | (go_simp; rfl)) ?aP (fun _ hk => hk.elim) ?aF ?aO ?aB ?aS ?aL ?_; (case aP => exact rfl); (case aB => exact (lS HB)); (case aF => exact (fun k_ hk => Kd.fresh' (Kd.R_lt (rT ((Kd.qZ (Kd.R_far (p := ⟨gb176, 0, none⟩) (Kd.R_types HO198.out BK176.out (by decide)) (fun _ hk => hk.2) (.slice Ao75 y196.length co75)) (fun _ h_ => h_.1))))) k_ hk)); (case aO => exact (rF HO_177001 BK176)); (case aS => exact (qF (lS HB))); (case aL => have := LMc72.out; omega); intro v200 w80 ho hb hg hat; rw [← Ny199.out] at ho; have HO201 := qS.mk (ho); replace BK172 := qS.mk (blk_grown (g := gb172) (o := .cells #[.slice A0_0 l0_0.length c0_0, .slice A0_1 l0_1.length c0_1, .int .i64 a0_2] 32 (0, 0)) (bQ BK172) hg (Kd.R_ne HO_177001.out BK172.out (by decide))); replace BK173 := qS.mk (blk_grown (g := gb173) (o := .cells #[.int .i64 x174000_2, .slice none 0 0, .slice none 0 0, .int .i64 x174003_2] 53 (0, 0)) (bQ BK173) hg (Kd.R_ne HO_177001.out BK173.out (by decide))); replace HO198 := qS.mk (Kd.R_after (ok := (fun _ => True)) (rT (Kd.qZ (Kd.R_far (p := ⟨gb176, 0, none⟩) (Kd.R_types HO198.out BK176.out (by decide)) (fun _ hk => hk.2) (.slice Ao75 y196.length co75)) (fun _ hk => ⟨trivial, hk.1⟩))) hg hat); replace BK176 := qS.mk (blk_grown (g := gb176) (o := .cells #[.slice Ao75 y196.length co75, u177001, .int .i64 a0_2] 32 (0, 0)) (bQ BK176) hg (Kd.R_ne HO_177001.out BK176.out (by decide))); replace HB := qS.mk (hb); clear HO_177001 ho hb hg hat; obtain ⟨Ao81, co81, eo81⟩ := Kd.qX HO201.out; subst eo81; obtain ⟨hcz82_0, hcz82_1, hcz82_2, hfz82_0, hfz82_1, hfz82_2⟩ := bx3 BK176))
         go_roundg k2
         case measure => have := HJ4.out; have := HK2.out; omega
         case rel => exact ⟨(wrap64 (x7_2 + 1)), (x174000_2), (x174003_2), (y196), (y199), (.slice Ao75 y196.length co75), (.slice Ao81 y199.length co81), rf, H', ⟨by have := HJ4.out; have := HK2.out; omega⟩, ⟨rF HO198 BK176⟩, ⟨rF HO201 BK176⟩, ⟨bQ BK172⟩, ⟨bQ BK173⟩, ⟨bQ BK176⟩, ⟨lS HB⟩⟩
       ·rw [if_neg c25] at H
        have c25b0 : decide (x7_2 < (l1.length : Int)) = false := decide_eq_false c25
        clear c25
        simp only [Option.some.injEq, Prod.mk.injEq] at H
        obtain ⟨rfl, rfl, rfl, rfl⟩ := H
        have hnb83 := NB176_172.out
        have hnc83 := NB172_176.out
        have hnb84 := NB176_173.out
        have hnc84 := NB173_176.out
        obtain ⟨hcz85_0, hcz85_1, hcz85_2, hfz85_0, hfz85_1, hfz85_2⟩ := bx3 BK176
        obtain ⟨Ao86, co86, eo86⟩ := Kd.qX HO_177001.out
        subst eo86
        obtain ⟨Ao87, co87, eo87⟩ := Kd.qX HO_177000.out
        subst eo87
        have hnb88 := NB173_172.out
        have hnc88 := NB172_173.out
        obtain ⟨hcz89_0, hcz89_1, hcz89_2, hcz89_3, hfz89_0, hfz89_1, hfz89_2, hfz89_3⟩ := bx4 BK173
        go_wp2
        refine bodyPost_ret (rC gb173 53 #[.int .i64 0, .slice Ao87 x177000_2.length co87, .slice Ao86 x177001_2.length co86, .int .i64 a0_2] (bQ BK173) Try.underlying53) rfl ?_
        exact ⟨_, _, rg, rF HO_177000 BK173, rF HO_177001 BK173, lS HB⟩
 ·replace c4 := Bool.eq_false_iff.mpr c4
  subst c4
  rw [if_neg (show ¬ (false = true) by decide)] at H
  simp only [Option.some.injEq, Prod.mk.injEq] at H
  obtain ⟨rfl, rfl, rfl, rfl⟩ := H
  go_enter Try.func54, Try.ntmps54
  go_wp2_with (first | ((with_reducible refine gate_dst (N := 2) rfl ?_); (try (refine gate_guard (by rfl) ?_; dsimp only)); refine bE #[.slice A0_0 l0_0.length c0_0, .slice A0_1 l0_1.length c0_1, .int .i64 a0_2] 32 ?_; intro gb172 hg w90 hbox hb; have BK172 := qS.mk (hbox); have GW172 := mG HB hg; have GE172 := mG HB hg; replace HB := mS HB hb; clear hb hbox hg) | ((with_reducible refine gate_dst (N := 4) rfl ?_); (try (refine gate_guard (by rfl) ?_; dsimp only)); refine bE #[.int .i64 0, .slice none 0 0, .slice none 0 0, .int .i64 0] 53 ?_; intro gb173 hg w91 hbox hb; have BK173 := qS.mk (hbox); have GW173 := mG HB hg; have GE173 := mG HB hg; have NB172_173 := mN BK172 hg; have NB173_172 := mM BK172 hg; replace BK172 := mB BK172 hb; replace HB := mS HB hb; clear hb hbox hg; have hnb92 := NB172_173.out; have hnc92 := NB173_172.out; obtain ⟨hcz93_0, hcz93_1, hcz93_2, hfz93_0, hfz93_1, hfz93_2⟩ := bx3 BK172) | ((with_reducible refine gate_callee (f := 24) rfl ?_); refine gL (some 10) Try.func24 #[.agg #[.slice A0_0 l0_0.length c0_0, .slice A0_1 l0_1.length c0_1, .int .i64 a0_2]] ?_; (with_reducible refine (zH.calls k _ _ l0_0 _ _ l0_1 a0_2 false _ (cS (Kd.qW HR0_0.out HB.out)) HC0_0.out (cS (Kd.qW HR0_1.out HB.out)) HC0_1.out A3.out).mono ?_); rintro e w94 ⟨rfl, hb⟩; refine ⟨_, rfl, ?_⟩; replace BK172 := mB BK172 hb; replace BK173 := mB BK173 hb; replace HB := mS HB hb; (try clear hb); (try clear hb2); (try clear hk); (try clear hi); obtain ⟨hcz95_0, hcz95_1, hcz95_2, hcz95_3, hfz95_0, hfz95_1, hfz95_2, hfz95_3⟩ := bx4 BK173))
  refine bodyPost_ret (rC gb173 53 #[.int .i64 12, .slice none 0 0, .slice none 0 0, .int .i64 0] (bQ BK173) Try.underlying53) rfl ?_
  exact ⟨_, _, rg, rN, rN, lS HB⟩

end Go.Proofs.Ytpmdgmnpkdoamaa.DFnViews
