/- Proved here: what the functions answer that the law on  comes to (the lines were written by a program). Conditions: those that stand ahead in each theorem. -/
import Derived.Test.YtpmdgmnpkdoamaaViWSq
import Derived.Test.YtpmdgmnpkdoamaaViDFnViewsx0
import Derived.Test.YtpmdgmnpkdoamaaViDFnViewsx4
import Derived.Test.YtpmdgmnpkdoamaaViDFnViewsx11
namespace Go.Proofs.Ytpmdgmnpkdoamaa.DFnViews
open Go.RowKit Go.Proofs.YtpmdgmnpkdoamaaW.PrintWords Go.Proofs.YtpmdgmnpkdoamaaW.PrintLast Go.Proofs.YtpmdgmnpkdoamaaW.PrintMore
attribute [local go_sem] max2_int min2_int max_two min_two max_three min_three max_four min_four   -- for this text's walks alone
set_option linter.unusedVariables false
set_option linter.unusedSimpArgs false

mutual
def impl_Slice.j0 : Nat → Int → Int → Int → Int → Bool → List Int → List Int → Int → Option (Int × List Int × List Int × Int)
 | 0, _, _, _, _, _, _, _, _ => none
 | k + 1, x1, x2, x3, x4, x19, x278000, x278001, x278002 => if x19 = true then (some (5, ([] : List Int), ([] : List Int), 0)) else (if x4 = 0 then (some (8, ([] : List Int), ([] : List Int), 0)) else ((impl_far.f x2).bind fun t280 => (if t280 = true then (some (8, ([] : List Int), ([] : List Int), 0)) else ((impl_far.f x3).bind fun t281 => (if t281 = true then (some (8, ([] : List Int), ([] : List Int), 0)) else ((impl_far.f x4).bind fun t282 => (if t282 = true then (some (8, ([] : List Int), ([] : List Int), 0)) else (if 0 ≤ x1 then (if x1 < (x278000.length : Int) then (if x4 > 0 then ((impl_end.f x2 (rd x278000 x1) 0 (rd x278000 x1)).bind fun t284 => ((impl_end.f x3 (rd x278000 x1) 0 (rd x278000 x1)).bind fun t285 => (if t285 > t284 then (impl_Slice.j1 k x1 t284 x4 (wrap64 (Int.tdiv (wrap64 ((wrap64 ((wrap64 (t285 - t284)) + x4)) - 1)) x4)) x278000 x278001 x278002) else (impl_Slice.j1 k x1 t284 x4 0 x278000 x278001 x278002)))) else ((impl_end.f x2 (rd x278000 x1) (-1) (wrap64 ((rd x278000 x1) - 1))).bind fun t286 => ((impl_end.f x3 (rd x278000 x1) (-1) (wrap64 ((rd x278000 x1) - 1))).bind fun t287 => (if t286 > t287 then (if (wrap64 (-x4)) = 0 then (none) else (impl_Slice.j1 k x1 t286 x4 (wrap64 (Int.tdiv (wrap64 ((wrap64 ((wrap64 (t286 - t287)) - x4)) - 1)) (wrap64 (-x4)))) x278000 x278001 x278002)) else (impl_Slice.j1 k x1 t286 x4 0 x278000 x278001 x278002))))) else (none)) else (none)))))))))
def impl_Slice.j1 : Nat → Int → Int → Int → Int → List Int → List Int → Int → Option (Int × List Int × List Int × Int)
 | 0, _, _, _, _, _, _, _ => none
 | k + 1, x1, x2, x4, x12, x278000, x278001, x278002 => (impl_copyView.f k x278000 x278001 x278002).bind fun bt288 => (if 0 ≤ x1 then (if x1 < (bt288.1.length : Int) then ((some (bt288.1.set (x1 : Int).toNat x12 : List Int)).bind fun y296 => ((zM.f k y296).bind fun t297 => (if t297 = 0 then (some (0, y296, bt288.2.1, bt288.2.2)) else (if x12 ≥ 2 then (if x1 < (bt288.2.1.length : Int) then (if x1 < (x278001.length : Int) then (some (0, y296, (bt288.2.1.set (x1 : Int).toNat (wrap64 ((rd bt288.2.1 x1) * x4))), wrap64 (bt288.2.2 + (wrap64 (x2 * (rd x278001 x1)))))) else (none)) else (none)) else (if x1 < (x278001.length : Int) then (some (0, y296, bt288.2.1, wrap64 (bt288.2.2 + (wrap64 (x2 * (rd x278001 x1)))))) else (none)))))) else (none)) else (none))
end
def impl_Slice.f (k : Nat) (l0_0 : List Int) (l0_1 : List Int) (a0_2 : Int) (a1 : Int) (a2 : Int) (a3 : Int) (a4 : Int) : Option (Int × List Int × List Int × Int) := (zI.f k l0_0 l0_1 a0_2).bind fun t279 => (if t279 = true then (if a1 < 0 then (impl_Slice.j0 k a1 a2 a3 a4 true l0_0 l0_1 a0_2) else (impl_Slice.j0 k a1 a2 a3 a4 (decide (a1 ≥ (l0_0.length : Int))) l0_0 l0_1 a0_2)) else (some (12, ([] : List Int), ([] : List Int), 0)))
theorem impl_Slice.mono_l : ∀ k, (∀ y0 y1 y2 y3 y4 y5 y6 y7, LeO (impl_Slice.j0 k y0 y1 y2 y3 y4 y5 y6 y7) (impl_Slice.j0 (k + 1) y0 y1 y2 y3 y4 y5 y6 y7)) ∧ (∀ y0 y1 y2 y3 y4 y5 y6, LeO (impl_Slice.j1 k y0 y1 y2 y3 y4 y5 y6) (impl_Slice.j1 (k + 1) y0 y1 y2 y3 y4 y5 y6))
 | 0 => ⟨fun _ _ _ _ _ _ _ _ r h => by simp [impl_Slice.j0] at h, fun _ _ _ _ _ _ _ r h => by simp [impl_Slice.j1] at h⟩
 | k + 1 => by
  obtain ⟨ih0, ih1⟩ := impl_Slice.mono_l k
  refine ⟨?_, ?_⟩
  ·intro y0 y1 y2 y3 y4 y5 y6 y7
   unfold impl_Slice.j0
   repeat' first
   | (with_reducible exact ih0 _ _ _ _ _ _ _ _)
   | (with_reducible exact ih1 _ _ _ _ _ _ _)
   | (with_reducible exact zI.mono _ _ _ _)
   | (with_reducible exact impl_copyView.mono _ _ _ _)
   | (with_reducible exact zM.mono _ _)
   | (with_reducible exact LeO.refl _)
   | (with_reducible exact LeO.none _)
   | (with_reducible refine LeO.ite ?_ ?_)
   | (with_reducible refine LeO.bind ?_ (fun _ => ?_))
   | exact ih0 _ _ _ _ _ _ _ _
   | exact ih1 _ _ _ _ _ _ _
   | exact zI.mono _ _ _ _
   | exact impl_copyView.mono _ _ _ _
   | exact zM.mono _ _
   | exact LeO.none _
   | refine LeO.ite ?_ ?_
   | refine LeO.bind ?_ (fun _ => ?_)
  ·intro y0 y1 y2 y3 y4 y5 y6
   unfold impl_Slice.j1
   repeat' first
   | (with_reducible exact ih0 _ _ _ _ _ _ _ _)
   | (with_reducible exact ih1 _ _ _ _ _ _ _)
   | (with_reducible exact zI.mono _ _ _ _)
   | (with_reducible exact impl_copyView.mono _ _ _ _)
   | (with_reducible exact zM.mono _ _)
   | (with_reducible exact LeO.refl _)
   | (with_reducible exact LeO.none _)
   | (with_reducible refine LeO.ite ?_ ?_)
   | (with_reducible refine LeO.bind ?_ (fun _ => ?_))
   | exact ih0 _ _ _ _ _ _ _ _
   | exact ih1 _ _ _ _ _ _ _
   | exact zI.mono _ _ _ _
   | exact impl_copyView.mono _ _ _ _
   | exact zM.mono _ _
   | exact LeO.none _
   | refine LeO.ite ?_ ?_
   | refine LeO.bind ?_ (fun _ => ?_)
theorem impl_Slice.mono : ∀ a0 a1 a2 a3 a4 a5 a6 k, LeO (impl_Slice.f k a0 a1 a2 a3 a4 a5 a6) (impl_Slice.f (k + 1) a0 a1 a2 a3 a4 a5 a6) := by
 intro a0 a1 a2 a3 a4 a5 a6 k
 obtain ⟨ih0, ih1⟩ := impl_Slice.mono_l k
 unfold impl_Slice.f
 repeat' first
   | (with_reducible exact ih0 _ _ _ _ _ _ _ _)
   | (with_reducible exact ih1 _ _ _ _ _ _ _)
   | (with_reducible exact zI.mono _ _ _ _)
   | (with_reducible exact impl_copyView.mono _ _ _ _)
   | (with_reducible exact zM.mono _ _)
   | (with_reducible exact LeO.refl _)
   | (with_reducible exact LeO.none _)
   | (with_reducible refine LeO.ite ?_ ?_)
   | (with_reducible refine LeO.bind ?_ (fun _ => ?_))
   | exact ih0 _ _ _ _ _ _ _ _
   | exact ih1 _ _ _ _ _ _ _
   | exact zI.mono _ _ _ _
   | exact impl_copyView.mono _ _ _ _
   | exact zM.mono _ _
   | exact LeO.none _
   | refine LeO.ite ?_ ?_
   | refine LeO.bind ?_ (fun _ => ?_)
def impl_Slice.T22 : Bool × List (List Nat × List Nat) := (true, [([], []), ([0], [0]), ([], []), ([], []), ([3], [3]), ([], []), ([4, 5], [4, 5]), ([6], [6]), ([2, 7], [2, 7]), ([1, 8], [1, 8]), ([0, 1, 2, 3, 4, 5, 6, 7, 8, 9], []), ([10, 9, 0, 1, 2, 3, 4, 5, 6, 7, 8, 9], [9, 10])])
def impl_Slice.B22 : List Nat := [0, 1, 0, 0, 8, 0, 56, 120, 252, 511, 1023, 2047]
theorem impl_Slice.tab22 : rtab .any (opsOf Try.f60 22) = impl_Slice.T22 := by kernel_rfl
theorem impl_Slice.bits22 : waitsOk impl_Slice.T22.2 impl_Slice.B22 = true := by kernel_rfl
set_option maxHeartbeats 8000000 in
set_option maxRecDepth 100000 in
theorem impl_Slice.calls (k : Nat) (A0_0 : Option Addr) (c0_0 : Nat) (l0_0 : List Int) (A0_1 : Option Addr) (c0_1 : Nat) (l0_1 : List Int) (a0_2 : Int) (a1 : Int) (a2 : Int) (a3 : Int) (a4 : Int) (r1 : Int) (r2 : List Int) (r3 : List Int) (r4 : Int) (w : World) (hr0_0 : Kd.C (Kd.int .i64) w A0_0 l0_0.length l0_0) (hc0_0 : l0_0.length ≤ c0_0) (hr0_1 : Kd.C (Kd.int .i64) w A0_1 l0_1.length l0_1) (hc0_1 : l0_1.length ≤ c0_1) (h : impl_Slice.f k l0_0 l0_1 a0_2 a1 a2 a3 a4 = some (r1, r2, r3, r4)) :
  Calls Try.prog 60 #[.agg #[.slice A0_0 l0_0.length c0_0, .slice A0_1 l0_1.length c0_1, .int .i64 a0_2], .int .i64 a1, .int .i64 a2, .int .i64 a3, .int .i64 a4] w fun e w' => ∃ v1_ v2_ : Value, e = .returned (.agg #[.int .i64 r1, v1_, v2_, .int .i64 r4]) ∧ Kd.R (Kd.int .i64) 2 w' w.heap.size (fun k_ => some k_ ≠ (v2_ : Value).ownBlock) v1_ r2 ∧ Kd.R (Kd.int .i64) 2 w' w.heap.size (fun k_ => some k_ ≠ (v1_ : Value).ownBlock) v2_ r3 ∧ Below w.heap.size w w' := by
 have hu32 := Try.underlying32
 have hu53 := Try.underlying53
 have HR0_0 := qS.mk hr0_0
 have HC0_0 := qS.mk hc0_0
 clear hr0_0 hc0_0
 have HR0_1 := qS.mk hr0_1
 have HC0_1 := qS.mk hc0_1
 clear hr0_1 hc0_1
 have HB := qS.mk (Below.refl w.heap.size w)
 have H : ((zI.f k l0_0 l0_1 a0_2).bind fun t279 => (if t279 = true then (if a1 < 0 then (impl_Slice.j0 k a1 a2 a3 a4 true l0_0 l0_1 a0_2) else (impl_Slice.j0 k a1 a2 a3 a4 (decide (a1 ≥ (l0_0.length : Int))) l0_0 l0_1 a0_2)) else (some (12, ([] : List Int), ([] : List Int), 0)))) = some (r1, r2, r3, r4) := h
 clear h
 replace H := Option.bind_eq_some_iff.mp H
 obtain ⟨t279, A60, H⟩ := H
 try dsimp only at H
 have A6 := qS.mk A60
 clear A60
 by_cases c7 : t279 = true
 ·subst c7
  rw [if_pos rfl] at H
  have HC8 := qS.mk H
  clear H
  go_enter Try.func60, Try.ntmps60
  go_upto_region 3 with (first | ((with_reducible refine gate_dst (N := 5) rfl ?_); (try (refine gate_guard (by rfl) ?_; dsimp only)); refine bE #[.slice A0_0 l0_0.length c0_0, .slice A0_1 l0_1.length c0_1, .int .i64 a0_2] 32 ?_; intro gb277 hg w9 hbox hb; have BK277 := qS.mk (hbox); have GW277 := mG HB hg; have GE277 := mG HB hg; replace HB := mS HB hb; clear hb hbox hg) | ((with_reducible refine gate_dst (N := 10) rfl ?_); (try (refine gate_guard (by rfl) ?_; dsimp only)); refine bE #[.int .i64 0, .slice none 0 0, .slice none 0 0, .int .i64 0] 53 ?_; intro gb278 hg w10 hbox hb; have BK278 := qS.mk (hbox); have GW278 := mG HB hg; have GE278 := mG HB hg; have NB277_278 := mN BK277 hg; have NB278_277 := mM BK277 hg; replace BK277 := mB BK277 hb; replace HB := mS HB hb; clear hb hbox hg; have hnb11 := NB277_278.out; have hnc11 := NB278_277.out; obtain ⟨hcz12_0, hcz12_1, hcz12_2, hfz12_0, hfz12_1, hfz12_2⟩ := bx3 BK277) | ((with_reducible refine gate_callee (f := 26) rfl ?_); refine gL (some 16) Try.func26 #[.agg #[.slice A0_0 l0_0.length c0_0, .slice A0_1 l0_1.length c0_1, .int .i64 a0_2]] ?_; (with_reducible refine (zI.calls k _ _ l0_0 _ _ l0_1 a0_2 true _ (cS (Kd.qW HR0_0.out HB.out)) HC0_0.out (cS (Kd.qW HR0_1.out HB.out)) HC0_1.out A6.out).mono ?_); rintro e w13 ⟨rfl, hb⟩; refine ⟨_, rfl, ?_⟩; replace BK277 := mB BK277 hb; replace BK278 := mB BK278 hb; replace HB := mS HB hb; (try clear hb); (try clear hb2); (try clear hk); (try clear hi)))
  (try simp only [Act.put, List.setIfInBounds_toArray, List.set_cons_zero, List.set_cons_succ])
  go_cut [19] (fun v19 wc => ∃ (kq : Nat) (x19_7 : Bool), v19 = .bool x19_7 ∧ qS (impl_Slice.j0 kq a1 a2 a3 a4 x19_7 l0_0 l0_1 a0_2 = some (r1, r2, r3, r4)) ∧ qS (kq ≤ k) ∧ qS (wc.heap[gb277]? = some (.cells #[(.slice A0_0 l0_0.length c0_0), (.slice A0_1 l0_1.length c0_1), .int .i64 a0_2] 32 (0, 0))) ∧ qS (wc.heap[gb278]? = some (.cells #[.int .i64 0, (.slice none 0 0), (.slice none 0 0), .int .i64 0] 53 (0, 0))) ∧ qS (Below w.heap.size w wc))
  case first =>
   have H := HC8.out
   clear HC8
   by_cases c14 : a1 < 0
   ·rw [if_pos c14] at H
    have c14b0 : decide (a1 < 0) = true := decide_eq_true c14
    clear c14
    (first | rw [c14b0] | (simp only [i64_w, i32_w]; rw [c14b0]) | skip)
    have H' := qS.mk H
    clear H
    go_wp2
    go_meet
    case rel => exact ⟨_, (true), rf, H', ⟨by first | omega | exact Nat.le_refl _⟩, ⟨bS BK277⟩, ⟨bS BK278⟩, ⟨lS HB⟩⟩
   ·rw [if_neg c14] at H
    have c14b0 : decide (a1 < 0) = false := decide_eq_false c14
    clear c14
    (first | rw [c14b0] | (simp only [i64_w, i32_w]; rw [c14b0]) | skip)
    have H' := qS.mk H
    clear H
    have hnb15 := NB277_278.out
    have hnc15 := NB278_277.out
    obtain ⟨hcz16_0, hcz16_1, hcz16_2, hfz16_0, hfz16_1, hfz16_2⟩ := bx3 BK277
    go_wp2
    go_meet
    case rel => exact ⟨_, (decide (a1 ≥ (l0_0.length : Int))), rf, H', ⟨by first | omega | exact Nat.le_refl _⟩, ⟨bS BK277⟩, ⟨bS BK278⟩, ⟨lS HB⟩⟩
  case rest =>
   clear HC8
   (try clear c7); (try clear hcz12_0); (try clear hcz12_1); (try clear hcz12_2); (try clear hfz12_0); (try clear hfz12_1); (try clear hfz12_2)
   obtain ⟨kq, x19_7, rfl, HA, HJ7, BK277, BK278, HB⟩ := hcut
   cases kq with
   | zero => exact absurd HA.out (by simp [impl_Slice.j0])
   | succ kj7 =>
    have H := HA.out
    clear HA
    simp only [impl_Slice.j0] at H
    by_cases c17 : x19_7 = true
    ·subst c17
     rw [if_pos rfl] at H
     simp only [Option.some.injEq, Prod.mk.injEq] at H
     obtain ⟨rfl, rfl, rfl, rfl⟩ := H
     have hnb18 := NB278_277.out
     have hnc18 := NB277_278.out
     obtain ⟨hcz19_0, hcz19_1, hcz19_2, hcz19_3, hfz19_0, hfz19_1, hfz19_2, hfz19_3⟩ := bx4 BK278
     go_wp2
     refine bodyPost_ret (rC gb278 53 #[.int .i64 5, .slice none 0 0, .slice none 0 0, .int .i64 0] (bQ BK278) Try.underlying53) rfl ?_
     exact ⟨_, _, rg, rN, rN, lS HB⟩
    ·replace c17 := Bool.eq_false_iff.mpr c17
     subst c17
     rw [if_neg (show ¬ (false = true) by decide)] at H
     by_cases c20 : a4 = 0
     ·rw [if_pos c20] at H
      have c20b0 : (a4 == 0) = true := beq_iff_eq.mpr c20
      have c20b1 : (a4 != 0) = false := bne_eq_false_iff_eq.mpr c20
      clear c20
      simp only [Option.some.injEq, Prod.mk.injEq] at H
      obtain ⟨rfl, rfl, rfl, rfl⟩ := H
      have hnb21 := NB278_277.out
      have hnc21 := NB277_278.out
      obtain ⟨hcz22_0, hcz22_1, hcz22_2, hcz22_3, hfz22_0, hfz22_1, hfz22_2, hfz22_3⟩ := bx4 BK278
      go_wp2
      refine bodyPost_ret (rC gb278 53 #[.int .i64 8, .slice none 0 0, .slice none 0 0, .int .i64 0] (bQ BK278) Try.underlying53) rfl ?_
      exact ⟨_, _, rg, rN, rN, lS HB⟩
     ·rw [if_neg c20] at H
      have c20b0 : (a4 == 0) = false := beq_eq_false_iff_ne.mpr c20
      have c20b1 : (a4 != 0) = true := bne_iff_ne.mpr c20
      replace H := Option.bind_eq_some_iff.mp H
      obtain ⟨t280, A230, H⟩ := H
      try dsimp only at H
      have A23 := qS.mk A230
      clear A230
      by_cases c24 : t280 = true
      ·subst c24
       rw [if_pos rfl] at H
       simp only [Option.some.injEq, Prod.mk.injEq] at H
       obtain ⟨rfl, rfl, rfl, rfl⟩ := H
       go_wp2_with (first | (go_at_call 102; (with_reducible refine (impl_far.calls a2 true _ A23.out).mono ?_); rintro e w' ⟨rfl, ⟨nd, rfl⟩⟩; (try (rw [drewN_self wc]; generalize hq_ : World.drewN wc _ = wc; replace BK277 : qS (wc.heap[gb277]? = some (.cells #[.slice A0_0 l0_0.length c0_0, .slice A0_1 l0_1.length c0_1, .int .i64 a0_2] 32 (0, 0))) := ⟨by rw [← hq_]; exact (bS BK277)⟩; replace BK278 : qS (wc.heap[gb278]? = some (.cells #[.int .i64 0, .slice none 0 0, .slice none 0 0, .int .i64 0] 53 (0, 0))) := ⟨by rw [← hq_]; exact (bS BK278)⟩; replace HB : qS (Below w.heap.size w wc) := ⟨by rw [← hq_]; exact (lS HB)⟩; clear hq_)); have hnb25 := NB278_277.out; have hnc25 := NB277_278.out; obtain ⟨hcz26_0, hcz26_1, hcz26_2, hcz26_3, hfz26_0, hfz26_1, hfz26_2, hfz26_3⟩ := bx4 BK278))
       refine bodyPost_ret (rC gb278 53 #[.int .i64 8, .slice none 0 0, .slice none 0 0, .int .i64 0] (bQ BK278) Try.underlying53) rfl ?_
       exact ⟨_, _, rg, rN, rN, lS HB⟩
      ·replace c24 := Bool.eq_false_iff.mpr c24
       subst c24
       rw [if_neg (show ¬ (false = true) by decide)] at H
       replace H := Option.bind_eq_some_iff.mp H
       obtain ⟨t281, A270, H⟩ := H
       try dsimp only at H
       have A27 := qS.mk A270
       clear A270
       by_cases c28 : t281 = true
       ·subst c28
        rw [if_pos rfl] at H
        simp only [Option.some.injEq, Prod.mk.injEq] at H
        obtain ⟨rfl, rfl, rfl, rfl⟩ := H
        go_wp2_with (first | (go_at_call 102; (with_reducible refine (impl_far.calls a2 false _ A23.out).mono ?_); rintro e w' ⟨rfl, ⟨nd, rfl⟩⟩; (try (rw [drewN_self wc]; generalize hq_ : World.drewN wc _ = wc; replace BK277 : qS (wc.heap[gb277]? = some (.cells #[.slice A0_0 l0_0.length c0_0, .slice A0_1 l0_1.length c0_1, .int .i64 a0_2] 32 (0, 0))) := ⟨by rw [← hq_]; exact (bS BK277)⟩; replace BK278 : qS (wc.heap[gb278]? = some (.cells #[.int .i64 0, .slice none 0 0, .slice none 0 0, .int .i64 0] 53 (0, 0))) := ⟨by rw [← hq_]; exact (bS BK278)⟩; replace HB : qS (Below w.heap.size w wc) := ⟨by rw [← hq_]; exact (lS HB)⟩; clear hq_))) | (go_at_call 102; (with_reducible refine (impl_far.calls a3 true _ A27.out).mono ?_); rintro e w' ⟨rfl, ⟨nd, rfl⟩⟩; (try (rw [drewN_self wc]; generalize hq_ : World.drewN wc _ = wc; replace BK277 : qS (wc.heap[gb277]? = some (.cells #[.slice A0_0 l0_0.length c0_0, .slice A0_1 l0_1.length c0_1, .int .i64 a0_2] 32 (0, 0))) := ⟨by rw [← hq_]; exact (bS BK277)⟩; replace BK278 : qS (wc.heap[gb278]? = some (.cells #[.int .i64 0, .slice none 0 0, .slice none 0 0, .int .i64 0] 53 (0, 0))) := ⟨by rw [← hq_]; exact (bS BK278)⟩; replace HB : qS (Below w.heap.size w wc) := ⟨by rw [← hq_]; exact (lS HB)⟩; clear hq_)); have hnb29 := NB278_277.out; have hnc29 := NB277_278.out; obtain ⟨hcz30_0, hcz30_1, hcz30_2, hcz30_3, hfz30_0, hfz30_1, hfz30_2, hfz30_3⟩ := bx4 BK278))
        refine bodyPost_ret (rC gb278 53 #[.int .i64 8, .slice none 0 0, .slice none 0 0, .int .i64 0] (bQ BK278) Try.underlying53) rfl ?_
        exact ⟨_, _, rg, rN, rN, lS HB⟩
       ·replace c28 := Bool.eq_false_iff.mpr c28
        subst c28
        rw [if_neg (show ¬ (false = true) by decide)] at H
        replace H := Option.bind_eq_some_iff.mp H
        obtain ⟨t282, A310, H⟩ := H
        try dsimp only at H
        have A31 := qS.mk A310
        clear A310
        by_cases c32 : t282 = true
        ·subst c32
         rw [if_pos rfl] at H
         simp only [Option.some.injEq, Prod.mk.injEq] at H
         obtain ⟨rfl, rfl, rfl, rfl⟩ := H
         go_wp2_with (first | (go_at_call 102; (with_reducible refine (impl_far.calls a2 false _ A23.out).mono ?_); rintro e w' ⟨rfl, ⟨nd, rfl⟩⟩; (try (rw [drewN_self wc]; generalize hq_ : World.drewN wc _ = wc; replace BK277 : qS (wc.heap[gb277]? = some (.cells #[.slice A0_0 l0_0.length c0_0, .slice A0_1 l0_1.length c0_1, .int .i64 a0_2] 32 (0, 0))) := ⟨by rw [← hq_]; exact (bS BK277)⟩; replace BK278 : qS (wc.heap[gb278]? = some (.cells #[.int .i64 0, .slice none 0 0, .slice none 0 0, .int .i64 0] 53 (0, 0))) := ⟨by rw [← hq_]; exact (bS BK278)⟩; replace HB : qS (Below w.heap.size w wc) := ⟨by rw [← hq_]; exact (lS HB)⟩; clear hq_))) | (go_at_call 102; (with_reducible refine (impl_far.calls a3 false _ A27.out).mono ?_); rintro e w' ⟨rfl, ⟨nd, rfl⟩⟩; (try (rw [drewN_self wc]; generalize hq_ : World.drewN wc _ = wc; replace BK277 : qS (wc.heap[gb277]? = some (.cells #[.slice A0_0 l0_0.length c0_0, .slice A0_1 l0_1.length c0_1, .int .i64 a0_2] 32 (0, 0))) := ⟨by rw [← hq_]; exact (bS BK277)⟩; replace BK278 : qS (wc.heap[gb278]? = some (.cells #[.int .i64 0, .slice none 0 0, .slice none 0 0, .int .i64 0] 53 (0, 0))) := ⟨by rw [← hq_]; exact (bS BK278)⟩; replace HB : qS (Below w.heap.size w wc) := ⟨by rw [← hq_]; exact (lS HB)⟩; clear hq_))) | (go_at_call 102; (with_reducible refine (impl_far.calls a4 true _ A31.out).mono ?_); rintro e w' ⟨rfl, ⟨nd, rfl⟩⟩; (try (rw [drewN_self wc]; generalize hq_ : World.drewN wc _ = wc; replace BK277 : qS (wc.heap[gb277]? = some (.cells #[.slice A0_0 l0_0.length c0_0, .slice A0_1 l0_1.length c0_1, .int .i64 a0_2] 32 (0, 0))) := ⟨by rw [← hq_]; exact (bS BK277)⟩; replace BK278 : qS (wc.heap[gb278]? = some (.cells #[.int .i64 0, .slice none 0 0, .slice none 0 0, .int .i64 0] 53 (0, 0))) := ⟨by rw [← hq_]; exact (bS BK278)⟩; replace HB : qS (Below w.heap.size w wc) := ⟨by rw [← hq_]; exact (lS HB)⟩; clear hq_)); have hnb33 := NB278_277.out; have hnc33 := NB277_278.out; obtain ⟨hcz34_0, hcz34_1, hcz34_2, hcz34_3, hfz34_0, hfz34_1, hfz34_2, hfz34_3⟩ := bx4 BK278))
         refine bodyPost_ret (rC gb278 53 #[.int .i64 8, .slice none 0 0, .slice none 0 0, .int .i64 0] (bQ BK278) Try.underlying53) rfl ?_
         exact ⟨_, _, rg, rN, rN, lS HB⟩
        ·replace c32 := Bool.eq_false_iff.mpr c32
         subst c32
         rw [if_neg (show ¬ (false = true) by decide)] at H
         replace H := gN H
         obtain ⟨c35, H⟩ := H
         have c35b0 : decide (0 ≤ a1) = true := decide_eq_true c35
         clear c35
         replace H := gN H
         obtain ⟨c36, H⟩ := H
         have c36b0 : decide (a1 < (l0_0.length : Int)) = true := decide_eq_true c36
         clear c36
         have HC37 := qS.mk H
         clear H
         go_upto_if 52 with (first | (go_at_call 102; (with_reducible refine (impl_far.calls a2 false _ A23.out).mono ?_); rintro e w' ⟨rfl, ⟨nd, rfl⟩⟩) | (go_at_call 102; (with_reducible refine (impl_far.calls a3 false _ A27.out).mono ?_); rintro e w' ⟨rfl, ⟨nd, rfl⟩⟩) | (go_at_call 102; (with_reducible refine (impl_far.calls a4 false _ A31.out).mono ?_); rintro e w' ⟨rfl, ⟨nd, rfl⟩⟩; have hnb38 := NB277_278.out; have hnc38 := NB278_277.out; obtain ⟨hcz39_0, hcz39_1, hcz39_2, hfz39_0, hfz39_1, hfz39_2⟩ := bx3 BK277; have p283 : 0 ≤ (a1 : Int) := of_decide_eq_true (by assumption); have q283 : a1 < (l0_0.length : Int) := of_decide_eq_true (by assumption); obtain ⟨ad283, e283, hx283_0⟩ := Kd.at_int HR0_0.out a1 p283 q283; cases e283; replace hx283_0 := cU HB hx283_0; replace p283 := eq_true p283; replace q283 := eq_true q283))
         (try simp only [Act.put, List.setIfInBounds_toArray, List.set_cons_zero, List.set_cons_succ])
         go_cut [2, 12] (fun v2 v12 wc => ∃ (kq : Nat) (x2_36 : Int) (x12_36 : Int), v2 = .int .i64 x2_36 ∧ v12 = .int .i64 x12_36 ∧ qS (impl_Slice.j1 kq a1 x2_36 a4 x12_36 l0_0 l0_1 a0_2 = some (r1, r2, r3, r4)) ∧ qS (kq ≤ kj7) ∧ qS (wc.heap[gb277]? = some (.cells #[(.slice (some ad283) l0_0.length c0_0), (.slice A0_1 l0_1.length c0_1), .int .i64 a0_2] 32 (0, 0))) ∧ qS (wc.heap[gb278]? = some (.cells #[.int .i64 0, (.slice none 0 0), (.slice none 0 0), .int .i64 0] 53 (0, 0))) ∧ qS (Below w.heap.size w wc))
         case first =>
          have H := HC37.out
          clear HC37
          by_cases c40 : a4 > 0
          ·rw [if_pos c40] at H
           have c40b0 : decide (0 < a4) = true := decide_eq_true c40
           clear c40
           (first | rw [c40b0] | (simp only [i64_w, i32_w]; rw [c40b0]) | skip)
           replace H := Option.bind_eq_some_iff.mp H
           obtain ⟨t284, A410, H⟩ := H
           try dsimp only at H
           have A41 := qS.mk A410
           clear A410
           replace H := Option.bind_eq_some_iff.mp H
           obtain ⟨t285, A420, H⟩ := H
           try dsimp only at H
           have A42 := qS.mk A420
           clear A420
           by_cases c43 : t285 > t284
           ·rw [if_pos c43] at H
            have c43b0 : decide (t284 < t285) = true := decide_eq_true c43
            clear c43
            have H' := qS.mk H
            clear H
            go_wp2_with (first | ((with_reducible refine gate_callee (f := 103) rfl ?_); refine gL (some 56) Try.func103 #[.int .i64 a2, .int .i64 (rd l0_0 a1), .int .i64 0, .int .i64 (rd l0_0 a1)] ?_; (with_reducible refine (impl_end.calls a2 (rd l0_0 a1) 0 (rd l0_0 a1) t284 _ A41.out).mono ?_); rintro e w44 ⟨rfl, hb⟩; refine ⟨_, rfl, ?_⟩; replace BK277 := mB BK277 hb; replace BK278 := mB BK278 hb; replace HB := mS HB hb; (try clear hb); (try clear hb2); (try clear hk); (try clear hi)) | ((with_reducible refine gate_callee (f := 103) rfl ?_); refine gL (some 60) Try.func103 #[.int .i64 a3, .int .i64 (rd l0_0 a1), .int .i64 0, .int .i64 (rd l0_0 a1)] ?_; (with_reducible refine (impl_end.calls a3 (rd l0_0 a1) 0 (rd l0_0 a1) t285 _ A42.out).mono ?_); rintro e w45 ⟨rfl, hb⟩; refine ⟨_, rfl, ?_⟩; replace BK277 := mB BK277 hb; replace BK278 := mB BK278 hb; replace HB := mS HB hb; (try clear hb); (try clear hb2); (try clear hk); (try clear hi)))
            go_meet
            case rel => exact ⟨_, (t284), (wrap64 (Int.tdiv (wrap64 ((wrap64 ((wrap64 (t285 - t284)) + a4)) - 1)) a4)), rf, rf, H', ⟨by have := HJ7.out; first | omega | exact Nat.le_refl _⟩, ⟨bS BK277⟩, ⟨bS BK278⟩, ⟨lS HB⟩⟩
           ·rw [if_neg c43] at H
            have c43b0 : decide (t284 < t285) = false := decide_eq_false c43
            clear c43
            have H' := qS.mk H
            clear H
            go_wp2_with (first | ((with_reducible refine gate_callee (f := 103) rfl ?_); refine gL (some 56) Try.func103 #[.int .i64 a2, .int .i64 (rd l0_0 a1), .int .i64 0, .int .i64 (rd l0_0 a1)] ?_; (with_reducible refine (impl_end.calls a2 (rd l0_0 a1) 0 (rd l0_0 a1) t284 _ A41.out).mono ?_); rintro e w46 ⟨rfl, hb⟩; refine ⟨_, rfl, ?_⟩; replace BK277 := mB BK277 hb; replace BK278 := mB BK278 hb; replace HB := mS HB hb; (try clear hb); (try clear hb2); (try clear hk); (try clear hi)) | ((with_reducible refine gate_callee (f := 103) rfl ?_); refine gL (some 60) Try.func103 #[.int .i64 a3, .int .i64 (rd l0_0 a1), .int .i64 0, .int .i64 (rd l0_0 a1)] ?_; (with_reducible refine (impl_end.calls a3 (rd l0_0 a1) 0 (rd l0_0 a1) t285 _ A42.out).mono ?_); rintro e w47 ⟨rfl, hb⟩; refine ⟨_, rfl, ?_⟩; replace BK277 := mB BK277 hb; replace BK278 := mB BK278 hb; replace HB := mS HB hb; (try clear hb); (try clear hb2); (try clear hk); (try clear hi)))
            go_meet
            case rel => exact ⟨_, (t284), (0), rf, rf, H', ⟨by have := HJ7.out; first | omega | exact Nat.le_refl _⟩, ⟨bS BK277⟩, ⟨bS BK278⟩, ⟨lS HB⟩⟩
          ·rw [if_neg c40] at H
           have c40b0 : decide (0 < a4) = false := decide_eq_false c40
           clear c40
           (first | rw [c40b0] | (simp only [i64_w, i32_w]; rw [c40b0]) | skip)
           replace H := Option.bind_eq_some_iff.mp H
           obtain ⟨t286, A480, H⟩ := H
           try dsimp only at H
           have A48 := qS.mk A480
           clear A480
           replace H := Option.bind_eq_some_iff.mp H
           obtain ⟨t287, A490, H⟩ := H
           try dsimp only at H
           have A49 := qS.mk A490
           clear A490
           by_cases c50 : t286 > t287
           ·rw [if_pos c50] at H
            have c50b0 : decide (t287 < t286) = true := decide_eq_true c50
            clear c50
            replace H := gP H
            obtain ⟨c51, H⟩ := H
            have c51b0 : ((wrap64 (-a4)) == 0) = false := beq_eq_false_iff_ne.mpr c51
            have c51b1 : ((wrap64 (-a4)) != 0) = true := bne_iff_ne.mpr c51
            have H' := qS.mk H
            clear H
            go_wp2_with (first | ((with_reducible refine gate_callee (f := 103) rfl ?_); refine gL (some 76) Try.func103 #[.int .i64 a2, .int .i64 (rd l0_0 a1), .int .i64 (-1), .int .i64 (wrap64 ((rd l0_0 a1) - 1))] ?_; (with_reducible refine (impl_end.calls a2 (rd l0_0 a1) (-1) (wrap64 ((rd l0_0 a1) - 1)) t286 _ A48.out).mono ?_); rintro e w52 ⟨rfl, hb⟩; refine ⟨_, rfl, ?_⟩; replace BK277 := mB BK277 hb; replace BK278 := mB BK278 hb; replace HB := mS HB hb; (try clear hb); (try clear hb2); (try clear hk); (try clear hi)) | ((with_reducible refine gate_callee (f := 103) rfl ?_); refine gL (some 81) Try.func103 #[.int .i64 a3, .int .i64 (rd l0_0 a1), .int .i64 (-1), .int .i64 (wrap64 ((rd l0_0 a1) - 1))] ?_; (with_reducible refine (impl_end.calls a3 (rd l0_0 a1) (-1) (wrap64 ((rd l0_0 a1) - 1)) t287 _ A49.out).mono ?_); rintro e w53 ⟨rfl, hb⟩; refine ⟨_, rfl, ?_⟩; replace BK277 := mB BK277 hb; replace BK278 := mB BK278 hb; replace HB := mS HB hb; (try clear hb); (try clear hb2); (try clear hk); (try clear hi)))
            go_meet
            case rel => exact ⟨_, (t286), (wrap64 (Int.tdiv (wrap64 ((wrap64 ((wrap64 (t286 - t287)) - a4)) - 1)) (wrap64 (-a4)))), rf, rf, H', ⟨by have := HJ7.out; first | omega | exact Nat.le_refl _⟩, ⟨bS BK277⟩, ⟨bS BK278⟩, ⟨lS HB⟩⟩
           ·rw [if_neg c50] at H
            have c50b0 : decide (t287 < t286) = false := decide_eq_false c50
            clear c50
            have H' := qS.mk H
            clear H
            go_wp2_with (first | ((with_reducible refine gate_callee (f := 103) rfl ?_); refine gL (some 76) Try.func103 #[.int .i64 a2, .int .i64 (rd l0_0 a1), .int .i64 (-1), .int .i64 (wrap64 ((rd l0_0 a1) - 1))] ?_; (with_reducible refine (impl_end.calls a2 (rd l0_0 a1) (-1) (wrap64 ((rd l0_0 a1) - 1)) t286 _ A48.out).mono ?_); rintro e w54 ⟨rfl, hb⟩; refine ⟨_, rfl, ?_⟩; replace BK277 := mB BK277 hb; replace BK278 := mB BK278 hb; replace HB := mS HB hb; (try clear hb); (try clear hb2); (try clear hk); (try clear hi)) | ((with_reducible refine gate_callee (f := 103) rfl ?_); refine gL (some 81) Try.func103 #[.int .i64 a3, .int .i64 (rd l0_0 a1), .int .i64 (-1), .int .i64 (wrap64 ((rd l0_0 a1) - 1))] ?_; (with_reducible refine (impl_end.calls a3 (rd l0_0 a1) (-1) (wrap64 ((rd l0_0 a1) - 1)) t287 _ A49.out).mono ?_); rintro e w55 ⟨rfl, hb⟩; refine ⟨_, rfl, ?_⟩; replace BK277 := mB BK277 hb; replace BK278 := mB BK278 hb; replace HB := mS HB hb; (try clear hb); (try clear hb2); (try clear hk); (try clear hi)))
            go_meet
            case rel => exact ⟨_, (t286), (0), rf, rf, H', ⟨by have := HJ7.out; first | omega | exact Nat.le_refl _⟩, ⟨bS BK277⟩, ⟨bS BK278⟩, ⟨lS HB⟩⟩
         case rest =>
          clear HC37
          (try clear c7); (try clear c17); (try clear c20); (try clear c20b0); (try clear c20b1); (try clear c24); (try clear c28); (try clear c32); (try clear c35); (try clear c35b0); (try clear c36); (try clear c36b0); (try clear hcz12_0); (try clear hcz12_1); (try clear hcz12_2); (try clear hcz39_0); (try clear hcz39_1); (try clear hcz39_2); (try clear hfz12_0); (try clear hfz12_1); (try clear hfz12_2); (try clear hfz39_0); (try clear hfz39_1); (try clear hfz39_2); (try clear hx283_0); (try clear p283); (try clear q283)
          obtain ⟨kq, x2_36, x12_36, rfl, rfl, HA, HJ36, BK277, BK278, HB⟩ := hcut
          cases kq with
          | zero => exact absurd HA.out (by simp [impl_Slice.j1])
          | succ kj36 =>
           have H := HA.out
           clear HA
           simp only [impl_Slice.j1] at H
           replace H := Option.bind_eq_some_iff.mp H
           obtain ⟨⟨t288, t291, t294⟩, A560, H⟩ := H
           try dsimp only at H
           have A56 := qS.mk A560
           clear A560
           replace H := gN H
           obtain ⟨c57, H⟩ := H
           have c57b0 : decide (0 ≤ a1) = true := decide_eq_true c57
           clear c57
           replace H := gN H
           obtain ⟨c58, H⟩ := H
           have c58b0 : decide (a1 < (t288.length : Int)) = true := decide_eq_true c58
           clear c58
           obtain ⟨y296, hy296⟩ : ∃ y_ : List Int, y_ = (t288.set (a1 : Int).toNat x12_36) := ⟨_, rfl⟩
           replace H : ((zM.f kj36 y296).bind fun t297 => (if t297 = 0 then (some (0, y296, t291, t294)) else (if x12_36 ≥ 2 then (if a1 < (t291.length : Int) then (if a1 < (l0_1.length : Int) then (some (0, y296, (t291.set (a1 : Int).toNat (wrap64 ((rd t291 a1) * a4))), wrap64 (t294 + (wrap64 (x2_36 * (rd l0_1 a1)))))) else (none)) else (none)) else (if a1 < (l0_1.length : Int) then (some (0, y296, t291, wrap64 (t294 + (wrap64 (x2_36 * (rd l0_1 a1)))))) else (none))))) = some (r1, r2, r3, r4) := by first | (rw [hy296]; with_reducible exact H) | (have H2_ := (Option.bind_some _ _).symm.trans H; rw [hy296]; with_reducible exact H2_) | (have H2_ := (Option.bind_some _ _).symm.trans H; with_reducible exact H2_) | with_reducible exact H | (rw [hy296]; exact H) | exact H
           have Ny296 := qS.mk hy296
           clear hy296
           replace H := Option.bind_eq_some_iff.mp H
           obtain ⟨t297, A600, H⟩ := H
           try dsimp only at H
           have A60 := qS.mk A600
           clear A600
           by_cases c61 : t297 = 0
           ·rw [if_pos c61] at H
            have c61b0 : (t297 == 0) = true := beq_iff_eq.mpr c61
            have c61b1 : (t297 != 0) = false := bne_eq_false_iff_eq.mpr c61
            clear c61
            simp only [Option.some.injEq, Prod.mk.injEq] at H
            obtain ⟨rfl, rfl, rfl, rfl⟩ := H
            have hnb62 := NB277_278.out
            have hnc62 := NB278_277.out
            obtain ⟨hcz63_0, hcz63_1, hcz63_2, hfz63_0, hfz63_1, hfz63_2⟩ := bx3 BK277
            go_wp2_with (first | ((with_reducible refine gate_callee (f := 104) rfl ?_); refine gL (some 95) Try.func104 #[.agg #[.slice (some ad283) l0_0.length c0_0, .slice A0_1 l0_1.length c0_1, .int .i64 a0_2]] ?_; (with_reducible refine (impl_copyView.calls kj36 _ _ l0_0 _ _ l0_1 a0_2 t288 t291 t294 _ (cS (Kd.qW HR0_0.out HB.out)) HC0_0.out (cS (Kd.qW HR0_1.out HB.out)) HC0_1.out A56.out).mono ?_); rintro e w64 ⟨v289, v292, rfl, ho0, ho1, hb⟩; refine ⟨_, rfl, ?_⟩; have HO290 := qS.mk (Kd.R_lower ho0 (qF (lS HB))); have HO293 := qS.mk (Kd.R_lower ho1 (qF (lS HB))); replace BK277 := mB BK277 hb; replace BK278 := mB BK278 hb; replace HB := mS HB hb; (try clear hb); (try clear hb2); (try clear hk); (try clear hi); (try clear ho0); (try clear ho1)) | ((with_reducible refine gate_dst (N := 13) rfl ?_); (try (refine gate_guard (by rfl) ?_; dsimp only)); refine bE #[.slice none 0 0, .slice none 0 0, .int .i64 0] 32 ?_; intro gb295 hg w65 hbox hb; have BK295 := qS.mk (hbox); have GW295 := mG HB hg; have GE295 := mG HB hg; have NB277_295 := mN BK277 hg; have NB295_277 := mM BK277 hg; have NB278_295 := mN BK278 hg; have NB295_278 := mM BK278 hg; replace HO290 := mR HO290 hb; replace HO293 := mR HO293 hb; replace BK277 := mB BK277 hb; replace BK278 := mB BK278 hb; replace HB := mS HB hb; clear hb hbox hg; obtain ⟨Ao66, co66, eo66⟩ := Kd.qX HO290.out; subst eo66; have hnb67 := NB295_277.out; have hnc67 := NB277_295.out; have hnb68 := NB295_278.out; have hnc68 := NB278_295.out; obtain ⟨hcz69_0, hcz69_1, hcz69_2, hfz69_0, hfz69_1, hfz69_2⟩ := bx3 BK295; obtain ⟨Ao70, co70, eo70⟩ := Kd.qX HO293.out; subst eo70) | ((with_reducible refine gate_store (t := 32) (p := 13) rfl ?_); refine sE (w1 := ((w65.setCell ⟨gb295, 0, none⟩ (.slice Ao66 t288.length co66)).setCell ⟨gb295, 1, none⟩ (.slice Ao70 t291.length co70)).setCell ⟨gb295, 2, none⟩ (.int .i64 t294)) ?_; intro w71 hw; replace HO290 : qS (Kd.R (Kd.int .i64) 2 w71 w.heap.size (fun k_ => some k_ ≠ (.slice Ao70 t291.length co70 : Value).ownBlock) (.slice Ao66 t288.length co66) t288) := ⟨(by rw [hw]; exact (rF HO290 BK295))⟩; replace HO293 : qS (Kd.R (Kd.int .i64) 2 w71 w.heap.size (fun k_ => some k_ ≠ (.slice Ao66 t288.length co66 : Value).ownBlock) (.slice Ao70 t291.length co70) t291) := ⟨(by rw [hw]; exact (rF HO293 BK295))⟩; replace BK277 : qS (w71.heap[gb277]? = some (.cells #[.slice (some ad283) l0_0.length c0_0, .slice A0_1 l0_1.length c0_1, .int .i64 a0_2] 32 (0, 0))) := ⟨hw ▸ bQ BK277⟩; replace BK278 : qS (w71.heap[gb278]? = some (.cells #[.int .i64 0, .slice none 0 0, .slice none 0 0, .int .i64 0] 53 (0, 0))) := ⟨hw ▸ bQ BK278⟩; replace BK295 : qS (w71.heap[gb295]? = some (.cells #[.slice Ao66 t288.length co66, .slice Ao70 t291.length co70, .int .i64 t294] 32 (0, 0))) := ⟨hw ▸ bQ BK295⟩; replace HB := lW HB hw; clear hw; obtain ⟨hcz72_0, hcz72_1, hcz72_2, hfz72_0, hfz72_1, hfz72_2⟩ := bx3 BK295; have p59 : 0 ≤ (a1 : Int) := of_decide_eq_true (by assumption); have q59 : (a1 : Int) < ((t288.length : Int) : Int) := of_decide_eq_true (by assumption); obtain ⟨go59, co59, eo59, gb59, gl59, cl59, HG59⟩ := Kd.R_form HO290.out (by omega); (first | cases eo59 | (injection eo59 with ea_ en_ ec_; (first | subst ea_ | (injection ea_ with ea_; subst ea_)); subst ec_; clear en_)); have GB59 := qS.mk gb59; have GG59 := qS.mk HG59; clear gb59 gl59 HG59; obtain ⟨hx59_0, hf59_0⟩ := Kd.R_celln 0 HO290.out (a1 : Int) p59 q59; replace p59 := eq_true p59; replace q59 := eq_true q59; obtain ⟨hy73_, hz73_⟩ := Kd.R_celln 0 HO290.out (a1 : Int) (of_decide_eq_true (by assumption)) (of_decide_eq_true (by assumption)); have HP73 := Kd.R_putg HO290.out (a1 : Int) x12_36) | ((with_reducible refine gate_store (t := 2) (p := 100) rfl ?_); refine sE (w1 := w71.setCell ⟨go59, (a1 : Int).toNat, none⟩ (.int .i64 x12_36)) ?_; intro w74 hw; have hg : w71.grownBy w74 (some go59) := (by rw [hw]; exact HP73.2); have hp_ : Kd.R (Kd.int .i64) 2 w74 w.heap.size (fun k_ => some k_ ≠ (.slice Ao70 t291.length co70 : Value).ownBlock) (.slice (some ⟨go59, 0, none⟩) t288.length co66) y296 := (by rw [hw, Ny296.out]; exact HP73.1); clear HP73; replace BK277 := gB BK277 hg (Kd.R_ne HO290.out BK277.out (by decide)); replace BK278 := gB BK278 hg (Kd.R_ne HO290.out BK278.out (by decide)); replace HO293 := qS.mk (Kd.R_after (v := (.slice (some ⟨go59, 0, none⟩) t288.length co66)) (v1 := (.slice (some ⟨go59, 0, none⟩) t288.length co66)) (ok := (fun _ => True)) (rT (Kd.qZ HO293.out (fun _ hk => ⟨trivial, hk⟩))) hg (.inl rfl)); replace BK295 := gB BK295 hg (Kd.R_ne HO290.out BK295.out (by decide)); replace HO290 := qS.mk (hp_); replace HB := qS.mk ((by rw [hw]; exact qD (HB.out) GB59.out : Below w.heap.size w w74)); clear hg hw hp_; obtain ⟨hcz75_0, hcz75_1, hcz75_2, hfz75_0, hfz75_1, hfz75_2⟩ := bx3 BK295) | ((with_reducible refine gate_callee (f := 81) rfl ?_); refine qT (some 103) rfl rfl Try.func81 (by kernel_rfl) rfl #[.slice (some ⟨go59, 0, none⟩) y296.length co66] rfl (by (try simp only [List.map_toArray, List.map_cons, List.map_nil]); first | done | (rw [show y296.length = t288.length from (Kd.qY HO290.out).1.symm] <;> rfl) | rfl | (simp only [List.length_drop, List.length_take]; rfl)) ?_; (with_reducible refine (zM.calls kj36 _ _ y296 t297 _ (cS (Kd.qY HO290.out).2.2) ?side2 A60.out).mono ?_); (case side2 => rw [show y296.length = t288.length from (Kd.qY HO290.out).1.symm]; exact (Kd.qY HO290.out).2.1); rintro e w' ⟨rfl, ⟨nd, rfl⟩⟩; refine ⟨_, rfl, ?_⟩; (try (rw [drewN_self w74]; generalize hq_ : World.drewN w74 _ = w74; replace HO290 : qS (Kd.R (Kd.int .i64) 2 w74 w.heap.size (fun k_ => some k_ ≠ (.slice Ao70 t291.length co70 : Value).ownBlock) (.slice (some ⟨go59, 0, none⟩) t288.length co66) y296) := ⟨by rw [← hq_]; exact (rS HO290)⟩; replace HO293 : qS (Kd.R (Kd.int .i64) 2 w74 w.heap.size (fun k_ => some k_ ≠ (.slice (some ⟨go59, 0, none⟩) t288.length co66 : Value).ownBlock) (.slice Ao70 t291.length co70) t291) := ⟨by rw [← hq_]; exact (rT (Kd.qZ HO293.out (fun _ hk => by first | exact hk.2 | (simp only [ne_eq, hk, not_false_eq_true, and_self, true_and, and_true]))))⟩; replace BK277 : qS (w74.heap[gb277]? = some (.cells #[.slice (some ad283) l0_0.length c0_0, .slice A0_1 l0_1.length c0_1, .int .i64 a0_2] 32 (0, 0))) := ⟨by rw [← hq_]; exact (bS BK277)⟩; replace BK278 : qS (w74.heap[gb278]? = some (.cells #[.int .i64 0, .slice none 0 0, .slice none 0 0, .int .i64 0] 53 (0, 0))) := ⟨by rw [← hq_]; exact (bS BK278)⟩; replace BK295 : qS (w74.heap[gb295]? = some (.cells #[.slice (some ⟨go59, 0, none⟩) t288.length co66, .slice Ao70 t291.length co70, .int .i64 t294] 32 (0, 0))) := ⟨by rw [← hq_]; exact (bS BK295)⟩; replace HB : qS (Below w.heap.size w w74) := ⟨by rw [← hq_]; exact (lS HB)⟩; clear hq_)); obtain ⟨hcz76_0, hcz76_1, hcz76_2, hcz76_3, -⟩ := bx4 BK278; have hcq_0 : w74.cell? ⟨gb295, 0, none⟩ = some (.slice (some ⟨go59, 0, none⟩) t288.length co66) := (qJ BK295.out 0).trans rfl; have hcq_1 : w74.cell? ⟨gb295, 1, none⟩ = some (.slice Ao70 t291.length co70) := (qJ BK295.out 1).trans rfl; have hcq_2 : w74.cell? ⟨gb295, 2, none⟩ = some (.int .i64 t294) := (qJ BK295.out 2).trans rfl; have hfz76_0 := qK BK278.out 0; have hfz76_1 := qK BK278.out 1; have hfz76_2 := qK BK278.out 2; have hfz76_3 := qK BK278.out 3))
            refine bodyPost_ret (rC gb278 53 #[.int .i64 0, .slice (some ⟨go59, 0, none⟩) t288.length co66, .slice Ao70 t291.length co70, .int .i64 t294] (bQ BK278) Try.underlying53) rfl ?_
            exact ⟨_, _, rg, rF HO290 BK278, rT (Kd.qZ (Kd.R_far (p := ⟨gb278, 3, none⟩) (Kd.R_far (p := ⟨gb278, 2, none⟩) (Kd.R_far (p := ⟨gb278, 1, none⟩) (Kd.R_far (p := ⟨gb278, 0, none⟩) (Kd.R_types HO293.out BK278.out (by decide)) (fun _ hk => by first | exact hk.2 | (simp only [ne_eq, hk, not_false_eq_true, and_self, true_and, and_true])) (.int .i64 0)) (fun _ hk => by first | exact hk.2 | (simp only [ne_eq, hk, not_false_eq_true, and_self, true_and, and_true])) (.slice (some ⟨go59, 0, none⟩) t288.length co66)) (fun _ hk => by first | exact hk.2 | (simp only [ne_eq, hk, not_false_eq_true, and_self, true_and, and_true])) (.slice Ao70 t291.length co70)) (fun _ hk => by first | exact hk.2 | (simp only [ne_eq, hk, not_false_eq_true, and_self, true_and, and_true])) (.int .i64 t294)) (fun _ hk => by first | exact hk.1.2 | (simp only [ne_eq, hk, not_false_eq_true, and_self, true_and, and_true]))), lS HB⟩
           ·rw [if_neg c61] at H
            have c61b0 : (t297 == 0) = false := beq_eq_false_iff_ne.mpr c61
            have c61b1 : (t297 != 0) = true := bne_iff_ne.mpr c61
            by_cases c77 : x12_36 ≥ 2
            ·rw [if_pos c77] at H
             have c77b0 : decide (2 ≤ x12_36) = true := decide_eq_true c77
             clear c77
             replace H := gN H
             obtain ⟨c78, H⟩ := H
             have c78b0 : decide (a1 < (t291.length : Int)) = true := decide_eq_true c78
             clear c78
             obtain ⟨y299, hy299⟩ : ∃ y_ : List Int, y_ = (t291.set (a1 : Int).toNat (wrap64 ((rd t291 a1) * a4))) := ⟨_, rfl⟩
             replace H : (if a1 < (l0_1.length : Int) then (some (0, y296, y299, wrap64 (t294 + (wrap64 (x2_36 * (rd l0_1 a1)))))) else (none)) = some (r1, r2, r3, r4) := by first | (rw [hy299]; with_reducible exact H) | (have H2_ := (Option.bind_some _ _).symm.trans H; rw [hy299]; with_reducible exact H2_) | (have H2_ := (Option.bind_some _ _).symm.trans H; with_reducible exact H2_) | with_reducible exact H | (rw [hy299]; exact H) | exact H
             have Ny299 := qS.mk hy299
             clear hy299
             replace H := gN H
             obtain ⟨c80, H⟩ := H
             have c80b0 : decide (a1 < (l0_1.length : Int)) = true := decide_eq_true c80
             clear c80
             simp only [Option.some.injEq, Prod.mk.injEq] at H
             obtain ⟨rfl, rfl, rfl, rfl⟩ := H
             have hnb81 := NB277_278.out
             have hnc81 := NB278_277.out
             obtain ⟨hcz82_0, hcz82_1, hcz82_2, hfz82_0, hfz82_1, hfz82_2⟩ := bx3 BK277
             try go_wp2_with (first | ((with_reducible refine gate_callee (f := 104) rfl ?_); refine gL (some 95) Try.func104 #[.agg #[.slice (some ad283) l0_0.length c0_0, .slice A0_1 l0_1.length c0_1, .int .i64 a0_2]] ?_; (with_reducible refine (impl_copyView.calls kj36 _ _ l0_0 _ _ l0_1 a0_2 t288 t291 t294 _ (cS (Kd.qW HR0_0.out HB.out)) HC0_0.out (cS (Kd.qW HR0_1.out HB.out)) HC0_1.out A56.out).mono ?_); rintro e w83 ⟨v289, v292, rfl, ho0, ho1, hb⟩; refine ⟨_, rfl, ?_⟩; have HO290 := qS.mk (Kd.R_lower ho0 (qF (lS HB))); have HO293 := qS.mk (Kd.R_lower ho1 (qF (lS HB))); replace BK277 := mB BK277 hb; replace BK278 := mB BK278 hb; replace HB := mS HB hb; (try clear hb); (try clear hb2); (try clear hk); (try clear hi); (try clear ho0); (try clear ho1)) | ((with_reducible refine gate_dst (N := 13) rfl ?_); (try (refine gate_guard (by rfl) ?_; dsimp only)); refine bE #[.slice none 0 0, .slice none 0 0, .int .i64 0] 32 ?_; intro gb295 hg w84 hbox hb; have BK295 := qS.mk (hbox); have GW295 := mG HB hg; have GE295 := mG HB hg; have NB277_295 := mN BK277 hg; have NB295_277 := mM BK277 hg; have NB278_295 := mN BK278 hg; have NB295_278 := mM BK278 hg; replace HO290 := mR HO290 hb; replace HO293 := mR HO293 hb; replace BK277 := mB BK277 hb; replace BK278 := mB BK278 hb; replace HB := mS HB hb; clear hb hbox hg; obtain ⟨Ao85, co85, eo85⟩ := Kd.qX HO290.out; subst eo85; have hnb86 := NB295_277.out; have hnc86 := NB277_295.out; have hnb87 := NB295_278.out; have hnc87 := NB278_295.out; obtain ⟨hcz88_0, hcz88_1, hcz88_2, hfz88_0, hfz88_1, hfz88_2⟩ := bx3 BK295; obtain ⟨Ao89, co89, eo89⟩ := Kd.qX HO293.out; subst eo89) | ((with_reducible refine gate_store (t := 32) (p := 13) rfl ?_); refine sE (w1 := ((w84.setCell ⟨gb295, 0, none⟩ (.slice Ao85 t288.length co85)).setCell ⟨gb295, 1, none⟩ (.slice Ao89 t291.length co89)).setCell ⟨gb295, 2, none⟩ (.int .i64 t294)) ?_; intro w90 hw; replace HO290 : qS (Kd.R (Kd.int .i64) 2 w90 w.heap.size (fun k_ => some k_ ≠ (.slice Ao89 t291.length co89 : Value).ownBlock) (.slice Ao85 t288.length co85) t288) := ⟨(by rw [hw]; exact (rF HO290 BK295))⟩; replace HO293 : qS (Kd.R (Kd.int .i64) 2 w90 w.heap.size (fun k_ => some k_ ≠ (.slice Ao85 t288.length co85 : Value).ownBlock) (.slice Ao89 t291.length co89) t291) := ⟨(by rw [hw]; exact (rF HO293 BK295))⟩; replace BK277 : qS (w90.heap[gb277]? = some (.cells #[.slice (some ad283) l0_0.length c0_0, .slice A0_1 l0_1.length c0_1, .int .i64 a0_2] 32 (0, 0))) := ⟨hw ▸ bQ BK277⟩; replace BK278 : qS (w90.heap[gb278]? = some (.cells #[.int .i64 0, .slice none 0 0, .slice none 0 0, .int .i64 0] 53 (0, 0))) := ⟨hw ▸ bQ BK278⟩; replace BK295 : qS (w90.heap[gb295]? = some (.cells #[.slice Ao85 t288.length co85, .slice Ao89 t291.length co89, .int .i64 t294] 32 (0, 0))) := ⟨hw ▸ bQ BK295⟩; replace HB := lW HB hw; clear hw; obtain ⟨hcz91_0, hcz91_1, hcz91_2, hfz91_0, hfz91_1, hfz91_2⟩ := bx3 BK295; have p59 : 0 ≤ (a1 : Int) := of_decide_eq_true (by assumption); have q59 : (a1 : Int) < ((t288.length : Int) : Int) := of_decide_eq_true (by assumption); obtain ⟨go59, co59, eo59, gb59, gl59, cl59, HG59⟩ := Kd.R_form HO290.out (by omega); (first | cases eo59 | (injection eo59 with ea_ en_ ec_; (first | subst ea_ | (injection ea_ with ea_; subst ea_)); subst ec_; clear en_)); have GB59 := qS.mk gb59; have GG59 := qS.mk HG59; clear gb59 gl59 HG59; obtain ⟨hx59_0, hf59_0⟩ := Kd.R_celln 0 HO290.out (a1 : Int) p59 q59; replace p59 := eq_true p59; replace q59 := eq_true q59; obtain ⟨hy92_, hz92_⟩ := Kd.R_celln 0 HO290.out (a1 : Int) (of_decide_eq_true (by assumption)) (of_decide_eq_true (by assumption)); have HP92 := Kd.R_putg HO290.out (a1 : Int) x12_36) | ((with_reducible refine gate_store (t := 2) (p := 100) rfl ?_); refine sE (w1 := w90.setCell ⟨go59, (a1 : Int).toNat, none⟩ (.int .i64 x12_36)) ?_; intro w93 hw; have hg : w90.grownBy w93 (some go59) := (by rw [hw]; exact HP92.2); have hp_ : Kd.R (Kd.int .i64) 2 w93 w.heap.size (fun k_ => some k_ ≠ (.slice Ao89 t291.length co89 : Value).ownBlock) (.slice (some ⟨go59, 0, none⟩) t288.length co85) y296 := (by rw [hw, Ny296.out]; exact HP92.1); clear HP92; replace BK277 := gB BK277 hg (Kd.R_ne HO290.out BK277.out (by decide)); replace BK278 := gB BK278 hg (Kd.R_ne HO290.out BK278.out (by decide)); replace HO293 := qS.mk (Kd.R_after (v := (.slice (some ⟨go59, 0, none⟩) t288.length co85)) (v1 := (.slice (some ⟨go59, 0, none⟩) t288.length co85)) (ok := (fun _ => True)) (rT (Kd.qZ HO293.out (fun _ hk => ⟨trivial, hk⟩))) hg (.inl rfl)); replace BK295 := gB BK295 hg (Kd.R_ne HO290.out BK295.out (by decide)); replace HO290 := qS.mk (hp_); replace HB := qS.mk ((by rw [hw]; exact qD (HB.out) GB59.out : Below w.heap.size w w93)); clear hg hw hp_; obtain ⟨hcz94_0, hcz94_1, hcz94_2, hfz94_0, hfz94_1, hfz94_2⟩ := bx3 BK295) | ((with_reducible refine gate_callee (f := 81) rfl ?_); refine qT (some 103) rfl rfl Try.func81 (by kernel_rfl) rfl #[.slice (some ⟨go59, 0, none⟩) y296.length co85] rfl (by (try simp only [List.map_toArray, List.map_cons, List.map_nil]); first | done | (rw [show y296.length = t288.length from (Kd.qY HO290.out).1.symm] <;> rfl) | rfl | (simp only [List.length_drop, List.length_take]; rfl)) ?_; (with_reducible refine (zM.calls kj36 _ _ y296 t297 _ (cS (Kd.qY HO290.out).2.2) ?side2 A60.out).mono ?_); (case side2 => rw [show y296.length = t288.length from (Kd.qY HO290.out).1.symm]; exact (Kd.qY HO290.out).2.1); rintro e w' ⟨rfl, ⟨nd, rfl⟩⟩; refine ⟨_, rfl, ?_⟩; (try (rw [drewN_self w93]; generalize hq_ : World.drewN w93 _ = w93; replace HO290 : qS (Kd.R (Kd.int .i64) 2 w93 w.heap.size (fun k_ => some k_ ≠ (.slice Ao89 t291.length co89 : Value).ownBlock) (.slice (some ⟨go59, 0, none⟩) t288.length co85) y296) := ⟨by rw [← hq_]; exact (rS HO290)⟩; replace HO293 : qS (Kd.R (Kd.int .i64) 2 w93 w.heap.size (fun k_ => some k_ ≠ (.slice (some ⟨go59, 0, none⟩) t288.length co85 : Value).ownBlock) (.slice Ao89 t291.length co89) t291) := ⟨by rw [← hq_]; exact (rT (Kd.qZ HO293.out (fun _ hk => by first | exact hk.2 | (simp only [ne_eq, hk, not_false_eq_true, and_self, true_and, and_true]))))⟩; replace BK277 : qS (w93.heap[gb277]? = some (.cells #[.slice (some ad283) l0_0.length c0_0, .slice A0_1 l0_1.length c0_1, .int .i64 a0_2] 32 (0, 0))) := ⟨by rw [← hq_]; exact (bS BK277)⟩; replace BK278 : qS (w93.heap[gb278]? = some (.cells #[.int .i64 0, .slice none 0 0, .slice none 0 0, .int .i64 0] 53 (0, 0))) := ⟨by rw [← hq_]; exact (bS BK278)⟩; replace BK295 : qS (w93.heap[gb295]? = some (.cells #[.slice (some ⟨go59, 0, none⟩) t288.length co85, .slice Ao89 t291.length co89, .int .i64 t294] 32 (0, 0))) := ⟨by rw [← hq_]; exact (bS BK295)⟩; replace HB : qS (Below w.heap.size w w93) := ⟨by rw [← hq_]; exact (lS HB)⟩; clear hq_; have hcq_0 : w93.cell? ⟨gb295, 0, none⟩ = some (.slice (some ⟨go59, 0, none⟩) t288.length co85) := (qJ BK295.out 0).trans rfl; have hcq_1 : w93.cell? ⟨gb295, 1, none⟩ = some (.slice Ao89 t291.length co89) := (qJ BK295.out 1).trans rfl; have hcq_2 : w93.cell? ⟨gb295, 2, none⟩ = some (.int .i64 t294) := (qJ BK295.out 2).trans rfl)); have p298 : 0 ≤ (a1 : Int) := of_decide_eq_true (by assumption); have q298 : a1 < (t291.length : Int) := of_decide_eq_true (by assumption); obtain ⟨ad298, e298, hx298_0⟩ := Kd.at_int (Kd.qY HO293.out).2.2 a1 p298 q298; cases e298; replace p298 := eq_true p298; replace q298 := eq_true q298; have p79 : 0 ≤ (a1 : Int) := of_decide_eq_true (by assumption); have q79 : (a1 : Int) < ((t291.length : Int) : Int) := of_decide_eq_true (by assumption); obtain ⟨go79, co79, eo79, gb79, gl79, cl79, HG79⟩ := Kd.R_form HO293.out (by omega); (first | cases eo79 | (injection eo79 with ea_ en_ ec_; (first | subst ea_ | (injection ea_ with ea_; subst ea_)); subst ec_; clear en_)); have GB79 := qS.mk gb79; have GG79 := qS.mk HG79; clear gb79 gl79 HG79; (first | simp only [add_plain] at hx298_0 | skip); obtain ⟨hx79_0, hf79_0⟩ := Kd.R_celln 0 HO293.out (a1 : Int) p79 q79; replace p79 := eq_true p79; replace q79 := eq_true q79; have n_ := qS.mk (Kd.qZ (ok' := (fun k_ => some k_ ≠ (.slice (some ⟨go59, 0, none⟩) t288.length co85 : Value).ownBlock)) HO293.out (fun k_ hk => by first | exact hk.2 | (simp only [ne_eq, hk, not_false_eq_true, and_self, true_and, and_true]))); clear HO293; have HO293 := n_; clear n_; obtain ⟨hy95_, hz95_⟩ := Kd.R_celln 0 HO293.out (a1 : Int) (of_decide_eq_true (by assumption)) (of_decide_eq_true (by assumption)); have HP95 := Kd.R_putg HO293.out (a1 : Int) (wrap64 ((rd t291 a1) * a4))) | ((with_reducible refine gate_store (t := 2) (p := 116) rfl ?_); refine sE (w1 := w93.setCell ⟨go79, (a1 : Int).toNat, none⟩ (.int .i64 (wrap64 ((rd t291 a1) * a4)))) ?_; intro w96 hw; have hg : w93.grownBy w96 (some go79) := (by rw [hw]; exact HP95.2); have hp_ : Kd.R (Kd.int .i64) 2 w96 w.heap.size (fun k_ => some k_ ≠ (.slice (some ⟨go59, 0, none⟩) t288.length co85 : Value).ownBlock) (.slice (some ⟨go79, 0, none⟩) t291.length co89) y299 := (by rw [hw, Ny299.out]; exact HP95.1); clear HP95; replace BK277 := gB BK277 hg (Kd.R_ne HO293.out BK277.out (by decide)); replace BK278 := gB BK278 hg (Kd.R_ne HO293.out BK278.out (by decide)); replace HO290 := qS.mk (Kd.R_after (v := (.slice (some ⟨go79, 0, none⟩) t291.length co89)) (v1 := (.slice (some ⟨go79, 0, none⟩) t291.length co89)) (ok := (fun _ => True)) (rT (Kd.qZ HO290.out (fun _ hk => ⟨trivial, hk⟩))) hg (.inl rfl)); replace BK295 := gB BK295 hg (Kd.R_ne HO293.out BK295.out (by decide)); replace HO293 := qS.mk (hp_); replace HB := qS.mk ((by rw [hw]; exact qD (HB.out) GB79.out : Below w.heap.size w w96)); clear hg hw hp_))
             replace HO290 := rD HO290; replace HO293 := rD HO293; replace BK277 := bD BK277; replace BK278 := bD BK278; replace BK295 := bD BK295; replace HB := lD HB
             obtain ⟨ad300, e300, hx300_0, hw300_0, p300, q300⟩ := aI HR0_1 HB a1
             cases e300
             refine start_ (n := 12) (S := fun w' => w'.cell? ⟨gb295, 0, none⟩ = some (.slice (some ⟨go59, 0, none⟩) t288.length co85) ∧ w'.cell? ⟨gb295, 1, none⟩ = some (.slice (some ⟨go79, 0, none⟩) t291.length co89) ∧ w'.cell? ⟨gb295, 2, none⟩ = some (.int .i64 t294) ∧ w'.cell? ⟨gb277, 0, none⟩ = some (.slice (some ad283) l0_0.length c0_0) ∧ w'.cell? ⟨gb277, 1, none⟩ = some (.slice (some ad300) l0_1.length c0_1) ∧ w'.cell? ⟨gb277, 2, none⟩ = some (.int .i64 a0_2) ∧ w'.cell? (ad300.add (a1).toNat) = some (.int .i64 (rd l0_1 a1))) (ds := [11]) (bs 12 0) (by kernel_rfl) rfl rfl ⟨(qJ BK295.out 0).trans rfl, (qJ BK295.out 1).trans rfl, (qJ BK295.out 2).trans rfl, (qJ BK277.out 0).trans rfl, (qJ BK277.out 1).trans rfl, (qJ BK277.out 2).trans rfl, (cU HB hw300_0)⟩ (fun hHeld => ?_); refine with_tabW impl_Slice.tab22 impl_Slice.bits22 (fun HT_ HW_ => ?_)
             generalize w96.drew = w97 at HO290 HO293 BK277 BK278 BK295 HB hx300_0 hHeld ⊢
             refine pS 0 117 (bs 12 1) HT_ ?_
             refine pS 2 119 (bs 12 5) HT_ ?_
             refine pS 3 120 (bs 12 13) HT_ ?_
             refine pS 5 122 (bs 12 45) HT_ ?_
             refine tS 1 118 (bs 12 47) HT_ HW_ hHeld ?_
             refine tS 4 121 (bs 12 63) HT_ HW_ hHeld ?_
             refine pS 6 123 (bs 12 127) HT_ ?_
             refine tS 7 124 (bs 12 255) HT_ HW_ hHeld ?_
             refine pS 8 125 (bs 12 511) HT_ ?_
             refine pS 9 126 (bs 12 1023) HT_ ?_
             refine pS 10 127 (bs 12 2047) HT_ ?_
             refine last_ (i := 11) (N := none) (bs 12 4095) rfl rfl (one_of HT_.out (by kernel_rfl)) (by decide) (fun K hK => ?_)
             have hs98 : w97.cell? ⟨gb295, 2, none⟩ = some (.int .i64 t294) := (qJ BK295.out 2).trans rfl
             have hfs98 := qK BK295.out 2
             have hns98_0 := NB277_295.out
             have hns98_1 := NB278_295.out
             have hms98_0 := NB295_277.out
             have hms98_1 := NB295_278.out
             refine skip_ (w1 := ?_) (by rfl) rfl ?_ ?_
             rotate_left
             ·go_simp
              rfl
             refine hK.out _ _ ?_
             clear hK K
             refine done_ (done_of HT_.out (by kernel_rfl)) ?_
             obtain ⟨hcz99_0, hcz99_1, hcz99_2, hfz99_0, hfz99_1, hfz99_2⟩ := bx3 BK295
             obtain ⟨hcz100_0, hcz100_1, hcz100_2, hcz100_3, hfz100_0, hfz100_1, hfz100_2, hfz100_3⟩ := bx4 BK278
             try go_wp2
             refine bodyPost_ret (rC gb278 53 #[.int .i64 0, .slice (some ⟨go59, 0, none⟩) t288.length co85, .slice (some ⟨go79, 0, none⟩) t291.length co89, .int .i64 (wrap64 (t294 + (wrap64 (x2_36 * (rd l0_1 a1)))))] (bQ ⟨zN (p := ⟨gb295, 2, none⟩) BK278.out NB278_295.out (.int .i64 (wrap64 (t294 + (wrap64 (x2_36 * (rd l0_1 a1))))))⟩) Try.underlying53) rfl ?_
             exact ⟨_, _, rg, rT (Kd.qZ (Kd.R_far (p := ⟨gb278, 3, none⟩) (Kd.R_far (p := ⟨gb278, 2, none⟩) (Kd.R_far (p := ⟨gb278, 1, none⟩) (Kd.R_far (p := ⟨gb278, 0, none⟩) (Kd.R_far (p := ⟨gb295, 2, none⟩) (Kd.R_types (Kd.R_types HO290.out BK295.out (by decide)) BK278.out (by decide)) (fun _ hk => by first | exact hk.1.2 | (simp only [ne_eq, hk, not_false_eq_true, and_self, true_and, and_true])) (.int .i64 (wrap64 (t294 + (wrap64 (x2_36 * (rd l0_1 a1))))))) (fun _ hk => by first | exact hk.2 | (simp only [ne_eq, hk, not_false_eq_true, and_self, true_and, and_true])) (.int .i64 0)) (fun _ hk => by first | exact hk.2 | (simp only [ne_eq, hk, not_false_eq_true, and_self, true_and, and_true])) (.slice (some ⟨go59, 0, none⟩) t288.length co85)) (fun _ hk => by first | exact hk.2 | (simp only [ne_eq, hk, not_false_eq_true, and_self, true_and, and_true])) (.slice (some ⟨go79, 0, none⟩) t291.length co89)) (fun _ hk => by first | exact hk.2 | (simp only [ne_eq, hk, not_false_eq_true, and_self, true_and, and_true])) (.int .i64 (wrap64 (t294 + (wrap64 (x2_36 * (rd l0_1 a1))))))) (fun _ hk => by first | exact hk.1.1.2 | (simp only [ne_eq, hk, not_false_eq_true, and_self, true_and, and_true]))), rT (Kd.qZ (Kd.R_far (p := ⟨gb278, 3, none⟩) (Kd.R_far (p := ⟨gb278, 2, none⟩) (Kd.R_far (p := ⟨gb278, 1, none⟩) (Kd.R_far (p := ⟨gb278, 0, none⟩) (Kd.R_far (p := ⟨gb295, 2, none⟩) (Kd.R_types (Kd.R_types HO293.out BK295.out (by decide)) BK278.out (by decide)) (fun _ hk => by first | exact hk.1.2 | (simp only [ne_eq, hk, not_false_eq_true, and_self, true_and, and_true])) (.int .i64 (wrap64 (t294 + (wrap64 (x2_36 * (rd l0_1 a1))))))) (fun _ hk => by first | exact hk.2 | (simp only [ne_eq, hk, not_false_eq_true, and_self, true_and, and_true])) (.int .i64 0)) (fun _ hk => by first | exact hk.2 | (simp only [ne_eq, hk, not_false_eq_true, and_self, true_and, and_true])) (.slice (some ⟨go59, 0, none⟩) t288.length co85)) (fun _ hk => by first | exact hk.2 | (simp only [ne_eq, hk, not_false_eq_true, and_self, true_and, and_true])) (.slice (some ⟨go79, 0, none⟩) t291.length co89)) (fun _ hk => by first | exact hk.2 | (simp only [ne_eq, hk, not_false_eq_true, and_self, true_and, and_true])) (.int .i64 (wrap64 (t294 + (wrap64 (x2_36 * (rd l0_1 a1))))))) (fun _ hk => by first | exact hk.1.1 | (simp only [ne_eq, hk, not_false_eq_true, and_self, true_and, and_true]))), lS HB⟩
            ·rw [if_neg c77] at H
             have c77b0 : decide (2 ≤ x12_36) = false := decide_eq_false c77
             clear c77
             replace H := gN H
             obtain ⟨c101, H⟩ := H
             have c101b0 : decide (a1 < (l0_1.length : Int)) = true := decide_eq_true c101
             clear c101
             simp only [Option.some.injEq, Prod.mk.injEq] at H
             obtain ⟨rfl, rfl, rfl, rfl⟩ := H
             have hnb102 := NB277_278.out
             have hnc102 := NB278_277.out
             obtain ⟨hcz103_0, hcz103_1, hcz103_2, hfz103_0, hfz103_1, hfz103_2⟩ := bx3 BK277
             try go_wp2_with (first | ((with_reducible refine gate_callee (f := 104) rfl ?_); refine gL (some 95) Try.func104 #[.agg #[.slice (some ad283) l0_0.length c0_0, .slice A0_1 l0_1.length c0_1, .int .i64 a0_2]] ?_; (with_reducible refine (impl_copyView.calls kj36 _ _ l0_0 _ _ l0_1 a0_2 t288 t291 t294 _ (cS (Kd.qW HR0_0.out HB.out)) HC0_0.out (cS (Kd.qW HR0_1.out HB.out)) HC0_1.out A56.out).mono ?_); rintro e w104 ⟨v289, v292, rfl, ho0, ho1, hb⟩; refine ⟨_, rfl, ?_⟩; have HO290 := qS.mk (Kd.R_lower ho0 (qF (lS HB))); have HO293 := qS.mk (Kd.R_lower ho1 (qF (lS HB))); replace BK277 := mB BK277 hb; replace BK278 := mB BK278 hb; replace HB := mS HB hb; (try clear hb); (try clear hb2); (try clear hk); (try clear hi); (try clear ho0); (try clear ho1)) | ((with_reducible refine gate_dst (N := 13) rfl ?_); (try (refine gate_guard (by rfl) ?_; dsimp only)); refine bE #[.slice none 0 0, .slice none 0 0, .int .i64 0] 32 ?_; intro gb295 hg w105 hbox hb; have BK295 := qS.mk (hbox); have GW295 := mG HB hg; have GE295 := mG HB hg; have NB277_295 := mN BK277 hg; have NB295_277 := mM BK277 hg; have NB278_295 := mN BK278 hg; have NB295_278 := mM BK278 hg; replace HO290 := mR HO290 hb; replace HO293 := mR HO293 hb; replace BK277 := mB BK277 hb; replace BK278 := mB BK278 hb; replace HB := mS HB hb; clear hb hbox hg; obtain ⟨Ao106, co106, eo106⟩ := Kd.qX HO290.out; subst eo106; have hnb107 := NB295_277.out; have hnc107 := NB277_295.out; have hnb108 := NB295_278.out; have hnc108 := NB278_295.out; obtain ⟨hcz109_0, hcz109_1, hcz109_2, hfz109_0, hfz109_1, hfz109_2⟩ := bx3 BK295; obtain ⟨Ao110, co110, eo110⟩ := Kd.qX HO293.out; subst eo110) | ((with_reducible refine gate_store (t := 32) (p := 13) rfl ?_); refine sE (w1 := ((w105.setCell ⟨gb295, 0, none⟩ (.slice Ao106 t288.length co106)).setCell ⟨gb295, 1, none⟩ (.slice Ao110 t291.length co110)).setCell ⟨gb295, 2, none⟩ (.int .i64 t294)) ?_; intro w111 hw; replace HO290 : qS (Kd.R (Kd.int .i64) 2 w111 w.heap.size (fun k_ => some k_ ≠ (.slice Ao110 t291.length co110 : Value).ownBlock) (.slice Ao106 t288.length co106) t288) := ⟨(by rw [hw]; exact (rF HO290 BK295))⟩; replace HO293 : qS (Kd.R (Kd.int .i64) 2 w111 w.heap.size (fun k_ => some k_ ≠ (.slice Ao106 t288.length co106 : Value).ownBlock) (.slice Ao110 t291.length co110) t291) := ⟨(by rw [hw]; exact (rF HO293 BK295))⟩; replace BK277 : qS (w111.heap[gb277]? = some (.cells #[.slice (some ad283) l0_0.length c0_0, .slice A0_1 l0_1.length c0_1, .int .i64 a0_2] 32 (0, 0))) := ⟨hw ▸ bQ BK277⟩; replace BK278 : qS (w111.heap[gb278]? = some (.cells #[.int .i64 0, .slice none 0 0, .slice none 0 0, .int .i64 0] 53 (0, 0))) := ⟨hw ▸ bQ BK278⟩; replace BK295 : qS (w111.heap[gb295]? = some (.cells #[.slice Ao106 t288.length co106, .slice Ao110 t291.length co110, .int .i64 t294] 32 (0, 0))) := ⟨hw ▸ bQ BK295⟩; replace HB := lW HB hw; clear hw; obtain ⟨hcz112_0, hcz112_1, hcz112_2, hfz112_0, hfz112_1, hfz112_2⟩ := bx3 BK295; have p59 : 0 ≤ (a1 : Int) := of_decide_eq_true (by assumption); have q59 : (a1 : Int) < ((t288.length : Int) : Int) := of_decide_eq_true (by assumption); obtain ⟨go59, co59, eo59, gb59, gl59, cl59, HG59⟩ := Kd.R_form HO290.out (by omega); (first | cases eo59 | (injection eo59 with ea_ en_ ec_; (first | subst ea_ | (injection ea_ with ea_; subst ea_)); subst ec_; clear en_)); have GB59 := qS.mk gb59; have GG59 := qS.mk HG59; clear gb59 gl59 HG59; obtain ⟨hx59_0, hf59_0⟩ := Kd.R_celln 0 HO290.out (a1 : Int) p59 q59; replace p59 := eq_true p59; replace q59 := eq_true q59; obtain ⟨hy113_, hz113_⟩ := Kd.R_celln 0 HO290.out (a1 : Int) (of_decide_eq_true (by assumption)) (of_decide_eq_true (by assumption)); have HP113 := Kd.R_putg HO290.out (a1 : Int) x12_36) | ((with_reducible refine gate_store (t := 2) (p := 100) rfl ?_); refine sE (w1 := w111.setCell ⟨go59, (a1 : Int).toNat, none⟩ (.int .i64 x12_36)) ?_; intro w114 hw; have hg : w111.grownBy w114 (some go59) := (by rw [hw]; exact HP113.2); have hp_ : Kd.R (Kd.int .i64) 2 w114 w.heap.size (fun k_ => some k_ ≠ (.slice Ao110 t291.length co110 : Value).ownBlock) (.slice (some ⟨go59, 0, none⟩) t288.length co106) y296 := (by rw [hw, Ny296.out]; exact HP113.1); clear HP113; replace BK277 := gB BK277 hg (Kd.R_ne HO290.out BK277.out (by decide)); replace BK278 := gB BK278 hg (Kd.R_ne HO290.out BK278.out (by decide)); replace HO293 := qS.mk (Kd.R_after (v := (.slice (some ⟨go59, 0, none⟩) t288.length co106)) (v1 := (.slice (some ⟨go59, 0, none⟩) t288.length co106)) (ok := (fun _ => True)) (rT (Kd.qZ HO293.out (fun _ hk => ⟨trivial, hk⟩))) hg (.inl rfl)); replace BK295 := gB BK295 hg (Kd.R_ne HO290.out BK295.out (by decide)); replace HO290 := qS.mk (hp_); replace HB := qS.mk ((by rw [hw]; exact qD (HB.out) GB59.out : Below w.heap.size w w114)); clear hg hw hp_; obtain ⟨hcz115_0, hcz115_1, hcz115_2, hfz115_0, hfz115_1, hfz115_2⟩ := bx3 BK295) | ((with_reducible refine gate_callee (f := 81) rfl ?_); refine qT (some 103) rfl rfl Try.func81 (by kernel_rfl) rfl #[.slice (some ⟨go59, 0, none⟩) y296.length co106] rfl (by (try simp only [List.map_toArray, List.map_cons, List.map_nil]); first | done | (rw [show y296.length = t288.length from (Kd.qY HO290.out).1.symm] <;> rfl) | rfl | (simp only [List.length_drop, List.length_take]; rfl)) ?_; (with_reducible refine (zM.calls kj36 _ _ y296 t297 _ (cS (Kd.qY HO290.out).2.2) ?side2 A60.out).mono ?_); (case side2 => rw [show y296.length = t288.length from (Kd.qY HO290.out).1.symm]; exact (Kd.qY HO290.out).2.1); rintro e w' ⟨rfl, ⟨nd, rfl⟩⟩; refine ⟨_, rfl, ?_⟩; (try (rw [drewN_self w114]; generalize hq_ : World.drewN w114 _ = w114; replace HO290 : qS (Kd.R (Kd.int .i64) 2 w114 w.heap.size (fun k_ => some k_ ≠ (.slice Ao110 t291.length co110 : Value).ownBlock) (.slice (some ⟨go59, 0, none⟩) t288.length co106) y296) := ⟨by rw [← hq_]; exact (rS HO290)⟩; replace HO293 : qS (Kd.R (Kd.int .i64) 2 w114 w.heap.size (fun k_ => some k_ ≠ (.slice (some ⟨go59, 0, none⟩) t288.length co106 : Value).ownBlock) (.slice Ao110 t291.length co110) t291) := ⟨by rw [← hq_]; exact (rT (Kd.qZ HO293.out (fun _ hk => by first | exact hk.2 | (simp only [ne_eq, hk, not_false_eq_true, and_self, true_and, and_true]))))⟩; replace BK277 : qS (w114.heap[gb277]? = some (.cells #[.slice (some ad283) l0_0.length c0_0, .slice A0_1 l0_1.length c0_1, .int .i64 a0_2] 32 (0, 0))) := ⟨by rw [← hq_]; exact (bS BK277)⟩; replace BK278 : qS (w114.heap[gb278]? = some (.cells #[.int .i64 0, .slice none 0 0, .slice none 0 0, .int .i64 0] 53 (0, 0))) := ⟨by rw [← hq_]; exact (bS BK278)⟩; replace BK295 : qS (w114.heap[gb295]? = some (.cells #[.slice (some ⟨go59, 0, none⟩) t288.length co106, .slice Ao110 t291.length co110, .int .i64 t294] 32 (0, 0))) := ⟨by rw [← hq_]; exact (bS BK295)⟩; replace HB : qS (Below w.heap.size w w114) := ⟨by rw [← hq_]; exact (lS HB)⟩; clear hq_; have hcq_0 : w114.cell? ⟨gb295, 0, none⟩ = some (.slice (some ⟨go59, 0, none⟩) t288.length co106) := (qJ BK295.out 0).trans rfl; have hcq_1 : w114.cell? ⟨gb295, 1, none⟩ = some (.slice Ao110 t291.length co110) := (qJ BK295.out 1).trans rfl; have hcq_2 : w114.cell? ⟨gb295, 2, none⟩ = some (.int .i64 t294) := (qJ BK295.out 2).trans rfl))))
             replace HO290 := rD HO290; replace HO293 := rD HO293; replace BK277 := bD BK277; replace BK278 := bD BK278; replace BK295 := bD BK295; replace HB := lD HB
             obtain ⟨ad301, e301, hx301_0, hw301_0, p301, q301⟩ := aI HR0_1 HB a1
             cases e301
             refine start_ (n := 12) (S := fun w' => w'.cell? ⟨gb295, 0, none⟩ = some (.slice (some ⟨go59, 0, none⟩) t288.length co106) ∧ w'.cell? ⟨gb295, 1, none⟩ = some (.slice Ao110 t291.length co110) ∧ w'.cell? ⟨gb295, 2, none⟩ = some (.int .i64 t294) ∧ w'.cell? ⟨gb277, 0, none⟩ = some (.slice (some ad283) l0_0.length c0_0) ∧ w'.cell? ⟨gb277, 1, none⟩ = some (.slice (some ad301) l0_1.length c0_1) ∧ w'.cell? ⟨gb277, 2, none⟩ = some (.int .i64 a0_2) ∧ w'.cell? (ad301.add (a1).toNat) = some (.int .i64 (rd l0_1 a1))) (ds := [11]) (bs 12 0) (by kernel_rfl) rfl rfl ⟨(qJ BK295.out 0).trans rfl, (qJ BK295.out 1).trans rfl, (qJ BK295.out 2).trans rfl, (qJ BK277.out 0).trans rfl, (qJ BK277.out 1).trans rfl, (qJ BK277.out 2).trans rfl, (cU HB hw301_0)⟩ (fun hHeld => ?_); refine with_tabW impl_Slice.tab22 impl_Slice.bits22 (fun HT_ HW_ => ?_)
             generalize w114.drew = w116 at HO290 HO293 BK277 BK278 BK295 HB hx301_0 hHeld ⊢
             refine pS 0 117 (bs 12 1) HT_ ?_
             refine pS 2 119 (bs 12 5) HT_ ?_
             refine pS 3 120 (bs 12 13) HT_ ?_
             refine pS 5 122 (bs 12 45) HT_ ?_
             refine tS 1 118 (bs 12 47) HT_ HW_ hHeld ?_
             refine tS 4 121 (bs 12 63) HT_ HW_ hHeld ?_
             refine pS 6 123 (bs 12 127) HT_ ?_
             refine tS 7 124 (bs 12 255) HT_ HW_ hHeld ?_
             refine pS 8 125 (bs 12 511) HT_ ?_
             refine pS 9 126 (bs 12 1023) HT_ ?_
             refine pS 10 127 (bs 12 2047) HT_ ?_
             refine last_ (i := 11) (N := none) (bs 12 4095) rfl rfl (one_of HT_.out (by kernel_rfl)) (by decide) (fun K hK => ?_)
             have hs117 : w116.cell? ⟨gb295, 2, none⟩ = some (.int .i64 t294) := (qJ BK295.out 2).trans rfl
             have hfs117 := qK BK295.out 2
             have hns117_0 := NB277_295.out
             have hns117_1 := NB278_295.out
             have hms117_0 := NB295_277.out
             have hms117_1 := NB295_278.out
             refine skip_ (w1 := ?_) (by rfl) rfl ?_ ?_
             rotate_left
             ·go_simp
              rfl
             refine hK.out _ _ ?_
             clear hK K
             refine done_ (done_of HT_.out (by kernel_rfl)) ?_
             obtain ⟨hcz118_0, hcz118_1, hcz118_2, hfz118_0, hfz118_1, hfz118_2⟩ := bx3 BK295
             obtain ⟨hcz119_0, hcz119_1, hcz119_2, hcz119_3, hfz119_0, hfz119_1, hfz119_2, hfz119_3⟩ := bx4 BK278
             try go_wp2
             refine bodyPost_ret (rC gb278 53 #[.int .i64 0, .slice (some ⟨go59, 0, none⟩) t288.length co106, .slice Ao110 t291.length co110, .int .i64 (wrap64 (t294 + (wrap64 (x2_36 * (rd l0_1 a1)))))] (bQ ⟨zN (p := ⟨gb295, 2, none⟩) BK278.out NB278_295.out (.int .i64 (wrap64 (t294 + (wrap64 (x2_36 * (rd l0_1 a1))))))⟩) Try.underlying53) rfl ?_
             exact ⟨_, _, rg, rT (Kd.qZ (Kd.R_far (p := ⟨gb278, 3, none⟩) (Kd.R_far (p := ⟨gb278, 2, none⟩) (Kd.R_far (p := ⟨gb278, 1, none⟩) (Kd.R_far (p := ⟨gb278, 0, none⟩) (Kd.R_far (p := ⟨gb295, 2, none⟩) (Kd.R_types (Kd.R_types HO290.out BK295.out (by decide)) BK278.out (by decide)) (fun _ hk => by first | exact hk.1.2 | (simp only [ne_eq, hk, not_false_eq_true, and_self, true_and, and_true])) (.int .i64 (wrap64 (t294 + (wrap64 (x2_36 * (rd l0_1 a1))))))) (fun _ hk => by first | exact hk.2 | (simp only [ne_eq, hk, not_false_eq_true, and_self, true_and, and_true])) (.int .i64 0)) (fun _ hk => by first | exact hk.2 | (simp only [ne_eq, hk, not_false_eq_true, and_self, true_and, and_true])) (.slice (some ⟨go59, 0, none⟩) t288.length co106)) (fun _ hk => by first | exact hk.2 | (simp only [ne_eq, hk, not_false_eq_true, and_self, true_and, and_true])) (.slice Ao110 t291.length co110)) (fun _ hk => by first | exact hk.2 | (simp only [ne_eq, hk, not_false_eq_true, and_self, true_and, and_true])) (.int .i64 (wrap64 (t294 + (wrap64 (x2_36 * (rd l0_1 a1))))))) (fun _ hk => by first | exact hk.1.1 | (simp only [ne_eq, hk, not_false_eq_true, and_self, true_and, and_true]))), rT (Kd.qZ (Kd.R_far (p := ⟨gb278, 3, none⟩) (Kd.R_far (p := ⟨gb278, 2, none⟩) (Kd.R_far (p := ⟨gb278, 1, none⟩) (Kd.R_far (p := ⟨gb278, 0, none⟩) (Kd.R_far (p := ⟨gb295, 2, none⟩) (Kd.R_types (Kd.R_types HO293.out BK295.out (by decide)) BK278.out (by decide)) (fun _ hk => by first | exact hk.1.2 | (simp only [ne_eq, hk, not_false_eq_true, and_self, true_and, and_true])) (.int .i64 (wrap64 (t294 + (wrap64 (x2_36 * (rd l0_1 a1))))))) (fun _ hk => by first | exact hk.2 | (simp only [ne_eq, hk, not_false_eq_true, and_self, true_and, and_true])) (.int .i64 0)) (fun _ hk => by first | exact hk.2 | (simp only [ne_eq, hk, not_false_eq_true, and_self, true_and, and_true])) (.slice (some ⟨go59, 0, none⟩) t288.length co106)) (fun _ hk => by first | exact hk.2 | (simp only [ne_eq, hk, not_false_eq_true, and_self, true_and, and_true])) (.slice Ao110 t291.length co110)) (fun _ hk => by first | exact hk.2 | (simp only [ne_eq, hk, not_false_eq_true, and_self, true_and, and_true])) (.int .i64 (wrap64 (t294 + (wrap64 (x2_36 * (rd l0_1 a1))))))) (fun _ hk => by first | exact hk.1.1.2 | (simp only [ne_eq, hk, not_false_eq_true, and_self, true_and, and_true]))), lS HB⟩
 ·replace c7 := Bool.eq_false_iff.mpr c7
  subst c7
  rw [if_neg (show ¬ (false = true) by decide)] at H
  simp only [Option.some.injEq, Prod.mk.injEq] at H
  obtain ⟨rfl, rfl, rfl, rfl⟩ := H
  go_enter Try.func60, Try.ntmps60
  go_wp2_with (first | ((with_reducible refine gate_dst (N := 5) rfl ?_); (try (refine gate_guard (by rfl) ?_; dsimp only)); refine bE #[.slice A0_0 l0_0.length c0_0, .slice A0_1 l0_1.length c0_1, .int .i64 a0_2] 32 ?_; intro gb277 hg w120 hbox hb; have BK277 := qS.mk (hbox); have GW277 := mG HB hg; have GE277 := mG HB hg; replace HB := mS HB hb; clear hb hbox hg) | ((with_reducible refine gate_dst (N := 10) rfl ?_); (try (refine gate_guard (by rfl) ?_; dsimp only)); refine bE #[.int .i64 0, .slice none 0 0, .slice none 0 0, .int .i64 0] 53 ?_; intro gb278 hg w121 hbox hb; have BK278 := qS.mk (hbox); have GW278 := mG HB hg; have GE278 := mG HB hg; have NB277_278 := mN BK277 hg; have NB278_277 := mM BK277 hg; replace BK277 := mB BK277 hb; replace HB := mS HB hb; clear hb hbox hg; have hnb122 := NB277_278.out; have hnc122 := NB278_277.out; obtain ⟨hcz123_0, hcz123_1, hcz123_2, hfz123_0, hfz123_1, hfz123_2⟩ := bx3 BK277) | ((with_reducible refine gate_callee (f := 26) rfl ?_); refine gL (some 16) Try.func26 #[.agg #[.slice A0_0 l0_0.length c0_0, .slice A0_1 l0_1.length c0_1, .int .i64 a0_2]] ?_; (with_reducible refine (zI.calls k _ _ l0_0 _ _ l0_1 a0_2 false _ (cS (Kd.qW HR0_0.out HB.out)) HC0_0.out (cS (Kd.qW HR0_1.out HB.out)) HC0_1.out A6.out).mono ?_); rintro e w124 ⟨rfl, hb⟩; refine ⟨_, rfl, ?_⟩; replace BK277 := mB BK277 hb; replace BK278 := mB BK278 hb; replace HB := mS HB hb; (try clear hb); (try clear hb2); (try clear hk); (try clear hi); obtain ⟨hcz125_0, hcz125_1, hcz125_2, hcz125_3, hfz125_0, hfz125_1, hfz125_2, hfz125_3⟩ := bx4 BK278))
  refine bodyPost_ret (rC gb278 53 #[.int .i64 12, .slice none 0 0, .slice none 0 0, .int .i64 0] (bQ BK278) Try.underlying53) rfl ?_
  exact ⟨_, _, rg, rN, rN, lS HB⟩

end Go.Proofs.Ytpmdgmnpkdoamaa.DFnViews
