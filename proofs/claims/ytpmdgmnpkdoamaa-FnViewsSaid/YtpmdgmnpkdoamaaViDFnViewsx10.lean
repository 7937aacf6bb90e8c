/- Proved here: what the functions answer that the law on  comes to (the lines were written by a program). Conditions: those that stand ahead in each theorem. -/
import Derived.Test.YtpmdgmnpkdoamaaViWSq
import Derived.Test.YtpmdgmnpkdoamaaViDFnViewsx0
import Derived.Test.YtpmdgmnpkdoamaaViDFnViewsx1
import Derived.Test.YtpmdgmnpkdoamaaViDFnViewsx2
import Derived.Test.YtpmdgmnpkdoamaaViDFnViewsx9
namespace Go.Proofs.Ytpmdgmnpkdoamaa.DFnViews
open Go.RowKit Go.Proofs.YtpmdgmnpkdoamaaW.PrintWords Go.Proofs.YtpmdgmnpkdoamaaW.PrintLast Go.Proofs.YtpmdgmnpkdoamaaW.PrintMore
attribute [local go_sem] max2_int min2_int max_two min_two max_three min_three max_four min_four   -- for this text's walks alone
set_option linter.unusedVariables false
set_option linter.unusedSimpArgs false

mutual
def spec_Slice.j0 : Nat → Int → Int → Int → Int → Bool → List Int → List Int → Int → Option (Int × List Int × List Int × Int)
 | 0, _, _, _, _, _, _, _, _ => none
 | k + 1, x1, x2, x3, x4, x31, x238000, x238001, x238002 => if x31 = true then (some (5, ([] : List Int), ([] : List Int), 0)) else (if x4 = 0 then (spec_Slice.j1 k x1 x2 x3 x4 true x238000 x238001 x238002) else (if x4 < (-1000000) then (spec_Slice.j1 k x1 x2 x3 x4 true x238000 x238001 x238002) else (if x4 > 1000000 then (spec_Slice.j1 k x1 x2 x3 x4 true x238000 x238001 x238002) else (if x2 < (-1000000) then (spec_Slice.j1 k x1 x2 x3 x4 true x238000 x238001 x238002) else (if x2 > 1000000 then (spec_Slice.j1 k x1 x2 x3 x4 true x238000 x238001 x238002) else (if x3 < (-1000000) then (spec_Slice.j1 k x1 x2 x3 x4 true x238000 x238001 x238002) else (spec_Slice.j1 k x1 x2 x3 x4 (decide (x3 > 1000000)) x238000 x238001 x238002)))))))
def spec_Slice.j1 : Nat → Int → Int → Int → Int → Bool → List Int → List Int → Int → Option (Int × List Int × List Int × Int)
 | 0, _, _, _, _, _, _, _, _ => none
 | k + 1, x1, x2, x3, x4, x58, x238000, x238001, x238002 => if x58 = true then (some (8, ([] : List Int), ([] : List Int), 0)) else (if 0 ≤ x1 then (if x1 < (x238000.length : Int) then (if x4 < 0 then (spec_Slice.j2 k x1 x2 x3 x4 (rd x238000 x1) (-1) (wrap64 ((rd x238000 x1) - 1)) x238000 x238001 x238002) else (spec_Slice.j2 k x1 x2 x3 x4 (rd x238000 x1) 0 (rd x238000 x1) x238000 x238001 x238002)) else (none)) else (none))
def spec_Slice.j2 : Nat → Int → Int → Int → Int → Int → Int → Int → List Int → List Int → Int → Option (Int × List Int × List Int × Int)
 | 0, _, _, _, _, _, _, _, _, _, _ => none
 | k + 1, x1, x2, x3, x4, x11, x12, x13, x238000, x238001, x238002 => (spec_l2Right.f x2 x11 x12 x13).bind fun t241 => ((spec_l2Right.f x3 x11 x12 x13).bind fun t242 => (spec_Slice.l0 k x1 x4 t242 (([] : List Int)) t241 x238000 x238001 x238002))
def spec_Slice.j4 : Nat → Int → Int → List Int → List Int → List Int → Int → Option (Int × List Int × List Int × Int)
 | 0, _, _, _, _, _, _ => none
 | k + 1, x1, x4, x16, x238000, x238001, x238002 => (spec_l2CopyView.f k x238000 x238001 x238002).bind fun bt255 => (if 0 ≤ x1 then (if x1 < (bt255.1.length : Int) then ((some (bt255.1.set (x1 : Int).toNat (x16.length : Int) : List Int)).bind fun y263 => ((zL.f k y263).bind fun t264 => (if t264 = 0 then (some (0, y263, bt255.2.1, bt255.2.2)) else (if 0 < (x16.length : Int) then (if x1 < (x238001.length : Int) then (if (x16.length : Int) > 1 then (if x1 < (bt255.2.1.length : Int) then (some (0, y263, (bt255.2.1.set (x1 : Int).toNat (wrap64 (x4 * (rd x238001 x1)))), wrap64 (x238002 + (wrap64 ((rd x16 0) * (rd x238001 x1)))))) else (none)) else (some (0, y263, bt255.2.1, wrap64 (x238002 + (wrap64 ((rd x16 0) * (rd x238001 x1))))))) else (none)) else (none))))) else (none)) else (none))
def spec_Slice.l0 : Nat → Int → Int → Int → List Int → Int → List Int → List Int → Int → Option (Int × List Int × List Int × Int)
 | 0, _, _, _, _, _, _, _, _ => none
 | k + 1, x1, x4, x15, x16, x17, x238000, x238001, x238002 => if x4 > 0 then (if x17 < x15 then (if x16.length < 17592186044416 then (spec_Slice.l0 k x1 x4 x15 (x16 ++ [x17]) (wrap64 (x17 + x4)) x238000 x238001 x238002) else (none)) else (if x4 < 0 then (if x17 > x15 then (if x16.length < 17592186044416 then (spec_Slice.l0 k x1 x4 x15 (x16 ++ [x17]) (wrap64 (x17 + x4)) x238000 x238001 x238002) else (none)) else (spec_Slice.j4 k x1 x4 x16 x238000 x238001 x238002)) else (spec_Slice.j4 k x1 x4 x16 x238000 x238001 x238002))) else (if x4 < 0 then (if x17 > x15 then (if x16.length < 17592186044416 then (spec_Slice.l0 k x1 x4 x15 (x16 ++ [x17]) (wrap64 (x17 + x4)) x238000 x238001 x238002) else (none)) else (spec_Slice.j4 k x1 x4 x16 x238000 x238001 x238002)) else (spec_Slice.j4 k x1 x4 x16 x238000 x238001 x238002))
end
def spec_Slice.f (k : Nat) (l0_0 : List Int) (l0_1 : List Int) (a0_2 : Int) (a1 : Int) (a2 : Int) (a3 : Int) (a4 : Int) : Option (Int × List Int × List Int × Int) := (zH.f k l0_0 l0_1 a0_2).bind fun t239 => (if t239 = true then (if a1 < 0 then (spec_Slice.j0 k a1 a2 a3 a4 true l0_0 l0_1 a0_2) else (spec_Slice.j0 k a1 a2 a3 a4 (decide (a1 ≥ (l0_0.length : Int))) l0_0 l0_1 a0_2)) else (some (12, ([] : List Int), ([] : List Int), 0)))
theorem spec_Slice.mono_l : ∀ k, (∀ y0 y1 y2 y3 y4 y5 y6 y7, LeO (spec_Slice.j0 k y0 y1 y2 y3 y4 y5 y6 y7) (spec_Slice.j0 (k + 1) y0 y1 y2 y3 y4 y5 y6 y7)) ∧ (∀ y0 y1 y2 y3 y4 y5 y6 y7, LeO (spec_Slice.j1 k y0 y1 y2 y3 y4 y5 y6 y7) (spec_Slice.j1 (k + 1) y0 y1 y2 y3 y4 y5 y6 y7)) ∧ (∀ y0 y1 y2 y3 y4 y5 y6 y7 y8 y9, LeO (spec_Slice.j2 k y0 y1 y2 y3 y4 y5 y6 y7 y8 y9) (spec_Slice.j2 (k + 1) y0 y1 y2 y3 y4 y5 y6 y7 y8 y9)) ∧ (∀ y0 y1 y2 y3 y4 y5, LeO (spec_Slice.j4 k y0 y1 y2 y3 y4 y5) (spec_Slice.j4 (k + 1) y0 y1 y2 y3 y4 y5)) ∧ (∀ y0 y1 y2 y3 y4 y5 y6 y7, LeO (spec_Slice.l0 k y0 y1 y2 y3 y4 y5 y6 y7) (spec_Slice.l0 (k + 1) y0 y1 y2 y3 y4 y5 y6 y7))
 | 0 => ⟨fun _ _ _ _ _ _ _ _ r h => by simp [spec_Slice.j0] at h, fun _ _ _ _ _ _ _ _ r h => by simp [spec_Slice.j1] at h, fun _ _ _ _ _ _ _ _ _ _ r h => by simp [spec_Slice.j2] at h, fun _ _ _ _ _ _ r h => by simp [spec_Slice.j4] at h, fun _ _ _ _ _ _ _ _ r h => by simp [spec_Slice.l0] at h⟩
 | k + 1 => by
  obtain ⟨ih0, ih1, ih2, ih3, ih4⟩ := spec_Slice.mono_l k
  refine ⟨?_, ?_, ?_, ?_, ?_⟩
  ·intro y0 y1 y2 y3 y4 y5 y6 y7
   unfold spec_Slice.j0
   repeat' first
   | (with_reducible exact ih0 _ _ _ _ _ _ _ _)
   | (with_reducible exact ih1 _ _ _ _ _ _ _ _)
   | (with_reducible exact ih2 _ _ _ _ _ _ _ _ _ _)
   | (with_reducible exact ih3 _ _ _ _ _ _)
   | (with_reducible exact ih4 _ _ _ _ _ _ _ _)
   | (with_reducible exact zH.mono _ _ _ _)
   | (with_reducible exact spec_l2CopyView.mono _ _ _ _)
   | (with_reducible exact zL.mono _ _)
   | (with_reducible exact LeO.refl _)
   | (with_reducible exact LeO.none _)
   | (with_reducible refine LeO.ite ?_ ?_)
   | (with_reducible refine LeO.bind ?_ (fun _ => ?_))
   | exact ih0 _ _ _ _ _ _ _ _
   | exact ih1 _ _ _ _ _ _ _ _
   | exact ih2 _ _ _ _ _ _ _ _ _ _
   | exact ih3 _ _ _ _ _ _
   | exact ih4 _ _ _ _ _ _ _ _
   | exact zH.mono _ _ _ _
   | exact spec_l2CopyView.mono _ _ _ _
   | exact zL.mono _ _
   | exact LeO.none _
   | refine LeO.ite ?_ ?_
   | refine LeO.bind ?_ (fun _ => ?_)
  ·intro y0 y1 y2 y3 y4 y5 y6 y7
   unfold spec_Slice.j1
   repeat' first
   | (with_reducible exact ih0 _ _ _ _ _ _ _ _)
   | (with_reducible exact ih1 _ _ _ _ _ _ _ _)
   | (with_reducible exact ih2 _ _ _ _ _ _ _ _ _ _)
   | (with_reducible exact ih3 _ _ _ _ _ _)
   | (with_reducible exact ih4 _ _ _ _ _ _ _ _)
   | (with_reducible exact zH.mono _ _ _ _)
   | (with_reducible exact spec_l2CopyView.mono _ _ _ _)
   | (with_reducible exact zL.mono _ _)
   | (with_reducible exact LeO.refl _)
   | (with_reducible exact LeO.none _)
   | (with_reducible refine LeO.ite ?_ ?_)
   | (with_reducible refine LeO.bind ?_ (fun _ => ?_))
   | exact ih0 _ _ _ _ _ _ _ _
   | exact ih1 _ _ _ _ _ _ _ _
   | exact ih2 _ _ _ _ _ _ _ _ _ _
   | exact ih3 _ _ _ _ _ _
   | exact ih4 _ _ _ _ _ _ _ _
   | exact zH.mono _ _ _ _
   | exact spec_l2CopyView.mono _ _ _ _
   | exact zL.mono _ _
   | exact LeO.none _
   | refine LeO.ite ?_ ?_
   | refine LeO.bind ?_ (fun _ => ?_)
  ·intro y0 y1 y2 y3 y4 y5 y6 y7 y8 y9
   unfold spec_Slice.j2
   repeat' first
   | (with_reducible exact ih0 _ _ _ _ _ _ _ _)
   | (with_reducible exact ih1 _ _ _ _ _ _ _ _)
   | (with_reducible exact ih2 _ _ _ _ _ _ _ _ _ _)
   | (with_reducible exact ih3 _ _ _ _ _ _)
   | (with_reducible exact ih4 _ _ _ _ _ _ _ _)
   | (with_reducible exact zH.mono _ _ _ _)
   | (with_reducible exact spec_l2CopyView.mono _ _ _ _)
   | (with_reducible exact zL.mono _ _)
   | (with_reducible exact LeO.refl _)
   | (with_reducible exact LeO.none _)
   | (with_reducible refine LeO.ite ?_ ?_)
   | (with_reducible refine LeO.bind ?_ (fun _ => ?_))
   | exact ih0 _ _ _ _ _ _ _ _
   | exact ih1 _ _ _ _ _ _ _ _
   | exact ih2 _ _ _ _ _ _ _ _ _ _
   | exact ih3 _ _ _ _ _ _
   | exact ih4 _ _ _ _ _ _ _ _
   | exact zH.mono _ _ _ _
   | exact spec_l2CopyView.mono _ _ _ _
   | exact zL.mono _ _
   | exact LeO.none _
   | refine LeO.ite ?_ ?_
   | refine LeO.bind ?_ (fun _ => ?_)
  ·intro y0 y1 y2 y3 y4 y5
   unfold spec_Slice.j4
   repeat' first
   | (with_reducible exact ih0 _ _ _ _ _ _ _ _)
   | (with_reducible exact ih1 _ _ _ _ _ _ _ _)
   | (with_reducible exact ih2 _ _ _ _ _ _ _ _ _ _)
   | (with_reducible exact ih3 _ _ _ _ _ _)
   | (with_reducible exact ih4 _ _ _ _ _ _ _ _)
   | (with_reducible exact zH.mono _ _ _ _)
   | (with_reducible exact spec_l2CopyView.mono _ _ _ _)
   | (with_reducible exact zL.mono _ _)
   | (with_reducible exact LeO.refl _)
   | (with_reducible exact LeO.none _)
   | (with_reducible refine LeO.ite ?_ ?_)
   | (with_reducible refine LeO.bind ?_ (fun _ => ?_))
   | exact ih0 _ _ _ _ _ _ _ _
   | exact ih1 _ _ _ _ _ _ _ _
   | exact ih2 _ _ _ _ _ _ _ _ _ _
   | exact ih3 _ _ _ _ _ _
   | exact ih4 _ _ _ _ _ _ _ _
   | exact zH.mono _ _ _ _
   | exact spec_l2CopyView.mono _ _ _ _
   | exact zL.mono _ _
   | exact LeO.none _
   | refine LeO.ite ?_ ?_
   | refine LeO.bind ?_ (fun _ => ?_)
  ·intro y0 y1 y2 y3 y4 y5 y6 y7
   unfold spec_Slice.l0
   repeat' first
   | (with_reducible exact ih0 _ _ _ _ _ _ _ _)
   | (with_reducible exact ih1 _ _ _ _ _ _ _ _)
   | (with_reducible exact ih2 _ _ _ _ _ _ _ _ _ _)
   | (with_reducible exact ih3 _ _ _ _ _ _)
   | (with_reducible exact ih4 _ _ _ _ _ _ _ _)
   | (with_reducible exact zH.mono _ _ _ _)
   | (with_reducible exact spec_l2CopyView.mono _ _ _ _)
   | (with_reducible exact zL.mono _ _)
   | (with_reducible exact LeO.refl _)
   | (with_reducible exact LeO.none _)
   | (with_reducible refine LeO.ite ?_ ?_)
   | (with_reducible refine LeO.bind ?_ (fun _ => ?_))
   | exact ih0 _ _ _ _ _ _ _ _
   | exact ih1 _ _ _ _ _ _ _ _
   | exact ih2 _ _ _ _ _ _ _ _ _ _
   | exact ih3 _ _ _ _ _ _
   | exact ih4 _ _ _ _ _ _ _ _
   | exact zH.mono _ _ _ _
   | exact spec_l2CopyView.mono _ _ _ _
   | exact zL.mono _ _
   | exact LeO.none _
   | refine LeO.ite ?_ ?_
   | refine LeO.bind ?_ (fun _ => ?_)
theorem spec_Slice.mono : ∀ a0 a1 a2 a3 a4 a5 a6 k, LeO (spec_Slice.f k a0 a1 a2 a3 a4 a5 a6) (spec_Slice.f (k + 1) a0 a1 a2 a3 a4 a5 a6) := by
 intro a0 a1 a2 a3 a4 a5 a6 k
 obtain ⟨ih0, ih1, ih2, ih3, ih4⟩ := spec_Slice.mono_l k
 unfold spec_Slice.f
 repeat' first
   | (with_reducible exact ih0 _ _ _ _ _ _ _ _)
   | (with_reducible exact ih1 _ _ _ _ _ _ _ _)
   | (with_reducible exact ih2 _ _ _ _ _ _ _ _ _ _)
   | (with_reducible exact ih3 _ _ _ _ _ _)
   | (with_reducible exact ih4 _ _ _ _ _ _ _ _)
   | (with_reducible exact zH.mono _ _ _ _)
   | (with_reducible exact spec_l2CopyView.mono _ _ _ _)
   | (with_reducible exact zL.mono _ _)
   | (with_reducible exact LeO.refl _)
   | (with_reducible exact LeO.none _)
   | (with_reducible refine LeO.ite ?_ ?_)
   | (with_reducible refine LeO.bind ?_ (fun _ => ?_))
   | exact ih0 _ _ _ _ _ _ _ _
   | exact ih1 _ _ _ _ _ _ _ _
   | exact ih2 _ _ _ _ _ _ _ _ _ _
   | exact ih3 _ _ _ _ _ _
   | exact ih4 _ _ _ _ _ _ _ _
   | exact zH.mono _ _ _ _
   | exact spec_l2CopyView.mono _ _ _ _
   | exact zL.mono _ _
   | exact LeO.none _
   | refine LeO.ite ?_ ?_
   | refine LeO.bind ?_ (fun _ => ?_)
def spec_Slice.T23 : Bool × List (List Nat × List Nat) := (true, [([], []), ([0], [0]), ([], []), ([2], [2]), ([3], [3]), ([], []), ([5], [5]), ([], []), ([6, 7], [6, 7]), ([8], [8]), ([4, 9], [4, 9]), ([1, 10], [1, 10]), ([0, 1, 2, 3, 4, 5, 6, 7, 8, 9, 10, 11], []), ([12, 11, 0, 1, 2, 3, 4, 5, 6, 7, 8, 9, 10, 11], [11, 12])])
def spec_Slice.B23 : List Nat := [0, 1, 0, 4, 12, 0, 32, 0, 224, 480, 1020, 2047, 4095, 8191]
theorem spec_Slice.tab23 : rtab .any (opsOf Try.f59 23) = spec_Slice.T23 := by kernel_rfl
theorem spec_Slice.bits23 : waitsOk spec_Slice.T23.2 spec_Slice.B23 = true := by kernel_rfl
def spec_Slice.T25 : Bool × List (List Nat × List Nat) := (true, [([], []), ([0], [0]), ([], []), ([], []), ([], []), ([4], [4]), ([], []), ([5, 6], [5, 6]), ([7], [7]), ([3, 8], [3, 8]), ([1, 2, 0, 1, 2, 3, 4, 5, 6, 7, 8, 9], [1, 2]), ([10, 9, 0, 1, 2, 3, 4, 5, 6, 7, 8, 9], [9, 10])])
def spec_Slice.B25 : List Nat := [0, 1, 0, 0, 0, 16, 0, 112, 240, 504, 1023, 2047]
theorem spec_Slice.tab25 : rtab .any (opsOf Try.f59 25) = spec_Slice.T25 := by kernel_rfl
theorem spec_Slice.bits25 : waitsOk spec_Slice.T25.2 spec_Slice.B25 = true := by kernel_rfl
set_option maxHeartbeats 8000000 in
set_option maxRecDepth 100000 in
theorem spec_Slice.calls (k : Nat) (A0_0 : Option Addr) (c0_0 : Nat) (l0_0 : List Int) (A0_1 : Option Addr) (c0_1 : Nat) (l0_1 : List Int) (a0_2 : Int) (a1 : Int) (a2 : Int) (a3 : Int) (a4 : Int) (r1 : Int) (r2 : List Int) (r3 : List Int) (r4 : Int) (w : World) (hr0_0 : Kd.C (Kd.int .i64) w A0_0 l0_0.length l0_0) (hc0_0 : l0_0.length ≤ c0_0) (hr0_1 : Kd.C (Kd.int .i64) w A0_1 l0_1.length l0_1) (hc0_1 : l0_1.length ≤ c0_1) (h : spec_Slice.f k l0_0 l0_1 a0_2 a1 a2 a3 a4 = some (r1, r2, r3, r4)) :
  Calls Try.prog 59 #[.agg #[.slice A0_0 l0_0.length c0_0, .slice A0_1 l0_1.length c0_1, .int .i64 a0_2], .int .i64 a1, .int .i64 a2, .int .i64 a3, .int .i64 a4] w fun e w' => ∃ v1_ v2_ : Value, e = .returned (.agg #[.int .i64 r1, v1_, v2_, .int .i64 r4]) ∧ Kd.R (Kd.int .i64) 2 w' w.heap.size (fun k_ => some k_ ≠ (v2_ : Value).ownBlock) v1_ r2 ∧ Kd.R (Kd.int .i64) 2 w' w.heap.size (fun k_ => some k_ ≠ (v1_ : Value).ownBlock) v2_ r3 ∧ Below w.heap.size w w' := by
 have hu32 := Try.underlying32
 have hu53 := Try.underlying53
 have HR0_0 := qS.mk hr0_0
 have HC0_0 := qS.mk hc0_0
 clear hr0_0 hc0_0
 have HR0_1 := qS.mk hr0_1
 have HC0_1 := qS.mk hc0_1
 clear hr0_1 hc0_1
 have HB := qS.mk (Below.refl w.heap.size w)
 have H : ((zH.f k l0_0 l0_1 a0_2).bind fun t239 => (if t239 = true then (if a1 < 0 then (spec_Slice.j0 k a1 a2 a3 a4 true l0_0 l0_1 a0_2) else (spec_Slice.j0 k a1 a2 a3 a4 (decide (a1 ≥ (l0_0.length : Int))) l0_0 l0_1 a0_2)) else (some (12, ([] : List Int), ([] : List Int), 0)))) = some (r1, r2, r3, r4) := h
 clear h
 replace H := Option.bind_eq_some_iff.mp H
 obtain ⟨t239, A60, H⟩ := H
 try dsimp only at H
 have A6 := qS.mk A60
 clear A60
 by_cases c7 : t239 = true
 ·subst c7
  rw [if_pos rfl] at H
  have HC8 := qS.mk H
  clear H
  go_enter Try.func59, Try.ntmps59
  go_upto_region 3 with (first | ((with_reducible refine gate_dst (N := 5) rfl ?_); (try (refine gate_guard (by rfl) ?_; dsimp only)); refine bE #[.slice A0_0 l0_0.length c0_0, .slice A0_1 l0_1.length c0_1, .int .i64 a0_2] 32 ?_; intro gb237 hg w9 hbox hb; have BK237 := qS.mk (hbox); have GW237 := mG HB hg; have GE237 := mG HB hg; replace HB := mS HB hb; clear hb hbox hg) | ((with_reducible refine gate_dst (N := 10) rfl ?_); (try (refine gate_guard (by rfl) ?_; dsimp only)); refine bE #[.int .i64 0, .slice none 0 0, .slice none 0 0, .int .i64 0] 53 ?_; intro gb238 hg w10 hbox hb; have BK238 := qS.mk (hbox); have GW238 := mG HB hg; have GE238 := mG HB hg; have NB237_238 := mN BK237 hg; have NB238_237 := mM BK237 hg; replace BK237 := mB BK237 hb; replace HB := mS HB hb; clear hb hbox hg; have hnb11 := NB237_238.out; have hnc11 := NB238_237.out; obtain ⟨hcz12_0, hcz12_1, hcz12_2, hfz12_0, hfz12_1, hfz12_2⟩ := bx3 BK237) | ((with_reducible refine gate_callee (f := 24) rfl ?_); refine gL (some 20) Try.func24 #[.agg #[.slice A0_0 l0_0.length c0_0, .slice A0_1 l0_1.length c0_1, .int .i64 a0_2]] ?_; (with_reducible refine (zH.calls k _ _ l0_0 _ _ l0_1 a0_2 true _ (cS (Kd.qW HR0_0.out HB.out)) HC0_0.out (cS (Kd.qW HR0_1.out HB.out)) HC0_1.out A6.out).mono ?_); rintro e w13 ⟨rfl, hb⟩; refine ⟨_, rfl, ?_⟩; replace BK237 := mB BK237 hb; replace BK238 := mB BK238 hb; replace HB := mS HB hb; (try clear hb); (try clear hb2); (try clear hk); (try clear hi)))
  (try simp only [Act.put, List.setIfInBounds_toArray, List.set_cons_zero, List.set_cons_succ])
  go_cut [31] (fun v31 wc => ∃ (kq : Nat) (x31_7 : Bool), v31 = .bool x31_7 ∧ qS (spec_Slice.j0 kq a1 a2 a3 a4 x31_7 l0_0 l0_1 a0_2 = some (r1, r2, r3, r4)) ∧ qS (kq ≤ k) ∧ qS (wc.heap[gb237]? = some (.cells #[(.slice A0_0 l0_0.length c0_0), (.slice A0_1 l0_1.length c0_1), .int .i64 a0_2] 32 (0, 0))) ∧ qS (wc.heap[gb238]? = some (.cells #[.int .i64 0, (.slice none 0 0), (.slice none 0 0), .int .i64 0] 53 (0, 0))) ∧ qS (Below w.heap.size w wc))
  case first =>
   have H := HC8.out
   clear HC8
   by_cases c14 : a1 < 0
   ·rw [if_pos c14] at H
    have c14b0 : decide (a1 < 0) = true := decide_eq_true c14
    clear c14
    (first | rw [c14b0] | (simp only [i64_w, i32_w]; rw [c14b0]) | skip)
    have H' := qS.mk H
    clear H
    go_wp2
    go_meet
    case rel => exact ⟨_, (true), rf, H', ⟨by first | omega | exact Nat.le_refl _⟩, ⟨bS BK237⟩, ⟨bS BK238⟩, ⟨lS HB⟩⟩
   ·rw [if_neg c14] at H
    have c14b0 : decide (a1 < 0) = false := decide_eq_false c14
    clear c14
    (first | rw [c14b0] | (simp only [i64_w, i32_w]; rw [c14b0]) | skip)
    have H' := qS.mk H
    clear H
    have hnb15 := NB237_238.out
    have hnc15 := NB238_237.out
    obtain ⟨hcz16_0, hcz16_1, hcz16_2, hfz16_0, hfz16_1, hfz16_2⟩ := bx3 BK237
    go_wp2
    go_meet
    case rel => exact ⟨_, (decide (a1 ≥ (l0_0.length : Int))), rf, H', ⟨by first | omega | exact Nat.le_refl _⟩, ⟨bS BK237⟩, ⟨bS BK238⟩, ⟨lS HB⟩⟩
  case rest =>
   clear HC8
   (try clear c7); (try clear hcz12_0); (try clear hcz12_1); (try clear hcz12_2); (try clear hfz12_0); (try clear hfz12_1); (try clear hfz12_2)
   obtain ⟨kq, x31_7, rfl, HA, HJ7, BK237, BK238, HB⟩ := hcut
   cases kq with
   | zero => exact absurd HA.out (by simp [spec_Slice.j0])
   | succ kj7 =>
    have H := HA.out
    clear HA
    simp only [spec_Slice.j0] at H
    by_cases c17 : x31_7 = true
    ·subst c17
     rw [if_pos rfl] at H
     simp only [Option.some.injEq, Prod.mk.injEq] at H
     obtain ⟨rfl, rfl, rfl, rfl⟩ := H
     have hnb18 := NB238_237.out
     have hnc18 := NB237_238.out
     obtain ⟨hcz19_0, hcz19_1, hcz19_2, hcz19_3, hfz19_0, hfz19_1, hfz19_2, hfz19_3⟩ := bx4 BK238
     go_wp2
     refine bodyPost_ret (rC gb238 53 #[.int .i64 5, .slice none 0 0, .slice none 0 0, .int .i64 0] (bQ BK238) Try.underlying53) rfl ?_
     exact ⟨_, _, rg, rN, rN, lS HB⟩
    ·replace c17 := Bool.eq_false_iff.mpr c17
     subst c17
     rw [if_neg (show ¬ (false = true) by decide)] at H
     have HC20 := qS.mk H
     clear H
     go_upto_region 5 with (fail)
     go_cut [58] (fun v58 wc => ∃ (kq : Nat) (x58_19 : Bool), v58 = .bool x58_19 ∧ qS (spec_Slice.j1 kq a1 a2 a3 a4 x58_19 l0_0 l0_1 a0_2 = some (r1, r2, r3, r4)) ∧ qS (kq ≤ kj7) ∧ qS (wc.heap[gb237]? = some (.cells #[(.slice A0_0 l0_0.length c0_0), (.slice A0_1 l0_1.length c0_1), .int .i64 a0_2] 32 (0, 0))) ∧ qS (wc.heap[gb238]? = some (.cells #[.int .i64 0, (.slice none 0 0), (.slice none 0 0), .int .i64 0] 53 (0, 0))) ∧ qS (Below w.heap.size w wc))
     case first =>
      have H := HC20.out
      clear HC20
      by_cases c21 : a4 = 0
      ·rw [if_pos c21] at H
       have c21b0 : (a4 == 0) = true := beq_iff_eq.mpr c21
       have c21b1 : (a4 != 0) = false := bne_eq_false_iff_eq.mpr c21
       clear c21
       (first | rw [c21b0] | (simp only [i64_w, i32_w]; rw [c21b0]) | skip)
       have H' := qS.mk H
       clear H
       go_wp2
       go_meet
       case rel => exact ⟨_, (true), rf, H', ⟨by have := HJ7.out; first | omega | exact Nat.le_refl _⟩, ⟨bS BK237⟩, ⟨bS BK238⟩, ⟨lS HB⟩⟩
      ·rw [if_neg c21] at H
       have c21b0 : (a4 == 0) = false := beq_eq_false_iff_ne.mpr c21
       have c21b1 : (a4 != 0) = true := bne_iff_ne.mpr c21
       (first | rw [c21b0] | (simp only [i64_w, i32_w]; rw [c21b0]) | skip)
       by_cases c22 : a4 < (-1000000)
       ·rw [if_pos c22] at H
        have c22b0 : decide (a4 < (-1000000)) = true := decide_eq_true c22
        clear c22
        have H' := qS.mk H
        clear H
        go_wp2
        go_meet
        case rel => exact ⟨_, (true), rf, H', ⟨by have := HJ7.out; first | omega | exact Nat.le_refl _⟩, ⟨bS BK237⟩, ⟨bS BK238⟩, ⟨lS HB⟩⟩
       ·rw [if_neg c22] at H
        have c22b0 : decide (a4 < (-1000000)) = false := decide_eq_false c22
        clear c22
        by_cases c23 : a4 > 1000000
        ·rw [if_pos c23] at H
         have c23b0 : decide (1000000 < a4) = true := decide_eq_true c23
         clear c23
         have H' := qS.mk H
         clear H
         go_wp2
         go_meet
         case rel => exact ⟨_, (true), rf, H', ⟨by have := HJ7.out; first | omega | exact Nat.le_refl _⟩, ⟨bS BK237⟩, ⟨bS BK238⟩, ⟨lS HB⟩⟩
        ·rw [if_neg c23] at H
         have c23b0 : decide (1000000 < a4) = false := decide_eq_false c23
         clear c23
         by_cases c24 : a2 < (-1000000)
         ·rw [if_pos c24] at H
          have c24b0 : decide (a2 < (-1000000)) = true := decide_eq_true c24
          clear c24
          have H' := qS.mk H
          clear H
          go_wp2
          go_meet
          case rel => exact ⟨_, (true), rf, H', ⟨by have := HJ7.out; first | omega | exact Nat.le_refl _⟩, ⟨bS BK237⟩, ⟨bS BK238⟩, ⟨lS HB⟩⟩
         ·rw [if_neg c24] at H
          have c24b0 : decide (a2 < (-1000000)) = false := decide_eq_false c24
          clear c24
          by_cases c25 : a2 > 1000000
          ·rw [if_pos c25] at H
           have c25b0 : decide (1000000 < a2) = true := decide_eq_true c25
           clear c25
           have H' := qS.mk H
           clear H
           go_wp2
           go_meet
           case rel => exact ⟨_, (true), rf, H', ⟨by have := HJ7.out; first | omega | exact Nat.le_refl _⟩, ⟨bS BK237⟩, ⟨bS BK238⟩, ⟨lS HB⟩⟩
          ·rw [if_neg c25] at H
           have c25b0 : decide (1000000 < a2) = false := decide_eq_false c25
           clear c25
           by_cases c26 : a3 < (-1000000)
           ·rw [if_pos c26] at H
            have c26b0 : decide (a3 < (-1000000)) = true := decide_eq_true c26
            clear c26
            have H' := qS.mk H
            clear H
            go_wp2
            go_meet
            case rel => exact ⟨_, (true), rf, H', ⟨by have := HJ7.out; first | omega | exact Nat.le_refl _⟩, ⟨bS BK237⟩, ⟨bS BK238⟩, ⟨lS HB⟩⟩
           ·rw [if_neg c26] at H
            have c26b0 : decide (a3 < (-1000000)) = false := decide_eq_false c26
            clear c26
            have H' := qS.mk H
            clear H
            go_wp2
            go_meet
            case rel => exact ⟨_, (decide (a3 > 1000000)), rf, H', ⟨by have := HJ7.out; first | omega | exact Nat.le_refl _⟩, ⟨bS BK237⟩, ⟨bS BK238⟩, ⟨lS HB⟩⟩
     case rest =>
      clear HC20
      (try clear c7); (try clear c17); (try clear hcz12_0); (try clear hcz12_1); (try clear hcz12_2); (try clear hfz12_0); (try clear hfz12_1); (try clear hfz12_2)
      obtain ⟨kq, x58_19, rfl, HA, HJ19, BK237, BK238, HB⟩ := hcut
      cases kq with
      | zero => exact absurd HA.out (by simp [spec_Slice.j1])
      | succ kj19 =>
       have H := HA.out
       clear HA
       simp only [spec_Slice.j1] at H
       by_cases c27 : x58_19 = true
       ·subst c27
        rw [if_pos rfl] at H
        simp only [Option.some.injEq, Prod.mk.injEq] at H
        obtain ⟨rfl, rfl, rfl, rfl⟩ := H
        have hnb28 := NB238_237.out
        have hnc28 := NB237_238.out
        obtain ⟨hcz29_0, hcz29_1, hcz29_2, hcz29_3, hfz29_0, hfz29_1, hfz29_2, hfz29_3⟩ := bx4 BK238
        go_wp2
        refine bodyPost_ret (rC gb238 53 #[.int .i64 8, .slice none 0 0, .slice none 0 0, .int .i64 0] (bQ BK238) Try.underlying53) rfl ?_
        exact ⟨_, _, rg, rN, rN, lS HB⟩
       ·replace c27 := Bool.eq_false_iff.mpr c27
        subst c27
        rw [if_neg (show ¬ (false = true) by decide)] at H
        replace H := gN H
        obtain ⟨c30, H⟩ := H
        have c30b0 : decide (0 ≤ a1) = true := decide_eq_true c30
        clear c30
        replace H := gN H
        obtain ⟨c31, H⟩ := H
        have c31b0 : decide (a1 < (l0_0.length : Int)) = true := decide_eq_true c31
        clear c31
        have HC32 := qS.mk H
        clear H
        have hnb33 := NB237_238.out
        have hnc33 := NB238_237.out
        obtain ⟨hcz34_0, hcz34_1, hcz34_2, hfz34_0, hfz34_1, hfz34_2⟩ := bx3 BK237
        obtain ⟨ad240, e240, hx240_0, -, p240, q240⟩ := aI HR0_0 HB a1
        cases e240
        go_upto_if 67 with (fail)
        go_cut [12, 13] (fun v12 v13 wc => ∃ (kq : Nat) (x12_31 : Int) (x13_31 : Int), v12 = .int .i64 x12_31 ∧ v13 = .int .i64 x13_31 ∧ qS (spec_Slice.j2 kq a1 a2 a3 a4 (rd l0_0 a1) x12_31 x13_31 l0_0 l0_1 a0_2 = some (r1, r2, r3, r4)) ∧ qS (kq ≤ kj19) ∧ qS (wc.heap[gb237]? = some (.cells #[(.slice (some ad240) l0_0.length c0_0), (.slice A0_1 l0_1.length c0_1), .int .i64 a0_2] 32 (0, 0))) ∧ qS (wc.heap[gb238]? = some (.cells #[.int .i64 0, (.slice none 0 0), (.slice none 0 0), .int .i64 0] 53 (0, 0))) ∧ qS (Below w.heap.size w wc))
        case first =>
         have H := HC32.out
         clear HC32
         by_cases c35 : a4 < 0
         ·rw [if_pos c35] at H
          have c35b0 : decide (a4 < 0) = true := decide_eq_true c35
          clear c35
          (first | rw [c35b0] | (simp only [i64_w, i32_w]; rw [c35b0]) | skip)
          have H' := qS.mk H
          clear H
          go_wp2
          go_meet
          case rel => exact ⟨_, ((-1)), (wrap64 ((rd l0_0 a1) - 1)), rf, rf, H', ⟨by have := HJ7.out; have := HJ19.out; first | omega | exact Nat.le_refl _⟩, ⟨bS BK237⟩, ⟨bS BK238⟩, ⟨lS HB⟩⟩
         ·rw [if_neg c35] at H
          have c35b0 : decide (a4 < 0) = false := decide_eq_false c35
          clear c35
          (first | rw [c35b0] | (simp only [i64_w, i32_w]; rw [c35b0]) | skip)
          have H' := qS.mk H
          clear H
          go_wp2
          go_meet
          case rel => exact ⟨_, (0), (rd l0_0 a1), rf, rf, H', ⟨by have := HJ7.out; have := HJ19.out; first | omega | exact Nat.le_refl _⟩, ⟨bS BK237⟩, ⟨bS BK238⟩, ⟨lS HB⟩⟩
        case rest =>
         clear HC32
         (try clear c7); (try clear c17); (try clear c27); (try clear c30); (try clear c30b0); (try clear c31); (try clear c31b0); (try clear hcz12_0); (try clear hcz12_1); (try clear hcz12_2); (try clear hcz34_0); (try clear hcz34_1); (try clear hcz34_2); (try clear hfz12_0); (try clear hfz12_1); (try clear hfz12_2); (try clear hfz34_0); (try clear hfz34_1); (try clear hfz34_2); (try clear hx240_0); (try clear p240); (try clear q240)
         obtain ⟨kq, x12_31, x13_31, rfl, rfl, HA, HJ31, BK237, BK238, HB⟩ := hcut
         cases kq with
         | zero => exact absurd HA.out (by simp [spec_Slice.j2])
         | succ kj31 =>
          have H := HA.out
          clear HA
          simp only [spec_Slice.j2] at H
          replace H := Option.bind_eq_some_iff.mp H
          obtain ⟨t241, A360, H⟩ := H
          try dsimp only at H
          have A36 := qS.mk A360
          clear A360
          replace H := Option.bind_eq_some_iff.mp H
          obtain ⟨t242, A370, H⟩ := H
          try dsimp only at H
          have A37 := qS.mk A370
          clear A370
          obtain ⟨y243, hy243⟩ : ∃ y_ : List Int, y_ = (([] : List Int)) := ⟨_, rfl⟩
          replace H : (spec_Slice.l0 kj31 a1 a4 t242 y243 t241 l0_0 l0_1 a0_2) = some (r1, r2, r3, r4) := by first | (rw [hy243]; with_reducible exact H) | (have H2_ := (Option.bind_some _ _).symm.trans H; rw [hy243]; with_reducible exact H2_) | (have H2_ := (Option.bind_some _ _).symm.trans H; with_reducible exact H2_) | with_reducible exact H | (rw [hy243]; exact H) | exact H
          have Ny243 := qS.mk hy243
          clear hy243
          have HC38 := qS.mk H
          clear H
          go_upto_block 0 with (first | ((with_reducible refine gate_callee (f := 100) rfl ?_); refine gL (some 74) Try.func100 #[.int .i64 a2, .int .i64 (rd l0_0 a1), .int .i64 x12_31, .int .i64 x13_31] ?_; (with_reducible refine (spec_l2Right.calls a2 (rd l0_0 a1) x12_31 x13_31 t241 _ A36.out).mono ?_); rintro e w' ⟨rfl, ⟨nd, rfl⟩⟩; refine ⟨_, rfl, ?_⟩) | ((with_reducible refine gate_callee (f := 100) rfl ?_); refine gL (some 79) Try.func100 #[.int .i64 a3, .int .i64 (rd l0_0 a1), .int .i64 x12_31, .int .i64 x13_31] ?_; (with_reducible refine (spec_l2Right.calls a3 (rd l0_0 a1) x12_31 x13_31 t242 _ A37.out).mono ?_); rintro e w' ⟨rfl, ⟨nd, rfl⟩⟩; refine ⟨_, rfl, ?_⟩) | ((with_reducible refine gate_dst (N := 80) rfl ?_); (try (refine gate_guard (by rfl) ?_; dsimp only)); refine Kd.R_lit (Kd.int .i64) _ 2 ?hg (N := 80) ?hd (xs := ([] : List Int)) (inner := []) (ok := fun _ => True) (okp := fun _ => True) ?hr ?hp (fun _ hk => hk) trivial (Below.refl _ _) (Nat.le_refl _) (by simp) ?_; (case hd => rfl); (case hg => rfl); (case hr => first | (go_simp; done) | (go_simp; rfl)); (case hp => exact (Reps.none _ _)); intro v244 w39 ho40 hb hg_ hnew_; clear hg_ hnew_; (first | rw [← Ny243.out] at ho40 | (simp only [Int.reduceToNat] at ho40; rw [← Ny243.out] at ho40)); have HO245 := qS.mk (Kd.R_lower ho40 (qF (lS HB))); replace BK237 := mB BK237 hb; replace BK238 := mB BK238 hb; replace HB := mS HB hb; clear hb ho40))
          (try simp only [Act.put, List.setIfInBounds_toArray, List.set_cons_zero, List.set_cons_succ])
          go_cut [16] (fun v16 wc => ∃ (kq : Nat) (x16_37 : List Int), qS (spec_Slice.j4 kq a1 a4 x16_37 l0_0 l0_1 a0_2 = some (r1, r2, r3, r4)) ∧ qS (kq ≤ kj31) ∧ qS (Kd.R (Kd.int .i64) 2 wc w.heap.size (fun _ => True) v16 x16_37) ∧ qS (wc.heap[gb237]? = some (.cells #[(.slice (some ad240) l0_0.length c0_0), (.slice A0_1 l0_1.length c0_1), .int .i64 a0_2] 32 (0, 0))) ∧ qS (wc.heap[gb238]? = some (.cells #[.int .i64 0, (.slice none 0 0), (.slice none 0 0), .int .i64 0] 53 (0, 0))) ∧ qS (Below w.heap.size w wc))
          case first =>
           have H := HC38.out
           clear HC38
           have H' := qS.mk H
           clear H
           go_wp2
           go_loopg [16, 17] kj31 (fun kq v16 v17 w' => ∃ (x16_4 : List Int) (x17_4 : Int), v17 = .int .i64 x17_4 ∧ qS (spec_Slice.l0 kq a1 a4 t242 x16_4 x17_4 l0_0 l0_1 a0_2 = some (r1, r2, r3, r4)) ∧ qS (kq ≤ kj31) ∧ qS (Kd.R (Kd.int .i64) 2 w' w.heap.size (fun _ => True) v16 x16_4) ∧ qS (w'.heap[gb237]? = some (.cells #[(.slice (some ad240) l0_0.length c0_0), (.slice A0_1 l0_1.length c0_1), .int .i64 a0_2] 32 (0, 0))) ∧ qS (w'.heap[gb238]? = some (.cells #[.int .i64 0, (.slice none 0 0), (.slice none 0 0), .int .i64 0] 53 (0, 0))) ∧ qS (Below w.heap.size w w'))
           case atStart => exact ⟨(y243), (t241), rf, H', ⟨Nat.le_refl _⟩, ⟨rS HO245⟩, ⟨bS BK237⟩, ⟨bS BK238⟩, ⟨lS HB⟩⟩
           case round =>
            clear H'
            (try clear c7); (try clear c17); (try clear c27); (try clear c30); (try clear c30b0); (try clear c31); (try clear c31b0); (try clear hcz12_0); (try clear hcz12_1); (try clear hcz12_2); (try clear hcz34_0); (try clear hcz34_1); (try clear hcz34_2); (try clear hfz12_0); (try clear hfz12_1); (try clear hfz12_2); (try clear hfz34_0); (try clear hfz34_1); (try clear hfz34_2); (try clear hx240_0); (try clear p240); (try clear q240)
            obtain ⟨x16_4, x17_4, rfl, HA, HK4, HO_16, BK237, BK238, HB⟩ := hrel
            cases gk with
            | zero => exact absurd HA.out (by simp [spec_Slice.l0])
            | succ k4 =>
             have H := HA.out
             clear HA
             simp only [spec_Slice.l0] at H
             by_cases c41 : a4 > 0
             ·rw [if_pos c41] at H
              have c41b0 : decide (0 < a4) = true := decide_eq_true c41
              clear c41
              (first | rw [c41b0] | (simp only [i64_w, i32_w]; rw [c41b0]) | skip)
              by_cases c42 : x17_4 < t242
              ·rw [if_pos c42] at H
               have c42b0 : decide (x17_4 < t242) = true := decide_eq_true c42
               clear c42
               replace H := gN H
               obtain ⟨c43, H⟩ := H
               have LMc43 := qS.mk c43
               clear c43
               obtain ⟨y246, hy246⟩ : ∃ y_ : List Int, y_ = (x16_4 ++ [x17_4]) := ⟨_, rfl⟩
               replace H : (spec_Slice.l0 k4 a1 a4 t242 y246 (wrap64 (x17_4 + a4)) l0_0 l0_1 a0_2) = some (r1, r2, r3, r4) := by first | (rw [hy246]; with_reducible exact H) | (have H2_ := (Option.bind_some _ _).symm.trans H; rw [hy246]; with_reducible exact H2_) | (have H2_ := (Option.bind_some _ _).symm.trans H; with_reducible exact H2_) | with_reducible exact H | (rw [hy246]; exact H) | exact H
               have Ny246 := qS.mk hy246
               clear hy246
               have H' := qS.mk H
               clear H
               go_wp2_with (first | ((with_reducible refine gate_builtin (b := .append) (xs := #[.tmp 101, .tmp 103]) rfl ?_); (try (refine gate_guard (by rfl) ?_; dsimp only)); at_builtin; refine Kd.R_append (Kd.int .i64) (w0 := w) w.heap.size rfl (.tmp 101) (.tmp 103) 27 2 (.int .i64 0) 8 rfl Try.underlying27 info2 rfl (by decide) (by omega) u16 x16_4 x17_4 [.int .i64 x17_4] (fun _ => True) (fun _ => False) rfl rfl ?aP (fun _ hk => hk.elim) ?aF ?aO ?aB ?aS ?aL ?_; (case aP => exact rfl); (case aB => exact (lS HB)); (case aF => exact (fun _ _ => trivial)); (case aO => exact (rS HO_16)); (case aS => exact (qF (lS HB))); (case aL => have := LMc43.out; omega); intro v247 w44 ho hb hg hat; rw [← Ny246.out] at ho; have HO248 := qS.mk (ho); replace BK237 := gB BK237 hg (Kd.R_ne HO_16.out BK237.out (by decide)); replace BK238 := gB BK238 hg (Kd.R_ne HO_16.out BK238.out (by decide)); replace HB := qS.mk (hb); clear HO_16; clear ho hb hg hat))
               go_roundg k4
               case measure => have := HJ7.out; have := HJ19.out; have := HJ31.out; have := HK4.out; omega
               case rel => exact ⟨(y246), (wrap64 (x17_4 + a4)), rf, H', ⟨by have := HJ7.out; have := HJ19.out; have := HJ31.out; have := HK4.out; omega⟩, ⟨rS HO248⟩, ⟨bS BK237⟩, ⟨bS BK238⟩, ⟨lS HB⟩⟩
              ·rw [if_neg c42] at H
               have c42b0 : decide (x17_4 < t242) = false := decide_eq_false c42
               clear c42
               by_cases c45 : a4 < 0
               ·rw [if_pos c45] at H
                have c45b0 : decide (a4 < 0) = true := decide_eq_true c45
                clear c45
                by_cases c46 : x17_4 > t242
                ·rw [if_pos c46] at H
                 have c46b0 : decide (t242 < x17_4) = true := decide_eq_true c46
                 clear c46
                 replace H := gN H
                 obtain ⟨c47, H⟩ := H
                 have LMc47 := qS.mk c47
                 clear c47
                 obtain ⟨y249, hy249⟩ : ∃ y_ : List Int, y_ = (x16_4 ++ [x17_4]) := ⟨_, rfl⟩
                 replace H : (spec_Slice.l0 k4 a1 a4 t242 y249 (wrap64 (x17_4 + a4)) l0_0 l0_1 a0_2) = some (r1, r2, r3, r4) := by first | (rw [hy249]; with_reducible exact H) | (have H2_ := (Option.bind_some _ _).symm.trans H; rw [hy249]; with_reducible exact H2_) | (have H2_ := (Option.bind_some _ _).symm.trans H; with_reducible exact H2_) | with_reducible exact H | (rw [hy249]; exact H) | exact H
                 have Ny249 := qS.mk hy249
                 clear hy249
                 have H' := qS.mk H
                 clear H
                 go_wp2_with (first | ((with_reducible refine gate_builtin (b := .append) (xs := #[.tmp 101, .tmp 103]) rfl ?_); (try (refine gate_guard (by rfl) ?_; dsimp only)); at_builtin; refine Kd.R_append (Kd.int .i64) (w0 := w) w.heap.size rfl (.tmp 101) (.tmp 103) 27 2 (.int .i64 0) 8 rfl Try.underlying27 info2 rfl (by decide) (by omega) u16 x16_4 x17_4 [.int .i64 x17_4] (fun _ => True) (fun _ => False) rfl rfl ?aP (fun _ hk => hk.elim) ?aF ?aO ?aB ?aS ?aL ?_; (case aP => exact rfl); (case aB => exact (lS HB)); (case aF => exact (fun _ _ => trivial)); (case aO => exact (rS HO_16)); (case aS => exact (qF (lS HB))); (case aL => have := LMc47.out; omega); intro v250 w48 ho hb hg hat; rw [← Ny249.out] at ho; have HO251 := qS.mk (ho); replace BK237 := gB BK237 hg (Kd.R_ne HO_16.out BK237.out (by decide)); replace BK238 := gB BK238 hg (Kd.R_ne HO_16.out BK238.out (by decide)); replace HB := qS.mk (hb); clear HO_16; clear ho hb hg hat))
                 go_roundg k4
                 case measure => have := HJ7.out; have := HJ19.out; have := HJ31.out; have := HK4.out; omega
                 case rel => exact ⟨(y249), (wrap64 (x17_4 + a4)), rf, H', ⟨by have := HJ7.out; have := HJ19.out; have := HJ31.out; have := HK4.out; omega⟩, ⟨rS HO251⟩, ⟨bS BK237⟩, ⟨bS BK238⟩, ⟨lS HB⟩⟩
                ·rw [if_neg c46] at H
                 have c46b0 : decide (t242 < x17_4) = false := decide_eq_false c46
                 clear c46
                 have H' := qS.mk H
                 clear H
                 go_wp2
                 go_meet
                 case rel => exact ⟨_, (x16_4), H', ⟨by have := HJ7.out; have := HJ19.out; have := HJ31.out; have := HK4.out; first | omega | exact Nat.le_refl _⟩, ⟨rS HO_16⟩, ⟨bS BK237⟩, ⟨bS BK238⟩, ⟨lS HB⟩⟩
               ·rw [if_neg c45] at H
                have c45b0 : decide (a4 < 0) = false := decide_eq_false c45
                clear c45
                have H' := qS.mk H
                clear H
                go_wp2
                go_meet
                case rel => exact ⟨_, (x16_4), H', ⟨by have := HJ7.out; have := HJ19.out; have := HJ31.out; have := HK4.out; first | omega | exact Nat.le_refl _⟩, ⟨rS HO_16⟩, ⟨bS BK237⟩, ⟨bS BK238⟩, ⟨lS HB⟩⟩
             ·rw [if_neg c41] at H
              have c41b0 : decide (0 < a4) = false := decide_eq_false c41
              clear c41
              (first | rw [c41b0] | (simp only [i64_w, i32_w]; rw [c41b0]) | skip)
              by_cases c49 : a4 < 0
              ·rw [if_pos c49] at H
               have c49b0 : decide (a4 < 0) = true := decide_eq_true c49
               clear c49
               by_cases c50 : x17_4 > t242
               ·rw [if_pos c50] at H
                have c50b0 : decide (t242 < x17_4) = true := decide_eq_true c50
                clear c50
                replace H := gN H
                obtain ⟨c51, H⟩ := H
                have LMc51 := qS.mk c51
                clear c51
                obtain ⟨y252, hy252⟩ : ∃ y_ : List Int, y_ = (x16_4 ++ [x17_4]) := ⟨_, rfl⟩
                replace H : (spec_Slice.l0 k4 a1 a4 t242 y252 (wrap64 (x17_4 + a4)) l0_0 l0_1 a0_2) = some (r1, r2, r3, r4) := by first | (rw [hy252]; with_reducible exact H) | (have H2_ := (Option.bind_some _ _).symm.trans H; rw [hy252]; with_reducible exact H2_) | (have H2_ := (Option.bind_some _ _).symm.trans H; with_reducible exact H2_) | with_reducible exact H | (rw [hy252]; exact H) | exact H
                have Ny252 := qS.mk hy252
                clear hy252
                have H' := qS.mk H
                clear H
                go_wp2_with (first | ((with_reducible refine gate_builtin (b := .append) (xs := #[.tmp 101, .tmp 103]) rfl ?_); (try (refine gate_guard (by rfl) ?_; dsimp only)); at_builtin; refine Kd.R_append (Kd.int .i64) (w0 := w) w.heap.size rfl (.tmp 101) (.tmp 103) 27 2 (.int .i64 0) 8 rfl Try.underlying27 info2 rfl (by decide) (by omega) u16 x16_4 x17_4 [.int .i64 x17_4] (fun _ => True) (fun _ => False) rfl rfl ?aP (fun _ hk => hk.elim) ?aF ?aO ?aB ?aS ?aL ?_; (case aP => exact rfl); (case aB => exact (lS HB)); (case aF => exact (fun _ _ => trivial)); (case aO => exact (rS HO_16)); (case aS => exact (qF (lS HB))); (case aL => have := LMc51.out; omega); intro v253 w52 ho hb hg hat; rw [← Ny252.out] at ho; have HO254 := qS.mk (ho); replace BK237 := gB BK237 hg (Kd.R_ne HO_16.out BK237.out (by decide)); replace BK238 := gB BK238 hg (Kd.R_ne HO_16.out BK238.out (by decide)); replace HB := qS.mk (hb); clear HO_16; clear ho hb hg hat))
                go_roundg k4
                case measure => have := HJ7.out; have := HJ19.out; have := HJ31.out; have := HK4.out; omega
                case rel => exact ⟨(y252), (wrap64 (x17_4 + a4)), rf, H', ⟨by have := HJ7.out; have := HJ19.out; have := HJ31.out; have := HK4.out; omega⟩, ⟨rS HO254⟩, ⟨bS BK237⟩, ⟨bS BK238⟩, ⟨lS HB⟩⟩
               ·rw [if_neg c50] at H
                have c50b0 : decide (t242 < x17_4) = false := decide_eq_false c50
                clear c50
                have H' := qS.mk H
                clear H
                go_wp2
                go_meet
                case rel => exact ⟨_, (x16_4), H', ⟨by have := HJ7.out; have := HJ19.out; have := HJ31.out; have := HK4.out; first | omega | exact Nat.le_refl _⟩, ⟨rS HO_16⟩, ⟨bS BK237⟩, ⟨bS BK238⟩, ⟨lS HB⟩⟩
              ·rw [if_neg c49] at H
               have c49b0 : decide (a4 < 0) = false := decide_eq_false c49
               clear c49
               have H' := qS.mk H
               clear H
               go_wp2
               go_meet
               case rel => exact ⟨_, (x16_4), H', ⟨by have := HJ7.out; have := HJ19.out; have := HJ31.out; have := HK4.out; first | omega | exact Nat.le_refl _⟩, ⟨rS HO_16⟩, ⟨bS BK237⟩, ⟨bS BK238⟩, ⟨lS HB⟩⟩
          case rest =>
           clear HC38
           (try clear c7); (try clear c17); (try clear c27); (try clear c30); (try clear c30b0); (try clear c31); (try clear c31b0); (try clear hcz12_0); (try clear hcz12_1); (try clear hcz12_2); (try clear hcz34_0); (try clear hcz34_1); (try clear hcz34_2); (try clear hfz12_0); (try clear hfz12_1); (try clear hfz12_2); (try clear hfz34_0); (try clear hfz34_1); (try clear hfz34_2); (try clear hx240_0); (try clear p240); (try clear q240)
           obtain ⟨kq, x16_37, HA, HJ37, HO_16, BK237, BK238, HB⟩ := hcut
           cases kq with
           | zero => exact absurd HA.out (by simp [spec_Slice.j4])
           | succ kj37 =>
            have H := HA.out
            clear HA
            simp only [spec_Slice.j4] at H
            replace H := Option.bind_eq_some_iff.mp H
            obtain ⟨⟨t255, t258, t261⟩, A530, H⟩ := H
            try dsimp only at H
            have A53 := qS.mk A530
            clear A530
            replace H := gN H
            obtain ⟨c54, H⟩ := H
            have c54b0 : decide (0 ≤ a1) = true := decide_eq_true c54
            clear c54
            replace H := gN H
            obtain ⟨c55, H⟩ := H
            have c55b0 : decide (a1 < (t255.length : Int)) = true := decide_eq_true c55
            clear c55
            obtain ⟨y263, hy263⟩ : ∃ y_ : List Int, y_ = (t255.set (a1 : Int).toNat (x16_37.length : Int)) := ⟨_, rfl⟩
            replace H : ((zL.f kj37 y263).bind fun t264 => (if t264 = 0 then (some (0, y263, t258, t261)) else (if 0 < (x16_37.length : Int) then (if a1 < (l0_1.length : Int) then (if (x16_37.length : Int) > 1 then (if a1 < (t258.length : Int) then (some (0, y263, (t258.set (a1 : Int).toNat (wrap64 (a4 * (rd l0_1 a1)))), wrap64 (a0_2 + (wrap64 ((rd x16_37 0) * (rd l0_1 a1)))))) else (none)) else (some (0, y263, t258, wrap64 (a0_2 + (wrap64 ((rd x16_37 0) * (rd l0_1 a1))))))) else (none)) else (none)))) = some (r1, r2, r3, r4) := by first | (rw [hy263]; with_reducible exact H) | (have H2_ := (Option.bind_some _ _).symm.trans H; rw [hy263]; with_reducible exact H2_) | (have H2_ := (Option.bind_some _ _).symm.trans H; with_reducible exact H2_) | with_reducible exact H | (rw [hy263]; exact H) | exact H
            have Ny263 := qS.mk hy263
            clear hy263
            replace H := Option.bind_eq_some_iff.mp H
            obtain ⟨t264, A570, H⟩ := H
            try dsimp only at H
            have A57 := qS.mk A570
            clear A570
            by_cases c58 : t264 = 0
            ·rw [if_pos c58] at H
             have c58b0 : (t264 == 0) = true := beq_iff_eq.mpr c58
             have c58b1 : (t264 != 0) = false := bne_eq_false_iff_eq.mpr c58
             clear c58
             simp only [Option.some.injEq, Prod.mk.injEq] at H
             obtain ⟨rfl, rfl, rfl, rfl⟩ := H
             have hnb59 := NB237_238.out
             have hnc59 := NB238_237.out
             obtain ⟨hcz60_0, hcz60_1, hcz60_2, hfz60_0, hfz60_1, hfz60_2⟩ := bx3 BK237
             go_wp2_with (first | ((with_reducible refine gate_callee (f := 101) rfl ?_); refine gL (some 106) Try.func101 #[.agg #[.slice (some ad240) l0_0.length c0_0, .slice A0_1 l0_1.length c0_1, .int .i64 a0_2]] ?_; (with_reducible refine (spec_l2CopyView.calls kj37 _ _ l0_0 _ _ l0_1 a0_2 t255 t258 t261 _ (cS (Kd.qW HR0_0.out HB.out)) HC0_0.out (cS (Kd.qW HR0_1.out HB.out)) HC0_1.out A53.out).mono ?_); rintro e w61 ⟨v256, v259, rfl, ho0, ho1, hb⟩; refine ⟨_, rfl, ?_⟩; have HO257 := qS.mk (Kd.R_lower (Kd.R_new' ho0 (Kd.R_lt (rS HO_16))) (qF (lS HB))); have HO260 := qS.mk (Kd.R_lower (Kd.R_new' ho1 (Kd.R_lt (rS HO_16))) (qF (lS HB))); replace HO_16 := qS.mk (Kd.qZ (Kd.R_told (Kd.R_told (Kd.R_old (rS HO_16) hb) (Kd.R_base ho0)) (Kd.R_base ho1)) (fun _ h_ => h_.1)); replace BK237 := mB BK237 hb; replace BK238 := mB BK238 hb; replace HB := mS HB hb; (try clear hb); (try clear hb2); (try clear hk); (try clear hi); (try clear ho0); (try clear ho1)) | ((with_reducible refine gate_dst (N := 18) rfl ?_); (try (refine gate_guard (by rfl) ?_; dsimp only)); refine bE #[.slice none 0 0, .slice none 0 0, .int .i64 0] 32 ?_; intro gb262 hg w62 hbox hb; have BK262 := qS.mk (hbox); have GW262 := mG HB hg; have GE262 := mG HB hg; have NB237_262 := mN BK237 hg; have NB262_237 := mM BK237 hg; have NB238_262 := mN BK238 hg; have NB262_238 := mM BK238 hg; replace HO_16 := mR HO_16 hb; replace HO257 := mR HO257 hb; replace HO260 := mR HO260 hb; replace BK237 := mB BK237 hb; replace BK238 := mB BK238 hb; replace HB := mS HB hb; clear hb hbox hg; obtain ⟨Ao63, co63, eo63⟩ := Kd.qX HO257.out; subst eo63; have hnb64 := NB262_237.out; have hnc64 := NB237_262.out; have hnb65 := NB262_238.out; have hnc65 := NB238_262.out; obtain ⟨hcz66_0, hcz66_1, hcz66_2, hfz66_0, hfz66_1, hfz66_2⟩ := bx3 BK262; obtain ⟨Ao67, co67, eo67⟩ := Kd.qX HO260.out; subst eo67) | ((with_reducible refine gate_store (t := 32) (p := 18) rfl ?_); refine sE (w1 := ((w62.setCell ⟨gb262, 0, none⟩ (.slice Ao63 t255.length co63)).setCell ⟨gb262, 1, none⟩ (.slice Ao67 t258.length co67)).setCell ⟨gb262, 2, none⟩ (.int .i64 t261)) ?_; intro w68 hw; replace HO_16 : qS (Kd.R (Kd.int .i64) 2 w68 w.heap.size (fun k_ => some k_ ≠ (.slice Ao63 t255.length co63 : Value).ownBlock ∧ some k_ ≠ (.slice Ao67 t258.length co67 : Value).ownBlock) u16 x16_37) := ⟨(by rw [hw]; exact (rT (Kd.qZ (Kd.R_far (p := ⟨gb262, 2, none⟩) (Kd.R_far (p := ⟨gb262, 1, none⟩) (Kd.R_far (p := ⟨gb262, 0, none⟩) (Kd.R_types HO_16.out BK262.out (by decide)) (fun _ hk => by first | exact hk.2 | (simp only [ne_eq, hk, not_false_eq_true, and_self, true_and, and_true])) (.slice Ao63 t255.length co63)) (fun _ hk => by first | exact hk.2 | (simp only [ne_eq, hk, not_false_eq_true, and_self, true_and, and_true])) (.slice Ao67 t258.length co67)) (fun _ hk => by first | exact hk.2 | (simp only [ne_eq, hk, not_false_eq_true, and_self, true_and, and_true])) (.int .i64 t261)) (fun _ hk => by first | exact ⟨hk.1.1.2, hk.1.2⟩ | (simp only [ne_eq, hk, not_false_eq_true, and_self, true_and, and_true])))))⟩; replace HO257 : qS (Kd.R (Kd.int .i64) 2 w68 w.heap.size (fun k_ => some k_ ≠ (u16 : Value).ownBlock ∧ some k_ ≠ (.slice Ao67 t258.length co67 : Value).ownBlock) (.slice Ao63 t255.length co63) t255) := ⟨(by rw [hw]; exact (rT (Kd.qZ (Kd.R_far (p := ⟨gb262, 2, none⟩) (Kd.R_far (p := ⟨gb262, 1, none⟩) (Kd.R_far (p := ⟨gb262, 0, none⟩) (Kd.R_types HO257.out BK262.out (by decide)) (fun _ hk => by first | exact hk.2 | (simp only [ne_eq, hk, not_false_eq_true, and_self, true_and, and_true])) (.slice Ao63 t255.length co63)) (fun _ hk => by first | exact hk.2 | (simp only [ne_eq, hk, not_false_eq_true, and_self, true_and, and_true])) (.slice Ao67 t258.length co67)) (fun _ hk => by first | exact hk.2 | (simp only [ne_eq, hk, not_false_eq_true, and_self, true_and, and_true])) (.int .i64 t261)) (fun _ hk => by first | exact ⟨hk.1.2, hk.1.1⟩ | (simp only [ne_eq, hk, not_false_eq_true, and_self, true_and, and_true])))))⟩; replace HO260 : qS (Kd.R (Kd.int .i64) 2 w68 w.heap.size (fun k_ => some k_ ≠ (u16 : Value).ownBlock ∧ some k_ ≠ (.slice Ao63 t255.length co63 : Value).ownBlock) (.slice Ao67 t258.length co67) t258) := ⟨(by rw [hw]; exact (rT (Kd.qZ (Kd.R_far (p := ⟨gb262, 2, none⟩) (Kd.R_far (p := ⟨gb262, 1, none⟩) (Kd.R_far (p := ⟨gb262, 0, none⟩) (Kd.R_types HO260.out BK262.out (by decide)) (fun _ hk => by first | exact hk.2 | (simp only [ne_eq, hk, not_false_eq_true, and_self, true_and, and_true])) (.slice Ao63 t255.length co63)) (fun _ hk => by first | exact hk.2 | (simp only [ne_eq, hk, not_false_eq_true, and_self, true_and, and_true])) (.slice Ao67 t258.length co67)) (fun _ hk => by first | exact hk.2 | (simp only [ne_eq, hk, not_false_eq_true, and_self, true_and, and_true])) (.int .i64 t261)) (fun _ hk => by first | exact ⟨hk.1.2, hk.1.1⟩ | (simp only [ne_eq, hk, not_false_eq_true, and_self, true_and, and_true])))))⟩; replace BK237 : qS (w68.heap[gb237]? = some (.cells #[.slice (some ad240) l0_0.length c0_0, .slice A0_1 l0_1.length c0_1, .int .i64 a0_2] 32 (0, 0))) := ⟨hw ▸ bQ BK237⟩; replace BK238 : qS (w68.heap[gb238]? = some (.cells #[.int .i64 0, .slice none 0 0, .slice none 0 0, .int .i64 0] 53 (0, 0))) := ⟨hw ▸ bQ BK238⟩; replace BK262 : qS (w68.heap[gb262]? = some (.cells #[.slice Ao63 t255.length co63, .slice Ao67 t258.length co67, .int .i64 t261] 32 (0, 0))) := ⟨hw ▸ bQ BK262⟩; replace HB := lW HB hw; clear hw; obtain ⟨hcz69_0, hcz69_1, hcz69_2, hfz69_0, hfz69_1, hfz69_2⟩ := bx3 BK262; obtain ⟨Ao70, co70, eo70⟩ := Kd.qX HO_16.out; subst eo70; have p56 : 0 ≤ (a1 : Int) := of_decide_eq_true (by assumption); have q56 : (a1 : Int) < ((t255.length : Int) : Int) := of_decide_eq_true (by assumption); obtain ⟨go56, co56, eo56, gb56, gl56, cl56, HG56⟩ := Kd.R_form HO257.out (by omega); (first | cases eo56 | (injection eo56 with ea_ en_ ec_; (first | subst ea_ | (injection ea_ with ea_; subst ea_)); subst ec_; clear en_)); have GB56 := qS.mk gb56; have GG56 := qS.mk HG56; clear gb56 gl56 HG56; obtain ⟨hx56_0, hf56_0⟩ := Kd.R_celln 0 HO257.out (a1 : Int) p56 q56; replace p56 := eq_true p56; replace q56 := eq_true q56; obtain ⟨hy71_, hz71_⟩ := Kd.R_celln 0 HO257.out (a1 : Int) (of_decide_eq_true (by assumption)) (of_decide_eq_true (by assumption)); have HP71 := Kd.R_putg HO257.out (a1 : Int) (x16_37.length : Int)) | ((with_reducible refine gate_store (t := 2) (p := 112) rfl ?_); refine sE (w1 := w68.setCell ⟨go56, (a1 : Int).toNat, none⟩ (.int .i64 (x16_37.length : Int))) ?_; intro w72 hw; have hg : w68.grownBy w72 (some go56) := (by rw [hw]; exact HP71.2); have hp_ : Kd.R (Kd.int .i64) 2 w72 w.heap.size (fun k_ => some k_ ≠ (.slice Ao70 x16_37.length co70 : Value).ownBlock ∧ some k_ ≠ (.slice Ao67 t258.length co67 : Value).ownBlock) (.slice (some ⟨go56, 0, none⟩) t255.length co63) y263 := (by rw [hw, Ny263.out]; exact HP71.1); clear HP71; replace HO_16 := qS.mk (Kd.R_after (v := (.slice (some ⟨go56, 0, none⟩) t255.length co63)) (v1 := (.slice (some ⟨go56, 0, none⟩) t255.length co63)) (ok := (fun k_ => some k_ ≠ (.slice Ao67 t258.length co67 : Value).ownBlock)) (rT (Kd.qZ HO_16.out (fun _ hk => by first | exact ⟨hk.2, hk.1⟩ | (simp only [ne_eq, hk, not_false_eq_true, and_self, true_and, and_true])))) hg (.inl rfl)); replace BK237 := gB BK237 hg (Kd.R_ne HO257.out BK237.out (by decide)); replace BK238 := gB BK238 hg (Kd.R_ne HO257.out BK238.out (by decide)); replace HO260 := qS.mk (Kd.R_after (v := (.slice (some ⟨go56, 0, none⟩) t255.length co63)) (v1 := (.slice (some ⟨go56, 0, none⟩) t255.length co63)) (ok := (fun k_ => some k_ ≠ (.slice Ao70 x16_37.length co70 : Value).ownBlock)) (rS HO260) hg (.inl rfl)); replace BK262 := gB BK262 hg (Kd.R_ne HO257.out BK262.out (by decide)); replace HO257 := qS.mk (hp_); replace HB := qS.mk ((by rw [hw]; exact qD (HB.out) GB56.out : Below w.heap.size w w72)); clear hg hw hp_; obtain ⟨hcz73_0, hcz73_1, hcz73_2, hfz73_0, hfz73_1, hfz73_2⟩ := bx3 BK262) | ((with_reducible refine gate_callee (f := 78) rfl ?_); refine qT (some 115) rfl rfl Try.func78 (by kernel_rfl) rfl #[.slice (some ⟨go56, 0, none⟩) y263.length co63] rfl (by (try simp only [List.map_toArray, List.map_cons, List.map_nil]); first | done | (rw [show y263.length = t255.length from (Kd.qY HO257.out).1.symm] <;> rfl) | rfl | (simp only [List.length_drop, List.length_take]; rfl)) ?_; (with_reducible refine (zL.calls kj37 _ _ y263 t264 _ (cS (Kd.qY HO257.out).2.2) ?side2 A57.out).mono ?_); (case side2 => rw [show y263.length = t255.length from (Kd.qY HO257.out).1.symm]; exact (Kd.qY HO257.out).2.1); rintro e w' ⟨rfl, ⟨nd, rfl⟩⟩; refine ⟨_, rfl, ?_⟩; (try (rw [drewN_self w72]; generalize hq_ : World.drewN w72 _ = w72; replace HO257 : qS (Kd.R (Kd.int .i64) 2 w72 w.heap.size (fun k_ => some k_ ≠ (.slice Ao67 t258.length co67 : Value).ownBlock ∧ some k_ ≠ (.slice Ao70 x16_37.length co70 : Value).ownBlock) (.slice (some ⟨go56, 0, none⟩) t255.length co63) y263) := ⟨by rw [← hq_]; exact (rT (Kd.qZ HO257.out (fun _ hk => by first | exact ⟨hk.2, hk.1⟩ | (simp only [ne_eq, hk, not_false_eq_true, and_self, true_and, and_true]))))⟩; replace HO260 : qS (Kd.R (Kd.int .i64) 2 w72 w.heap.size (fun k_ => some k_ ≠ (.slice (some ⟨go56, 0, none⟩) t255.length co63 : Value).ownBlock ∧ some k_ ≠ (.slice Ao70 x16_37.length co70 : Value).ownBlock) (.slice Ao67 t258.length co67) t258) := ⟨by rw [← hq_]; exact (rT (Kd.qZ HO260.out (fun _ hk => by first | exact ⟨hk.2, hk.1⟩ | (simp only [ne_eq, hk, not_false_eq_true, and_self, true_and, and_true]))))⟩; replace HO_16 : qS (Kd.R (Kd.int .i64) 2 w72 w.heap.size (fun k_ => some k_ ≠ (.slice (some ⟨go56, 0, none⟩) t255.length co63 : Value).ownBlock ∧ some k_ ≠ (.slice Ao67 t258.length co67 : Value).ownBlock) (.slice Ao70 x16_37.length co70) x16_37) := ⟨by rw [← hq_]; exact (rT (Kd.qZ HO_16.out (fun _ hk => by first | exact ⟨hk.2, hk.1⟩ | (simp only [ne_eq, hk, not_false_eq_true, and_self, true_and, and_true]))))⟩; replace BK237 : qS (w72.heap[gb237]? = some (.cells #[.slice (some ad240) l0_0.length c0_0, .slice A0_1 l0_1.length c0_1, .int .i64 a0_2] 32 (0, 0))) := ⟨by rw [← hq_]; exact (bS BK237)⟩; replace BK238 : qS (w72.heap[gb238]? = some (.cells #[.int .i64 0, .slice none 0 0, .slice none 0 0, .int .i64 0] 53 (0, 0))) := ⟨by rw [← hq_]; exact (bS BK238)⟩; replace BK262 : qS (w72.heap[gb262]? = some (.cells #[.slice (some ⟨go56, 0, none⟩) t255.length co63, .slice Ao67 t258.length co67, .int .i64 t261] 32 (0, 0))) := ⟨by rw [← hq_]; exact (bS BK262)⟩; replace HB : qS (Below w.heap.size w w72) := ⟨by rw [← hq_]; exact (lS HB)⟩; clear hq_)); obtain ⟨hcz74_0, hcz74_1, hcz74_2, hcz74_3, -⟩ := bx4 BK238; have hcq_0 : w72.cell? ⟨gb262, 0, none⟩ = some (.slice (some ⟨go56, 0, none⟩) t255.length co63) := (qJ BK262.out 0).trans rfl; have hcq_1 : w72.cell? ⟨gb262, 1, none⟩ = some (.slice Ao67 t258.length co67) := (qJ BK262.out 1).trans rfl; have hcq_2 : w72.cell? ⟨gb262, 2, none⟩ = some (.int .i64 t261) := (qJ BK262.out 2).trans rfl; have hfz74_0 := qK BK238.out 0; have hfz74_1 := qK BK238.out 1; have hfz74_2 := qK BK238.out 2; have hfz74_3 := qK BK238.out 3))
             refine bodyPost_ret (rC gb238 53 #[.int .i64 0, .slice (some ⟨go56, 0, none⟩) t255.length co63, .slice Ao67 t258.length co67, .int .i64 t261] (bQ BK238) Try.underlying53) rfl ?_
             exact ⟨_, _, rg, rT (Kd.qZ (Kd.R_far (p := ⟨gb238, 3, none⟩) (Kd.R_far (p := ⟨gb238, 2, none⟩) (Kd.R_far (p := ⟨gb238, 1, none⟩) (Kd.R_far (p := ⟨gb238, 0, none⟩) (Kd.R_types HO257.out BK238.out (by decide)) (fun _ hk => by first | exact hk.2 | (simp only [ne_eq, hk, not_false_eq_true, and_self, true_and, and_true])) (.int .i64 0)) (fun _ hk => by first | exact hk.2 | (simp only [ne_eq, hk, not_false_eq_true, and_self, true_and, and_true])) (.slice (some ⟨go56, 0, none⟩) t255.length co63)) (fun _ hk => by first | exact hk.2 | (simp only [ne_eq, hk, not_false_eq_true, and_self, true_and, and_true])) (.slice Ao67 t258.length co67)) (fun _ hk => by first | exact hk.2 | (simp only [ne_eq, hk, not_false_eq_true, and_self, true_and, and_true])) (.int .i64 t261)) (fun _ hk => by first | exact hk.1.2 | (simp only [ne_eq, hk, not_false_eq_true, and_self, true_and, and_true]))), rT (Kd.qZ (Kd.R_far (p := ⟨gb238, 3, none⟩) (Kd.R_far (p := ⟨gb238, 2, none⟩) (Kd.R_far (p := ⟨gb238, 1, none⟩) (Kd.R_far (p := ⟨gb238, 0, none⟩) (Kd.R_types HO260.out BK238.out (by decide)) (fun _ hk => by first | exact hk.2 | (simp only [ne_eq, hk, not_false_eq_true, and_self, true_and, and_true])) (.int .i64 0)) (fun _ hk => by first | exact hk.2 | (simp only [ne_eq, hk, not_false_eq_true, and_self, true_and, and_true])) (.slice (some ⟨go56, 0, none⟩) t255.length co63)) (fun _ hk => by first | exact hk.2 | (simp only [ne_eq, hk, not_false_eq_true, and_self, true_and, and_true])) (.slice Ao67 t258.length co67)) (fun _ hk => by first | exact hk.2 | (simp only [ne_eq, hk, not_false_eq_true, and_self, true_and, and_true])) (.int .i64 t261)) (fun _ hk => by first | exact hk.1.2 | (simp only [ne_eq, hk, not_false_eq_true, and_self, true_and, and_true]))), lS HB⟩
            ·rw [if_neg c58] at H
             have c58b0 : (t264 == 0) = false := beq_eq_false_iff_ne.mpr c58
             have c58b1 : (t264 != 0) = true := bne_iff_ne.mpr c58
             replace H := gN H
             obtain ⟨c75, H⟩ := H
             have c75b0 : decide (0 < (x16_37.length : Int)) = true := decide_eq_true c75
             have c75b1 : decide (0 < x16_37.length) = true := decide_eq_true (by omega)
             clear c75
             replace H := gN H
             obtain ⟨c76, H⟩ := H
             have c76b0 : decide (a1 < (l0_1.length : Int)) = true := decide_eq_true c76
             clear c76
             by_cases c77 : (x16_37.length : Int) > 1
             ·rw [if_pos c77] at H
              have c77b0 : decide (1 < (x16_37.length : Int)) = true := decide_eq_true c77
              have c77b1 : decide (1 < x16_37.length) = true := decide_eq_true (by omega)
              clear c77
              replace H := gN H
              obtain ⟨c78, H⟩ := H
              have c78b0 : decide (a1 < (t258.length : Int)) = true := decide_eq_true c78
              clear c78
              obtain ⟨y268, hy268⟩ : ∃ y_ : List Int, y_ = (t258.set (a1 : Int).toNat (wrap64 (a4 * (rd l0_1 a1)))) := ⟨_, rfl⟩
              replace H : (some (0, y263, y268, wrap64 (a0_2 + (wrap64 ((rd x16_37 0) * (rd l0_1 a1)))))) = some (r1, r2, r3, r4) := by first | (rw [hy268]; with_reducible exact H) | (have H2_ := (Option.bind_some _ _).symm.trans H; rw [hy268]; with_reducible exact H2_) | (have H2_ := (Option.bind_some _ _).symm.trans H; with_reducible exact H2_) | with_reducible exact H | (rw [hy268]; exact H) | exact H
              have Ny268 := qS.mk hy268
              clear hy268
              simp only [Option.some.injEq, Prod.mk.injEq] at H
              obtain ⟨rfl, rfl, rfl, rfl⟩ := H
              have hnb80 := NB237_238.out
              have hnc80 := NB238_237.out
              obtain ⟨hcz81_0, hcz81_1, hcz81_2, hfz81_0, hfz81_1, hfz81_2⟩ := bx3 BK237
              try go_wp2_with (first | ((with_reducible refine gate_callee (f := 101) rfl ?_); refine gL (some 106) Try.func101 #[.agg #[.slice (some ad240) l0_0.length c0_0, .slice A0_1 l0_1.length c0_1, .int .i64 a0_2]] ?_; (with_reducible refine (spec_l2CopyView.calls kj37 _ _ l0_0 _ _ l0_1 a0_2 t255 t258 t261 _ (cS (Kd.qW HR0_0.out HB.out)) HC0_0.out (cS (Kd.qW HR0_1.out HB.out)) HC0_1.out A53.out).mono ?_); rintro e w82 ⟨v256, v259, rfl, ho0, ho1, hb⟩; refine ⟨_, rfl, ?_⟩; have HO257 := qS.mk (Kd.R_lower (Kd.R_new' ho0 (Kd.R_lt (rS HO_16))) (qF (lS HB))); have HO260 := qS.mk (Kd.R_lower (Kd.R_new' ho1 (Kd.R_lt (rS HO_16))) (qF (lS HB))); replace HO_16 := qS.mk (Kd.qZ (Kd.R_told (Kd.R_told (Kd.R_old (rS HO_16) hb) (Kd.R_base ho0)) (Kd.R_base ho1)) (fun _ h_ => h_.1)); replace BK237 := mB BK237 hb; replace BK238 := mB BK238 hb; replace HB := mS HB hb; (try clear hb); (try clear hb2); (try clear hk); (try clear hi); (try clear ho0); (try clear ho1)) | ((with_reducible refine gate_dst (N := 18) rfl ?_); (try (refine gate_guard (by rfl) ?_; dsimp only)); refine bE #[.slice none 0 0, .slice none 0 0, .int .i64 0] 32 ?_; intro gb262 hg w83 hbox hb; have BK262 := qS.mk (hbox); have GW262 := mG HB hg; have GE262 := mG HB hg; have NB237_262 := mN BK237 hg; have NB262_237 := mM BK237 hg; have NB238_262 := mN BK238 hg; have NB262_238 := mM BK238 hg; replace HO_16 := mR HO_16 hb; replace HO257 := mR HO257 hb; replace HO260 := mR HO260 hb; replace BK237 := mB BK237 hb; replace BK238 := mB BK238 hb; replace HB := mS HB hb; clear hb hbox hg; obtain ⟨Ao84, co84, eo84⟩ := Kd.qX HO257.out; subst eo84; have hnb85 := NB262_237.out; have hnc85 := NB237_262.out; have hnb86 := NB262_238.out; have hnc86 := NB238_262.out; obtain ⟨hcz87_0, hcz87_1, hcz87_2, hfz87_0, hfz87_1, hfz87_2⟩ := bx3 BK262; obtain ⟨Ao88, co88, eo88⟩ := Kd.qX HO260.out; subst eo88) | ((with_reducible refine gate_store (t := 32) (p := 18) rfl ?_); refine sE (w1 := ((w83.setCell ⟨gb262, 0, none⟩ (.slice Ao84 t255.length co84)).setCell ⟨gb262, 1, none⟩ (.slice Ao88 t258.length co88)).setCell ⟨gb262, 2, none⟩ (.int .i64 t261)) ?_; intro w89 hw; replace HO_16 : qS (Kd.R (Kd.int .i64) 2 w89 w.heap.size (fun k_ => some k_ ≠ (.slice Ao84 t255.length co84 : Value).ownBlock ∧ some k_ ≠ (.slice Ao88 t258.length co88 : Value).ownBlock) u16 x16_37) := ⟨(by rw [hw]; exact (rT (Kd.qZ (Kd.R_far (p := ⟨gb262, 2, none⟩) (Kd.R_far (p := ⟨gb262, 1, none⟩) (Kd.R_far (p := ⟨gb262, 0, none⟩) (Kd.R_types HO_16.out BK262.out (by decide)) (fun _ hk => by first | exact hk.2 | (simp only [ne_eq, hk, not_false_eq_true, and_self, true_and, and_true])) (.slice Ao84 t255.length co84)) (fun _ hk => by first | exact hk.2 | (simp only [ne_eq, hk, not_false_eq_true, and_self, true_and, and_true])) (.slice Ao88 t258.length co88)) (fun _ hk => by first | exact hk.2 | (simp only [ne_eq, hk, not_false_eq_true, and_self, true_and, and_true])) (.int .i64 t261)) (fun _ hk => by first | exact ⟨hk.1.1.2, hk.1.2⟩ | (simp only [ne_eq, hk, not_false_eq_true, and_self, true_and, and_true])))))⟩; replace HO257 : qS (Kd.R (Kd.int .i64) 2 w89 w.heap.size (fun k_ => some k_ ≠ (u16 : Value).ownBlock ∧ some k_ ≠ (.slice Ao88 t258.length co88 : Value).ownBlock) (.slice Ao84 t255.length co84) t255) := ⟨(by rw [hw]; exact (rT (Kd.qZ (Kd.R_far (p := ⟨gb262, 2, none⟩) (Kd.R_far (p := ⟨gb262, 1, none⟩) (Kd.R_far (p := ⟨gb262, 0, none⟩) (Kd.R_types HO257.out BK262.out (by decide)) (fun _ hk => by first | exact hk.2 | (simp only [ne_eq, hk, not_false_eq_true, and_self, true_and, and_true])) (.slice Ao84 t255.length co84)) (fun _ hk => by first | exact hk.2 | (simp only [ne_eq, hk, not_false_eq_true, and_self, true_and, and_true])) (.slice Ao88 t258.length co88)) (fun _ hk => by first | exact hk.2 | (simp only [ne_eq, hk, not_false_eq_true, and_self, true_and, and_true])) (.int .i64 t261)) (fun _ hk => by first | exact ⟨hk.1.2, hk.1.1⟩ | (simp only [ne_eq, hk, not_false_eq_true, and_self, true_and, and_true])))))⟩; replace HO260 : qS (Kd.R (Kd.int .i64) 2 w89 w.heap.size (fun k_ => some k_ ≠ (u16 : Value).ownBlock ∧ some k_ ≠ (.slice Ao84 t255.length co84 : Value).ownBlock) (.slice Ao88 t258.length co88) t258) := ⟨(by rw [hw]; exact (rT (Kd.qZ (Kd.R_far (p := ⟨gb262, 2, none⟩) (Kd.R_far (p := ⟨gb262, 1, none⟩) (Kd.R_far (p := ⟨gb262, 0, none⟩) (Kd.R_types HO260.out BK262.out (by decide)) (fun _ hk => by first | exact hk.2 | (simp only [ne_eq, hk, not_false_eq_true, and_self, true_and, and_true])) (.slice Ao84 t255.length co84)) (fun _ hk => by first | exact hk.2 | (simp only [ne_eq, hk, not_false_eq_true, and_self, true_and, and_true])) (.slice Ao88 t258.length co88)) (fun _ hk => by first | exact hk.2 | (simp only [ne_eq, hk, not_false_eq_true, and_self, true_and, and_true])) (.int .i64 t261)) (fun _ hk => by first | exact ⟨hk.1.2, hk.1.1⟩ | (simp only [ne_eq, hk, not_false_eq_true, and_self, true_and, and_true])))))⟩; replace BK237 : qS (w89.heap[gb237]? = some (.cells #[.slice (some ad240) l0_0.length c0_0, .slice A0_1 l0_1.length c0_1, .int .i64 a0_2] 32 (0, 0))) := ⟨hw ▸ bQ BK237⟩; replace BK238 : qS (w89.heap[gb238]? = some (.cells #[.int .i64 0, .slice none 0 0, .slice none 0 0, .int .i64 0] 53 (0, 0))) := ⟨hw ▸ bQ BK238⟩; replace BK262 : qS (w89.heap[gb262]? = some (.cells #[.slice Ao84 t255.length co84, .slice Ao88 t258.length co88, .int .i64 t261] 32 (0, 0))) := ⟨hw ▸ bQ BK262⟩; replace HB := lW HB hw; clear hw; obtain ⟨hcz90_0, hcz90_1, hcz90_2, hfz90_0, hfz90_1, hfz90_2⟩ := bx3 BK262; obtain ⟨Ao91, co91, eo91⟩ := Kd.qX HO_16.out; subst eo91; have p56 : 0 ≤ (a1 : Int) := of_decide_eq_true (by assumption); have q56 : (a1 : Int) < ((t255.length : Int) : Int) := of_decide_eq_true (by assumption); obtain ⟨go56, co56, eo56, gb56, gl56, cl56, HG56⟩ := Kd.R_form HO257.out (by omega); (first | cases eo56 | (injection eo56 with ea_ en_ ec_; (first | subst ea_ | (injection ea_ with ea_; subst ea_)); subst ec_; clear en_)); have GB56 := qS.mk gb56; have GG56 := qS.mk HG56; clear gb56 gl56 HG56; obtain ⟨hx56_0, hf56_0⟩ := Kd.R_celln 0 HO257.out (a1 : Int) p56 q56; replace p56 := eq_true p56; replace q56 := eq_true q56; obtain ⟨hy92_, hz92_⟩ := Kd.R_celln 0 HO257.out (a1 : Int) (of_decide_eq_true (by assumption)) (of_decide_eq_true (by assumption)); have HP92 := Kd.R_putg HO257.out (a1 : Int) (x16_37.length : Int)) | ((with_reducible refine gate_store (t := 2) (p := 112) rfl ?_); refine sE (w1 := w89.setCell ⟨go56, (a1 : Int).toNat, none⟩ (.int .i64 (x16_37.length : Int))) ?_; intro w93 hw; have hg : w89.grownBy w93 (some go56) := (by rw [hw]; exact HP92.2); have hp_ : Kd.R (Kd.int .i64) 2 w93 w.heap.size (fun k_ => some k_ ≠ (.slice Ao91 x16_37.length co91 : Value).ownBlock ∧ some k_ ≠ (.slice Ao88 t258.length co88 : Value).ownBlock) (.slice (some ⟨go56, 0, none⟩) t255.length co84) y263 := (by rw [hw, Ny263.out]; exact HP92.1); clear HP92; replace HO_16 := qS.mk (Kd.R_after (v := (.slice (some ⟨go56, 0, none⟩) t255.length co84)) (v1 := (.slice (some ⟨go56, 0, none⟩) t255.length co84)) (ok := (fun k_ => some k_ ≠ (.slice Ao88 t258.length co88 : Value).ownBlock)) (rT (Kd.qZ HO_16.out (fun _ hk => by first | exact ⟨hk.2, hk.1⟩ | (simp only [ne_eq, hk, not_false_eq_true, and_self, true_and, and_true])))) hg (.inl rfl)); replace BK237 := gB BK237 hg (Kd.R_ne HO257.out BK237.out (by decide)); replace BK238 := gB BK238 hg (Kd.R_ne HO257.out BK238.out (by decide)); replace HO260 := qS.mk (Kd.R_after (v := (.slice (some ⟨go56, 0, none⟩) t255.length co84)) (v1 := (.slice (some ⟨go56, 0, none⟩) t255.length co84)) (ok := (fun k_ => some k_ ≠ (.slice Ao91 x16_37.length co91 : Value).ownBlock)) (rS HO260) hg (.inl rfl)); replace BK262 := gB BK262 hg (Kd.R_ne HO257.out BK262.out (by decide)); replace HO257 := qS.mk (hp_); replace HB := qS.mk ((by rw [hw]; exact qD (HB.out) GB56.out : Below w.heap.size w w93)); clear hg hw hp_; obtain ⟨hcz94_0, hcz94_1, hcz94_2, hfz94_0, hfz94_1, hfz94_2⟩ := bx3 BK262) | ((with_reducible refine gate_callee (f := 78) rfl ?_); refine qT (some 115) rfl rfl Try.func78 (by kernel_rfl) rfl #[.slice (some ⟨go56, 0, none⟩) y263.length co84] rfl (by (try simp only [List.map_toArray, List.map_cons, List.map_nil]); first | done | (rw [show y263.length = t255.length from (Kd.qY HO257.out).1.symm] <;> rfl) | rfl | (simp only [List.length_drop, List.length_take]; rfl)) ?_; (with_reducible refine (zL.calls kj37 _ _ y263 t264 _ (cS (Kd.qY HO257.out).2.2) ?side2 A57.out).mono ?_); (case side2 => rw [show y263.length = t255.length from (Kd.qY HO257.out).1.symm]; exact (Kd.qY HO257.out).2.1); rintro e w' ⟨rfl, ⟨nd, rfl⟩⟩; refine ⟨_, rfl, ?_⟩; (try (rw [drewN_self w93]; generalize hq_ : World.drewN w93 _ = w93; replace HO257 : qS (Kd.R (Kd.int .i64) 2 w93 w.heap.size (fun k_ => some k_ ≠ (.slice Ao88 t258.length co88 : Value).ownBlock ∧ some k_ ≠ (.slice Ao91 x16_37.length co91 : Value).ownBlock) (.slice (some ⟨go56, 0, none⟩) t255.length co84) y263) := ⟨by rw [← hq_]; exact (rT (Kd.qZ HO257.out (fun _ hk => by first | exact ⟨hk.2, hk.1⟩ | (simp only [ne_eq, hk, not_false_eq_true, and_self, true_and, and_true]))))⟩; replace HO260 : qS (Kd.R (Kd.int .i64) 2 w93 w.heap.size (fun k_ => some k_ ≠ (.slice (some ⟨go56, 0, none⟩) t255.length co84 : Value).ownBlock ∧ some k_ ≠ (.slice Ao91 x16_37.length co91 : Value).ownBlock) (.slice Ao88 t258.length co88) t258) := ⟨by rw [← hq_]; exact (rT (Kd.qZ HO260.out (fun _ hk => by first | exact ⟨hk.2, hk.1⟩ | (simp only [ne_eq, hk, not_false_eq_true, and_self, true_and, and_true]))))⟩; replace HO_16 : qS (Kd.R (Kd.int .i64) 2 w93 w.heap.size (fun k_ => some k_ ≠ (.slice (some ⟨go56, 0, none⟩) t255.length co84 : Value).ownBlock ∧ some k_ ≠ (.slice Ao88 t258.length co88 : Value).ownBlock) (.slice Ao91 x16_37.length co91) x16_37) := ⟨by rw [← hq_]; exact (rT (Kd.qZ HO_16.out (fun _ hk => by first | exact ⟨hk.2, hk.1⟩ | (simp only [ne_eq, hk, not_false_eq_true, and_self, true_and, and_true]))))⟩; replace BK237 : qS (w93.heap[gb237]? = some (.cells #[.slice (some ad240) l0_0.length c0_0, .slice A0_1 l0_1.length c0_1, .int .i64 a0_2] 32 (0, 0))) := ⟨by rw [← hq_]; exact (bS BK237)⟩; replace BK238 : qS (w93.heap[gb238]? = some (.cells #[.int .i64 0, .slice none 0 0, .slice none 0 0, .int .i64 0] 53 (0, 0))) := ⟨by rw [← hq_]; exact (bS BK238)⟩; replace BK262 : qS (w93.heap[gb262]? = some (.cells #[.slice (some ⟨go56, 0, none⟩) t255.length co84, .slice Ao88 t258.length co88, .int .i64 t261] 32 (0, 0))) := ⟨by rw [← hq_]; exact (bS BK262)⟩; replace HB : qS (Below w.heap.size w w93) := ⟨by rw [← hq_]; exact (lS HB)⟩; clear hq_; have hcq_0 : w93.cell? ⟨gb262, 0, none⟩ = some (.slice (some ⟨go56, 0, none⟩) t255.length co84) := (qJ BK262.out 0).trans rfl; have hcq_1 : w93.cell? ⟨gb262, 1, none⟩ = some (.slice Ao88 t258.length co88) := (qJ BK262.out 1).trans rfl; have hcq_2 : w93.cell? ⟨gb262, 2, none⟩ = some (.int .i64 t261) := (qJ BK262.out 2).trans rfl))))
              replace HO_16 := rD HO_16; replace HO257 := rD HO257; replace HO260 := rD HO260; replace BK237 := bD BK237; replace BK238 := bD BK238; replace BK262 := bD BK262; replace HB := lD HB
              have p265 : 0 ≤ (0 : Int) := (by omega)
              have q265 : 0 < (x16_37.length : Int) := of_decide_eq_true (by assumption)
              obtain ⟨ad265, e265, hx265_0⟩ := Kd.at_int (Kd.qY HO_16.out).2.2 0 p265 q265
              cases e265
              have qi265 : (0 < x16_37.length) = True := eq_true (by omega)
              (try rw [show ((0 : Int)).toNat = 0 from rfl] at hx265_0)
              (try rw [Addr.add_zero'] at hx265_0)
              replace p265 := eq_true p265
              replace q265 := eq_true q265
              obtain ⟨ad266, e266, hx266_0, hw266_0, p266, q266⟩ := aI HR0_1 HB a1
              cases e266
              refine start_ (n := 14) (S := fun w' => w'.cell? ⟨gb237, 0, none⟩ = some (.slice (some ad240) l0_0.length c0_0) ∧ w'.cell? ⟨gb237, 1, none⟩ = some (.slice (some ad266) l0_1.length c0_1) ∧ w'.cell? ⟨gb237, 2, none⟩ = some (.int .i64 a0_2) ∧ w'.cell? ad265 = some (.int .i64 (rd x16_37 0)) ∧ w'.cell? (ad266.add (a1).toNat) = some (.int .i64 (rd l0_1 a1))) (ds := []) (bs 14 0) (by kernel_rfl) rfl rfl ⟨(qJ BK237.out 0).trans rfl, (qJ BK237.out 1).trans rfl, (qJ BK237.out 2).trans rfl, hx265_0, (cU HB hw266_0)⟩ (fun hHeld => ?_); refine with_tabW spec_Slice.tab23 spec_Slice.bits23 (fun HT_ HW_ => ?_)
              generalize w93.drew = w95 at HO_16 HO257 HO260 BK237 BK238 BK262 HB hx265_0 hx266_0 hHeld ⊢
              refine pS 0 117 (bs 14 1) HT_ ?_
              refine pS 2 119 (bs 14 5) HT_ ?_
              refine pS 3 120 (bs 14 13) HT_ ?_
              refine pS 5 122 (bs 14 45) HT_ ?_
              refine pS 7 124 (bs 14 173) HT_ ?_
              refine tS 1 118 (bs 14 175) HT_ HW_ hHeld ?_
              refine tS 4 121 (bs 14 191) HT_ HW_ hHeld ?_
              refine tS 6 123 (bs 14 255) HT_ HW_ hHeld ?_
              refine pS 8 125 (bs 14 511) HT_ ?_
              refine tS 9 126 (bs 14 1023) HT_ HW_ hHeld ?_
              refine pS 10 127 (bs 14 2047) HT_ ?_
              refine pS 11 128 (bs 14 4095) HT_ ?_
              refine pS 12 129 (bs 14 8191) HT_ ?_
              refine one_ (i := 13) (N := none) (bs 14 16383) rfl rfl (one_of HT_.out (by kernel_rfl)) (by decide) (fun K hK => ?_)
              have hs96 : w95.cell? ⟨gb262, 2, none⟩ = some (.int .i64 t261) := (qJ BK262.out 2).trans rfl
              have hfs96 := qK BK262.out 2
              have hns96_0 := NB237_262.out
              have hns96_1 := NB238_262.out
              have hms96_0 := NB262_237.out
              have hms96_1 := NB262_238.out
              refine skip_ (w1 := ?_) (by rfl) rfl ?_ ?_
              rotate_left
              ·go_simp
               rfl
              refine hK.out _ _ ⟨((cell_far (p := ⟨gb262, _, none⟩) NB237_262.out _).trans (hHeld.1)), ((cell_far (p := ⟨gb262, _, none⟩) NB237_262.out _).trans (hHeld.2.1)), ((cell_far (p := ⟨gb262, _, none⟩) NB237_262.out _).trans (hHeld.2.2.1)), ((cell_far (p := ⟨gb262, _, none⟩) (by first | exact Kd.own_blk (Kd.R_ne HO_16.out BK262.out (by decide)) | (rw [add_block]; exact Kd.own_blk (Kd.R_ne HO_16.out BK262.out (by decide))) | (show (Addr.add _ _).block ≠ _; rw [add_block]; exact Kd.own_blk (Kd.R_ne HO_16.out BK262.out (by decide))) | (dsimp only; exact Kd.own_blk (Kd.R_ne HO_16.out BK262.out (by decide)))) _).trans (hHeld.2.2.2.1)), ((cell_far (p := ⟨gb262, _, none⟩) (by first | exact Nat.ne_of_lt (Nat.lt_of_lt_of_le (by have := World.block_lt_of_cell? _ _ hw266_0; first | rwa [add_block] at this | exact this) GW262.out) | (rw [add_block]; exact Nat.ne_of_lt (Nat.lt_of_lt_of_le (by have := World.block_lt_of_cell? _ _ hw266_0; first | rwa [add_block] at this | exact this) GW262.out)) | (show (Addr.add _ _).block ≠ _; rw [add_block]; exact Nat.ne_of_lt (Nat.lt_of_lt_of_le (by have := World.block_lt_of_cell? _ _ hw266_0; first | rwa [add_block] at this | exact this) GW262.out)) | (dsimp only; exact Nat.ne_of_lt (Nat.lt_of_lt_of_le (by have := World.block_lt_of_cell? _ _ hw266_0; first | rwa [add_block] at this | exact this) GW262.out))) _).trans (hHeld.2.2.2.2))⟩ (fun hHeld => ?_)
              clear hK K
              refine done_ (done_of HT_.out (by kernel_rfl)) ?_
              try go_wp2
              have n0_ : qS (Kd.R (Kd.int .i64) 2 (w95.setCell ⟨gb262, 2, none⟩ (.int .i64 (wrap64 (a0_2 + (wrap64 ((rd x16_37 0) * (rd l0_1 a1))))))) w.heap.size (fun k_ => some k_ ≠ (.slice (some ⟨go56, 0, none⟩) t255.length co84 : Value).ownBlock ∧ some k_ ≠ (.slice Ao88 t258.length co88 : Value).ownBlock) (.slice (some ad265) x16_37.length co91) x16_37) := ⟨rT (Kd.qZ (Kd.R_far (p := ⟨gb262, 2, none⟩) (Kd.R_types HO_16.out BK262.out (by decide)) (fun _ hk => by first | exact hk.2 | (simp only [ne_eq, hk, not_false_eq_true, and_self, true_and, and_true])) (.int .i64 (wrap64 (a0_2 + (wrap64 ((rd x16_37 0) * (rd l0_1 a1))))))) (fun _ hk => by first | exact ⟨hk.1.2, hk.1.1⟩ | (simp only [ne_eq, hk, not_false_eq_true, and_self, true_and, and_true])))⟩
              have n1_ : qS (Kd.R (Kd.int .i64) 2 (w95.setCell ⟨gb262, 2, none⟩ (.int .i64 (wrap64 (a0_2 + (wrap64 ((rd x16_37 0) * (rd l0_1 a1))))))) w.heap.size (fun k_ => some k_ ≠ (.slice (some ad265) x16_37.length co91 : Value).ownBlock ∧ some k_ ≠ (.slice Ao88 t258.length co88 : Value).ownBlock) (.slice (some ⟨go56, 0, none⟩) t255.length co84) y263) := ⟨rT (Kd.qZ (Kd.R_far (p := ⟨gb262, 2, none⟩) (Kd.R_types HO257.out BK262.out (by decide)) (fun _ hk => by first | exact hk.2 | (simp only [ne_eq, hk, not_false_eq_true, and_self, true_and, and_true])) (.int .i64 (wrap64 (a0_2 + (wrap64 ((rd x16_37 0) * (rd l0_1 a1))))))) (fun _ hk => by first | exact ⟨hk.1.1, hk.1.2⟩ | (simp only [ne_eq, hk, not_false_eq_true, and_self, true_and, and_true])))⟩
              have n2_ : qS (Kd.R (Kd.int .i64) 2 (w95.setCell ⟨gb262, 2, none⟩ (.int .i64 (wrap64 (a0_2 + (wrap64 ((rd x16_37 0) * (rd l0_1 a1))))))) w.heap.size (fun k_ => some k_ ≠ (.slice (some ad265) x16_37.length co91 : Value).ownBlock ∧ some k_ ≠ (.slice (some ⟨go56, 0, none⟩) t255.length co84 : Value).ownBlock) (.slice Ao88 t258.length co88) t258) := ⟨rT (Kd.qZ (Kd.R_far (p := ⟨gb262, 2, none⟩) (Kd.R_types HO260.out BK262.out (by decide)) (fun _ hk => by first | exact hk.2 | (simp only [ne_eq, hk, not_false_eq_true, and_self, true_and, and_true])) (.int .i64 (wrap64 (a0_2 + (wrap64 ((rd x16_37 0) * (rd l0_1 a1))))))) (fun _ hk => by first | exact ⟨hk.1.1, hk.1.2⟩ | (simp only [ne_eq, hk, not_false_eq_true, and_self, true_and, and_true])))⟩
              have n3_ : qS ((w95.setCell ⟨gb262, 2, none⟩ (.int .i64 (wrap64 (a0_2 + (wrap64 ((rd x16_37 0) * (rd l0_1 a1))))))).heap[gb237]? = some (.cells #[.slice (some ad240) l0_0.length c0_0, .slice (some ad266) l0_1.length c0_1, .int .i64 a0_2] 32 (0, 0))) := ⟨bQ BK237⟩
              have n4_ : qS ((w95.setCell ⟨gb262, 2, none⟩ (.int .i64 (wrap64 (a0_2 + (wrap64 ((rd x16_37 0) * (rd l0_1 a1))))))).heap[gb238]? = some (.cells #[.int .i64 0, .slice none 0 0, .slice none 0 0, .int .i64 0] 53 (0, 0))) := ⟨bQ BK238⟩
              have n5_ : qS ((w95.setCell ⟨gb262, 2, none⟩ (.int .i64 (wrap64 (a0_2 + (wrap64 ((rd x16_37 0) * (rd l0_1 a1))))))).heap[gb262]? = some (.cells #[.slice (some ⟨go56, 0, none⟩) t255.length co84, .slice Ao88 t258.length co88, .int .i64 (wrap64 (a0_2 + (wrap64 ((rd x16_37 0) * (rd l0_1 a1)))))] 32 (0, 0))) := ⟨bQ BK262⟩
              have n6_ : qS (Below w.heap.size w (w95.setCell ⟨gb262, 2, none⟩ (.int .i64 (wrap64 (a0_2 + (wrap64 ((rd x16_37 0) * (rd l0_1 a1)))))))) := ⟨lS HB⟩
              (try clear HO_16)
              (try clear HO257)
              (try clear HO260)
              (try clear BK237)
              (try clear BK238)
              (try clear BK262)
              (try clear HB)
              generalize (w95.setCell ⟨gb262, 2, none⟩ (.int .i64 (wrap64 (a0_2 + (wrap64 ((rd x16_37 0) * (rd l0_1 a1))))))) = w97 at n0_ n1_ n2_ n3_ n4_ n5_ n6_ ⊢
              have HO_16 := n0_
              have HO257 := n1_
              have HO260 := n2_
              have BK237 := n3_
              have BK238 := n4_
              have BK262 := n5_
              have HB := n6_
              clear n0_ n1_ n2_ n3_ n4_ n5_ n6_
              replace HO_16 := rD HO_16; replace HO257 := rD HO257; replace HO260 := rD HO260; replace BK237 := bD BK237; replace BK238 := bD BK238; replace BK262 := bD BK262; replace HB := lD HB
              obtain ⟨ad267, e267, hx267_0, hw267_0, p267, q267⟩ := aI HR0_1 HB a1
              obtain rfl : ad266 = ad267 := (by injection e267)
              have p79 : 0 ≤ (a1 : Int) := of_decide_eq_true (by assumption)
              have q79 : (a1 : Int) < ((t258.length : Int) : Int) := of_decide_eq_true (by assumption)
              obtain ⟨go79, co79, eo79, gb79, gl79, cl79, HG79⟩ := Kd.R_form HO260.out (by omega)
              (first | cases eo79 | (injection eo79 with ea_ en_ ec_; (first | subst ea_ | (injection ea_ with ea_; subst ea_)); subst ec_; clear en_))
              have GB79 := qS.mk gb79
              have GG79 := qS.mk HG79
              clear gb79 gl79 HG79
              obtain ⟨hx79_0, hf79_0⟩ := Kd.R_celln 0 HO260.out (a1 : Int) p79 q79
              replace p79 := eq_true p79
              replace q79 := eq_true q79
              have HP99 := Kd.R_putn HO260.out (a1 : Int) (wrap64 (a4 * (rd l0_1 a1)))
              rw [← Ny268.out] at HP99
              have HQ99 := qS.mk HP99
              clear HP99
              refine start_ (n := 12) (S := fun w' => w'.cell? ⟨gb262, 0, none⟩ = some (.slice (some ⟨go56, 0, none⟩) t255.length co84) ∧ w'.cell? ⟨gb262, 1, none⟩ = some (.slice (some ⟨go79, 0, none⟩) t258.length co88) ∧ w'.cell? ⟨gb262, 2, none⟩ = some (.int .i64 (wrap64 (a0_2 + (wrap64 ((rd x16_37 0) * (rd l0_1 a1)))))) ∧ w'.cell? ⟨gb237, 0, none⟩ = some (.slice (some ad240) l0_0.length c0_0) ∧ w'.cell? ⟨gb237, 1, none⟩ = some (.slice (some ad266) l0_1.length c0_1) ∧ w'.cell? ⟨gb237, 2, none⟩ = some (.int .i64 a0_2) ∧ w'.cell? (ad266.add (a1).toNat) = some (.int .i64 (rd l0_1 a1))) (ds := [11]) (bs 12 0) (by kernel_rfl) rfl rfl ⟨(qJ BK262.out 0).trans rfl, (qJ BK262.out 1).trans rfl, (qJ BK262.out 2).trans rfl, (qJ BK237.out 0).trans rfl, (qJ BK237.out 1).trans rfl, (qJ BK237.out 2).trans rfl, (cU HB hw267_0)⟩ (fun hHeld => ?_); refine with_tabW spec_Slice.tab25 spec_Slice.bits25 (fun HT_ HW_ => ?_)
              generalize w97.drew = w98 at HO_16 HO257 HO260 BK237 BK238 BK262 HB GG79 HQ99 hf79_0 hx267_0 hx79_0 hHeld ⊢
              refine pS 0 133 (bs 12 1) HT_ ?_
              refine pS 2 135 (bs 12 5) HT_ ?_
              refine pS 3 136 (bs 12 13) HT_ ?_
              refine pS 4 137 (bs 12 29) HT_ ?_
              refine pS 6 139 (bs 12 93) HT_ ?_
              refine tS 1 134 (bs 12 95) HT_ HW_ hHeld ?_
              refine tS 5 138 (bs 12 127) HT_ HW_ hHeld ?_
              refine pS 7 140 (bs 12 255) HT_ ?_
              refine tS 8 141 (bs 12 511) HT_ HW_ hHeld ?_
              refine pS 9 142 (bs 12 1023) HT_ ?_
              refine pS 10 143 (bs 12 2047) HT_ ?_
              refine last_ (i := 11) (N := none) (bs 12 4095) rfl rfl (one_of HT_.out (by kernel_rfl)) (by decide) (fun K hK => ?_)
              refine skip_ (w1 := ?_) (by rfl) rfl ?_ ?_
              rotate_left
              ·go_simp
               rfl
              refine hK.out _ _ ?_
              clear hK K
              refine done_ (done_of HT_.out (by kernel_rfl)) ?_
              have n0_ : qS (Kd.R (Kd.int .i64) 2 (w98.setCell ⟨go79, (a1 : Int).toNat, none⟩ (.int .i64 (wrap64 (a4 * (rd l0_1 a1))))) w.heap.size (fun k_ => some k_ ≠ (.slice (some ⟨go56, 0, none⟩) t255.length co84 : Value).ownBlock ∧ some k_ ≠ (.slice (some ⟨go79, 0, none⟩) t258.length co88 : Value).ownBlock) (.slice (some ad265) x16_37.length co91) x16_37) := ⟨by (with_reducible repeat (first | apply Kd.qM | apply Kd.qN | apply Kd.qO)); exact Kd.qZ (Kd.R_far (p := ⟨go79, (a1 : Int).toNat, none⟩) (Kd.qZ HO_16.out (fun k_ hk => (⟨hk, fun e_ => hk.2 (by rw [e_]; rfl)⟩ : _ ∧ k_ ≠ go79))) (fun _ hk => by first | exact hk.2 | (simp only [ne_eq, hk, not_false_eq_true, and_self, true_and, and_true])) (.int .i64 (wrap64 (a4 * (rd l0_1 a1))))) (fun _ hk => by first | exact ⟨hk.1.1, hk.1.2⟩ | (simp only [ne_eq, hk, not_false_eq_true, and_self, true_and, and_true]))⟩
              have n1_ : qS (Kd.R (Kd.int .i64) 2 (w98.setCell ⟨go79, (a1 : Int).toNat, none⟩ (.int .i64 (wrap64 (a4 * (rd l0_1 a1))))) w.heap.size (fun k_ => some k_ ≠ (.slice (some ad265) x16_37.length co91 : Value).ownBlock ∧ some k_ ≠ (.slice (some ⟨go79, 0, none⟩) t258.length co88 : Value).ownBlock) (.slice (some ⟨go56, 0, none⟩) t255.length co84) y263) := ⟨by (with_reducible repeat (first | apply Kd.qM | apply Kd.qN | apply Kd.qO)); exact Kd.qZ (Kd.R_far (p := ⟨go79, (a1 : Int).toNat, none⟩) (Kd.qZ HO257.out (fun k_ hk => (⟨hk, fun e_ => hk.2 (by rw [e_]; rfl)⟩ : _ ∧ k_ ≠ go79))) (fun _ hk => by first | exact hk.2 | (simp only [ne_eq, hk, not_false_eq_true, and_self, true_and, and_true])) (.int .i64 (wrap64 (a4 * (rd l0_1 a1))))) (fun _ hk => by first | exact ⟨hk.1.1, hk.1.2⟩ | (simp only [ne_eq, hk, not_false_eq_true, and_self, true_and, and_true]))⟩
              have n2_ : qS (Kd.R (Kd.int .i64) 2 (w98.setCell ⟨go79, (a1 : Int).toNat, none⟩ (.int .i64 (wrap64 (a4 * (rd l0_1 a1))))) w.heap.size (fun k_ => some k_ ≠ (.slice (some ad265) x16_37.length co91 : Value).ownBlock ∧ some k_ ≠ (.slice (some ⟨go56, 0, none⟩) t255.length co84 : Value).ownBlock) (.slice (some ⟨go79, 0, none⟩) t258.length co88) y268) := ⟨rS HQ99⟩
              have n3_ : qS ((w98.setCell ⟨go79, (a1 : Int).toNat, none⟩ (.int .i64 (wrap64 (a4 * (rd l0_1 a1))))).heap[gb237]? = some (.cells #[.slice (some ad240) l0_0.length c0_0, .slice (some ad266) l0_1.length c0_1, .int .i64 a0_2] 32 (0, 0))) := ⟨by (with_reducible repeat (first | refine qH ?_ _ | refine qI ?_ | refine qG ?_ _)); refine zN ?_ (by have h_ := Kd.R_ne HO260.out BK237.out (by decide); intro e_; exact h_ (by rw [e_]; rfl)) _; (with_reducible repeat (first | refine qH ?_ _ | refine qI ?_ | refine qG ?_ _)); exact BK237.out⟩
              have n4_ : qS ((w98.setCell ⟨go79, (a1 : Int).toNat, none⟩ (.int .i64 (wrap64 (a4 * (rd l0_1 a1))))).heap[gb238]? = some (.cells #[.int .i64 0, .slice none 0 0, .slice none 0 0, .int .i64 0] 53 (0, 0))) := ⟨by (with_reducible repeat (first | refine qH ?_ _ | refine qI ?_ | refine qG ?_ _)); refine zN ?_ (by have h_ := Kd.R_ne HO260.out BK238.out (by decide); intro e_; exact h_ (by rw [e_]; rfl)) _; (with_reducible repeat (first | refine qH ?_ _ | refine qI ?_ | refine qG ?_ _)); exact BK238.out⟩
              have n5_ : qS ((w98.setCell ⟨go79, (a1 : Int).toNat, none⟩ (.int .i64 (wrap64 (a4 * (rd l0_1 a1))))).heap[gb262]? = some (.cells #[.slice (some ⟨go56, 0, none⟩) t255.length co84, .slice (some ⟨go79, 0, none⟩) t258.length co88, .int .i64 (wrap64 (a0_2 + (wrap64 ((rd x16_37 0) * (rd l0_1 a1)))))] 32 (0, 0))) := ⟨by (with_reducible repeat (first | refine qH ?_ _ | refine qI ?_ | refine qG ?_ _)); refine zN ?_ (by have h_ := Kd.R_ne HO260.out BK262.out (by decide); intro e_; exact h_ (by rw [e_]; rfl)) _; (with_reducible repeat (first | refine qH ?_ _ | refine qI ?_ | refine qG ?_ _)); exact BK262.out⟩
              have n6_ : qS (Below w.heap.size w (w98.setCell ⟨go79, (a1 : Int).toNat, none⟩ (.int .i64 (wrap64 (a4 * (rd l0_1 a1)))))) := ⟨lS HB⟩
              (try clear HO_16)
              (try clear HO257)
              (try clear HO260)
              (try clear BK237)
              (try clear BK238)
              (try clear BK262)
              (try clear HB)
              generalize (w98.setCell ⟨go79, (a1 : Int).toNat, none⟩ (.int .i64 (wrap64 (a4 * (rd l0_1 a1))))) = w100 at n0_ n1_ n2_ n3_ n4_ n5_ n6_ ⊢
              have HO_16 := n0_
              have HO257 := n1_
              have HO260 := n2_
              have BK237 := n3_
              have BK238 := n4_
              have BK262 := n5_
              have HB := n6_
              clear n0_ n1_ n2_ n3_ n4_ n5_ n6_
              obtain ⟨hcz101_0, hcz101_1, hcz101_2, hfz101_0, hfz101_1, hfz101_2⟩ := bx3 BK262
              obtain ⟨hcz102_0, hcz102_1, hcz102_2, hcz102_3, hfz102_0, hfz102_1, hfz102_2, hfz102_3⟩ := bx4 BK238
              try go_wp2
              refine bodyPost_ret (rC gb238 53 #[.int .i64 0, .slice (some ⟨go56, 0, none⟩) t255.length co84, .slice (some ⟨go79, 0, none⟩) t258.length co88, .int .i64 (wrap64 (a0_2 + (wrap64 ((rd x16_37 0) * (rd l0_1 a1)))))] (bQ BK238) Try.underlying53) rfl ?_
              exact ⟨_, _, rg, rT (Kd.qZ (Kd.R_far (p := ⟨gb238, 3, none⟩) (Kd.R_far (p := ⟨gb238, 2, none⟩) (Kd.R_far (p := ⟨gb238, 1, none⟩) (Kd.R_far (p := ⟨gb238, 0, none⟩) (Kd.R_types HO257.out BK238.out (by decide)) (fun _ hk => by first | exact hk.2 | (simp only [ne_eq, hk, not_false_eq_true, and_self, true_and, and_true])) (.int .i64 0)) (fun _ hk => by first | exact hk.2 | (simp only [ne_eq, hk, not_false_eq_true, and_self, true_and, and_true])) (.slice (some ⟨go56, 0, none⟩) t255.length co84)) (fun _ hk => by first | exact hk.2 | (simp only [ne_eq, hk, not_false_eq_true, and_self, true_and, and_true])) (.slice (some ⟨go79, 0, none⟩) t258.length co88)) (fun _ hk => by first | exact hk.2 | (simp only [ne_eq, hk, not_false_eq_true, and_self, true_and, and_true])) (.int .i64 (wrap64 (a0_2 + (wrap64 ((rd x16_37 0) * (rd l0_1 a1))))))) (fun _ hk => by first | exact hk.1.2 | (simp only [ne_eq, hk, not_false_eq_true, and_self, true_and, and_true]))), rT (Kd.qZ (Kd.R_far (p := ⟨gb238, 3, none⟩) (Kd.R_far (p := ⟨gb238, 2, none⟩) (Kd.R_far (p := ⟨gb238, 1, none⟩) (Kd.R_far (p := ⟨gb238, 0, none⟩) (Kd.R_types HO260.out BK238.out (by decide)) (fun _ hk => by first | exact hk.2 | (simp only [ne_eq, hk, not_false_eq_true, and_self, true_and, and_true])) (.int .i64 0)) (fun _ hk => by first | exact hk.2 | (simp only [ne_eq, hk, not_false_eq_true, and_self, true_and, and_true])) (.slice (some ⟨go56, 0, none⟩) t255.length co84)) (fun _ hk => by first | exact hk.2 | (simp only [ne_eq, hk, not_false_eq_true, and_self, true_and, and_true])) (.slice (some ⟨go79, 0, none⟩) t258.length co88)) (fun _ hk => by first | exact hk.2 | (simp only [ne_eq, hk, not_false_eq_true, and_self, true_and, and_true])) (.int .i64 (wrap64 (a0_2 + (wrap64 ((rd x16_37 0) * (rd l0_1 a1))))))) (fun _ hk => by first | exact hk.1.2 | (simp only [ne_eq, hk, not_false_eq_true, and_self, true_and, and_true]))), lS HB⟩
             ·rw [if_neg c77] at H
              have c77b0 : decide (1 < (x16_37.length : Int)) = false := decide_eq_false c77
              have c77b1 : decide (1 < x16_37.length) = false := decide_eq_false (by omega)
              clear c77
              simp only [Option.some.injEq, Prod.mk.injEq] at H
              obtain ⟨rfl, rfl, rfl, rfl⟩ := H
              have hnb103 := NB237_238.out
              have hnc103 := NB238_237.out
              obtain ⟨hcz104_0, hcz104_1, hcz104_2, hfz104_0, hfz104_1, hfz104_2⟩ := bx3 BK237
              try go_wp2_with (first | ((with_reducible refine gate_callee (f := 101) rfl ?_); refine gL (some 106) Try.func101 #[.agg #[.slice (some ad240) l0_0.length c0_0, .slice A0_1 l0_1.length c0_1, .int .i64 a0_2]] ?_; (with_reducible refine (spec_l2CopyView.calls kj37 _ _ l0_0 _ _ l0_1 a0_2 t255 t258 t261 _ (cS (Kd.qW HR0_0.out HB.out)) HC0_0.out (cS (Kd.qW HR0_1.out HB.out)) HC0_1.out A53.out).mono ?_); rintro e w105 ⟨v256, v259, rfl, ho0, ho1, hb⟩; refine ⟨_, rfl, ?_⟩; have HO257 := qS.mk (Kd.R_lower (Kd.R_new' ho0 (Kd.R_lt (rS HO_16))) (qF (lS HB))); have HO260 := qS.mk (Kd.R_lower (Kd.R_new' ho1 (Kd.R_lt (rS HO_16))) (qF (lS HB))); replace HO_16 := qS.mk (Kd.qZ (Kd.R_told (Kd.R_told (Kd.R_old (rS HO_16) hb) (Kd.R_base ho0)) (Kd.R_base ho1)) (fun _ h_ => h_.1)); replace BK237 := mB BK237 hb; replace BK238 := mB BK238 hb; replace HB := mS HB hb; (try clear hb); (try clear hb2); (try clear hk); (try clear hi); (try clear ho0); (try clear ho1)) | ((with_reducible refine gate_dst (N := 18) rfl ?_); (try (refine gate_guard (by rfl) ?_; dsimp only)); refine bE #[.slice none 0 0, .slice none 0 0, .int .i64 0] 32 ?_; intro gb262 hg w106 hbox hb; have BK262 := qS.mk (hbox); have GW262 := mG HB hg; have GE262 := mG HB hg; have NB237_262 := mN BK237 hg; have NB262_237 := mM BK237 hg; have NB238_262 := mN BK238 hg; have NB262_238 := mM BK238 hg; replace HO_16 := mR HO_16 hb; replace HO257 := mR HO257 hb; replace HO260 := mR HO260 hb; replace BK237 := mB BK237 hb; replace BK238 := mB BK238 hb; replace HB := mS HB hb; clear hb hbox hg; obtain ⟨Ao107, co107, eo107⟩ := Kd.qX HO257.out; subst eo107; have hnb108 := NB262_237.out; have hnc108 := NB237_262.out; have hnb109 := NB262_238.out; have hnc109 := NB238_262.out; obtain ⟨hcz110_0, hcz110_1, hcz110_2, hfz110_0, hfz110_1, hfz110_2⟩ := bx3 BK262; obtain ⟨Ao111, co111, eo111⟩ := Kd.qX HO260.out; subst eo111) | ((with_reducible refine gate_store (t := 32) (p := 18) rfl ?_); refine sE (w1 := ((w106.setCell ⟨gb262, 0, none⟩ (.slice Ao107 t255.length co107)).setCell ⟨gb262, 1, none⟩ (.slice Ao111 t258.length co111)).setCell ⟨gb262, 2, none⟩ (.int .i64 t261)) ?_; intro w112 hw; replace HO_16 : qS (Kd.R (Kd.int .i64) 2 w112 w.heap.size (fun k_ => some k_ ≠ (.slice Ao107 t255.length co107 : Value).ownBlock ∧ some k_ ≠ (.slice Ao111 t258.length co111 : Value).ownBlock) u16 x16_37) := ⟨(by rw [hw]; exact (rT (Kd.qZ (Kd.R_far (p := ⟨gb262, 2, none⟩) (Kd.R_far (p := ⟨gb262, 1, none⟩) (Kd.R_far (p := ⟨gb262, 0, none⟩) (Kd.R_types HO_16.out BK262.out (by decide)) (fun _ hk => by first | exact hk.2 | (simp only [ne_eq, hk, not_false_eq_true, and_self, true_and, and_true])) (.slice Ao107 t255.length co107)) (fun _ hk => by first | exact hk.2 | (simp only [ne_eq, hk, not_false_eq_true, and_self, true_and, and_true])) (.slice Ao111 t258.length co111)) (fun _ hk => by first | exact hk.2 | (simp only [ne_eq, hk, not_false_eq_true, and_self, true_and, and_true])) (.int .i64 t261)) (fun _ hk => by first | exact ⟨hk.1.1.2, hk.1.2⟩ | (simp only [ne_eq, hk, not_false_eq_true, and_self, true_and, and_true])))))⟩; replace HO257 : qS (Kd.R (Kd.int .i64) 2 w112 w.heap.size (fun k_ => some k_ ≠ (u16 : Value).ownBlock ∧ some k_ ≠ (.slice Ao111 t258.length co111 : Value).ownBlock) (.slice Ao107 t255.length co107) t255) := ⟨(by rw [hw]; exact (rT (Kd.qZ (Kd.R_far (p := ⟨gb262, 2, none⟩) (Kd.R_far (p := ⟨gb262, 1, none⟩) (Kd.R_far (p := ⟨gb262, 0, none⟩) (Kd.R_types HO257.out BK262.out (by decide)) (fun _ hk => by first | exact hk.2 | (simp only [ne_eq, hk, not_false_eq_true, and_self, true_and, and_true])) (.slice Ao107 t255.length co107)) (fun _ hk => by first | exact hk.2 | (simp only [ne_eq, hk, not_false_eq_true, and_self, true_and, and_true])) (.slice Ao111 t258.length co111)) (fun _ hk => by first | exact hk.2 | (simp only [ne_eq, hk, not_false_eq_true, and_self, true_and, and_true])) (.int .i64 t261)) (fun _ hk => by first | exact ⟨hk.1.2, hk.1.1⟩ | (simp only [ne_eq, hk, not_false_eq_true, and_self, true_and, and_true])))))⟩; replace HO260 : qS (Kd.R (Kd.int .i64) 2 w112 w.heap.size (fun k_ => some k_ ≠ (u16 : Value).ownBlock ∧ some k_ ≠ (.slice Ao107 t255.length co107 : Value).ownBlock) (.slice Ao111 t258.length co111) t258) := ⟨(by rw [hw]; exact (rT (Kd.qZ (Kd.R_far (p := ⟨gb262, 2, none⟩) (Kd.R_far (p := ⟨gb262, 1, none⟩) (Kd.R_far (p := ⟨gb262, 0, none⟩) (Kd.R_types HO260.out BK262.out (by decide)) (fun _ hk => by first | exact hk.2 | (simp only [ne_eq, hk, not_false_eq_true, and_self, true_and, and_true])) (.slice Ao107 t255.length co107)) (fun _ hk => by first | exact hk.2 | (simp only [ne_eq, hk, not_false_eq_true, and_self, true_and, and_true])) (.slice Ao111 t258.length co111)) (fun _ hk => by first | exact hk.2 | (simp only [ne_eq, hk, not_false_eq_true, and_self, true_and, and_true])) (.int .i64 t261)) (fun _ hk => by first | exact ⟨hk.1.2, hk.1.1⟩ | (simp only [ne_eq, hk, not_false_eq_true, and_self, true_and, and_true])))))⟩; replace BK237 : qS (w112.heap[gb237]? = some (.cells #[.slice (some ad240) l0_0.length c0_0, .slice A0_1 l0_1.length c0_1, .int .i64 a0_2] 32 (0, 0))) := ⟨hw ▸ bQ BK237⟩; replace BK238 : qS (w112.heap[gb238]? = some (.cells #[.int .i64 0, .slice none 0 0, .slice none 0 0, .int .i64 0] 53 (0, 0))) := ⟨hw ▸ bQ BK238⟩; replace BK262 : qS (w112.heap[gb262]? = some (.cells #[.slice Ao107 t255.length co107, .slice Ao111 t258.length co111, .int .i64 t261] 32 (0, 0))) := ⟨hw ▸ bQ BK262⟩; replace HB := lW HB hw; clear hw; obtain ⟨hcz113_0, hcz113_1, hcz113_2, hfz113_0, hfz113_1, hfz113_2⟩ := bx3 BK262; obtain ⟨Ao114, co114, eo114⟩ := Kd.qX HO_16.out; subst eo114; have p56 : 0 ≤ (a1 : Int) := of_decide_eq_true (by assumption); have q56 : (a1 : Int) < ((t255.length : Int) : Int) := of_decide_eq_true (by assumption); obtain ⟨go56, co56, eo56, gb56, gl56, cl56, HG56⟩ := Kd.R_form HO257.out (by omega); (first | cases eo56 | (injection eo56 with ea_ en_ ec_; (first | subst ea_ | (injection ea_ with ea_; subst ea_)); subst ec_; clear en_)); have GB56 := qS.mk gb56; have GG56 := qS.mk HG56; clear gb56 gl56 HG56; obtain ⟨hx56_0, hf56_0⟩ := Kd.R_celln 0 HO257.out (a1 : Int) p56 q56; replace p56 := eq_true p56; replace q56 := eq_true q56; obtain ⟨hy115_, hz115_⟩ := Kd.R_celln 0 HO257.out (a1 : Int) (of_decide_eq_true (by assumption)) (of_decide_eq_true (by assumption)); have HP115 := Kd.R_putg HO257.out (a1 : Int) (x16_37.length : Int)) | ((with_reducible refine gate_store (t := 2) (p := 112) rfl ?_); refine sE (w1 := w112.setCell ⟨go56, (a1 : Int).toNat, none⟩ (.int .i64 (x16_37.length : Int))) ?_; intro w116 hw; have hg : w112.grownBy w116 (some go56) := (by rw [hw]; exact HP115.2); have hp_ : Kd.R (Kd.int .i64) 2 w116 w.heap.size (fun k_ => some k_ ≠ (.slice Ao114 x16_37.length co114 : Value).ownBlock ∧ some k_ ≠ (.slice Ao111 t258.length co111 : Value).ownBlock) (.slice (some ⟨go56, 0, none⟩) t255.length co107) y263 := (by rw [hw, Ny263.out]; exact HP115.1); clear HP115; replace HO_16 := qS.mk (Kd.R_after (v := (.slice (some ⟨go56, 0, none⟩) t255.length co107)) (v1 := (.slice (some ⟨go56, 0, none⟩) t255.length co107)) (ok := (fun k_ => some k_ ≠ (.slice Ao111 t258.length co111 : Value).ownBlock)) (rT (Kd.qZ HO_16.out (fun _ hk => by first | exact ⟨hk.2, hk.1⟩ | (simp only [ne_eq, hk, not_false_eq_true, and_self, true_and, and_true])))) hg (.inl rfl)); replace BK237 := gB BK237 hg (Kd.R_ne HO257.out BK237.out (by decide)); replace BK238 := gB BK238 hg (Kd.R_ne HO257.out BK238.out (by decide)); replace HO260 := qS.mk (Kd.R_after (v := (.slice (some ⟨go56, 0, none⟩) t255.length co107)) (v1 := (.slice (some ⟨go56, 0, none⟩) t255.length co107)) (ok := (fun k_ => some k_ ≠ (.slice Ao114 x16_37.length co114 : Value).ownBlock)) (rS HO260) hg (.inl rfl)); replace BK262 := gB BK262 hg (Kd.R_ne HO257.out BK262.out (by decide)); replace HO257 := qS.mk (hp_); replace HB := qS.mk ((by rw [hw]; exact qD (HB.out) GB56.out : Below w.heap.size w w116)); clear hg hw hp_; obtain ⟨hcz117_0, hcz117_1, hcz117_2, hfz117_0, hfz117_1, hfz117_2⟩ := bx3 BK262) | ((with_reducible refine gate_callee (f := 78) rfl ?_); refine qT (some 115) rfl rfl Try.func78 (by kernel_rfl) rfl #[.slice (some ⟨go56, 0, none⟩) y263.length co107] rfl (by (try simp only [List.map_toArray, List.map_cons, List.map_nil]); first | done | (rw [show y263.length = t255.length from (Kd.qY HO257.out).1.symm] <;> rfl) | rfl | (simp only [List.length_drop, List.length_take]; rfl)) ?_; (with_reducible refine (zL.calls kj37 _ _ y263 t264 _ (cS (Kd.qY HO257.out).2.2) ?side2 A57.out).mono ?_); (case side2 => rw [show y263.length = t255.length from (Kd.qY HO257.out).1.symm]; exact (Kd.qY HO257.out).2.1); rintro e w' ⟨rfl, ⟨nd, rfl⟩⟩; refine ⟨_, rfl, ?_⟩; (try (rw [drewN_self w116]; generalize hq_ : World.drewN w116 _ = w116; replace HO257 : qS (Kd.R (Kd.int .i64) 2 w116 w.heap.size (fun k_ => some k_ ≠ (.slice Ao111 t258.length co111 : Value).ownBlock ∧ some k_ ≠ (.slice Ao114 x16_37.length co114 : Value).ownBlock) (.slice (some ⟨go56, 0, none⟩) t255.length co107) y263) := ⟨by rw [← hq_]; exact (rT (Kd.qZ HO257.out (fun _ hk => by first | exact ⟨hk.2, hk.1⟩ | (simp only [ne_eq, hk, not_false_eq_true, and_self, true_and, and_true]))))⟩; replace HO260 : qS (Kd.R (Kd.int .i64) 2 w116 w.heap.size (fun k_ => some k_ ≠ (.slice (some ⟨go56, 0, none⟩) t255.length co107 : Value).ownBlock ∧ some k_ ≠ (.slice Ao114 x16_37.length co114 : Value).ownBlock) (.slice Ao111 t258.length co111) t258) := ⟨by rw [← hq_]; exact (rT (Kd.qZ HO260.out (fun _ hk => by first | exact ⟨hk.2, hk.1⟩ | (simp only [ne_eq, hk, not_false_eq_true, and_self, true_and, and_true]))))⟩; replace HO_16 : qS (Kd.R (Kd.int .i64) 2 w116 w.heap.size (fun k_ => some k_ ≠ (.slice (some ⟨go56, 0, none⟩) t255.length co107 : Value).ownBlock ∧ some k_ ≠ (.slice Ao111 t258.length co111 : Value).ownBlock) (.slice Ao114 x16_37.length co114) x16_37) := ⟨by rw [← hq_]; exact (rT (Kd.qZ HO_16.out (fun _ hk => by first | exact ⟨hk.2, hk.1⟩ | (simp only [ne_eq, hk, not_false_eq_true, and_self, true_and, and_true]))))⟩; replace BK237 : qS (w116.heap[gb237]? = some (.cells #[.slice (some ad240) l0_0.length c0_0, .slice A0_1 l0_1.length c0_1, .int .i64 a0_2] 32 (0, 0))) := ⟨by rw [← hq_]; exact (bS BK237)⟩; replace BK238 : qS (w116.heap[gb238]? = some (.cells #[.int .i64 0, .slice none 0 0, .slice none 0 0, .int .i64 0] 53 (0, 0))) := ⟨by rw [← hq_]; exact (bS BK238)⟩; replace BK262 : qS (w116.heap[gb262]? = some (.cells #[.slice (some ⟨go56, 0, none⟩) t255.length co107, .slice Ao111 t258.length co111, .int .i64 t261] 32 (0, 0))) := ⟨by rw [← hq_]; exact (bS BK262)⟩; replace HB : qS (Below w.heap.size w w116) := ⟨by rw [← hq_]; exact (lS HB)⟩; clear hq_; have hcq_0 : w116.cell? ⟨gb262, 0, none⟩ = some (.slice (some ⟨go56, 0, none⟩) t255.length co107) := (qJ BK262.out 0).trans rfl; have hcq_1 : w116.cell? ⟨gb262, 1, none⟩ = some (.slice Ao111 t258.length co111) := (qJ BK262.out 1).trans rfl; have hcq_2 : w116.cell? ⟨gb262, 2, none⟩ = some (.int .i64 t261) := (qJ BK262.out 2).trans rfl))))
              replace HO_16 := rD HO_16; replace HO257 := rD HO257; replace HO260 := rD HO260; replace BK237 := bD BK237; replace BK238 := bD BK238; replace BK262 := bD BK262; replace HB := lD HB
              have p265 : 0 ≤ (0 : Int) := (by omega)
              have q265 : 0 < (x16_37.length : Int) := of_decide_eq_true (by assumption)
              obtain ⟨ad265, e265, hx265_0⟩ := Kd.at_int (Kd.qY HO_16.out).2.2 0 p265 q265
              cases e265
              have qi265 : (0 < x16_37.length) = True := eq_true (by omega)
              (try rw [show ((0 : Int)).toNat = 0 from rfl] at hx265_0)
              (try rw [Addr.add_zero'] at hx265_0)
              replace p265 := eq_true p265
              replace q265 := eq_true q265
              obtain ⟨ad266, e266, hx266_0, hw266_0, p266, q266⟩ := aI HR0_1 HB a1
              cases e266
              refine start_ (n := 14) (S := fun w' => w'.cell? ⟨gb237, 0, none⟩ = some (.slice (some ad240) l0_0.length c0_0) ∧ w'.cell? ⟨gb237, 1, none⟩ = some (.slice (some ad266) l0_1.length c0_1) ∧ w'.cell? ⟨gb237, 2, none⟩ = some (.int .i64 a0_2) ∧ w'.cell? ad265 = some (.int .i64 (rd x16_37 0)) ∧ w'.cell? (ad266.add (a1).toNat) = some (.int .i64 (rd l0_1 a1))) (ds := []) (bs 14 0) (by kernel_rfl) rfl rfl ⟨(qJ BK237.out 0).trans rfl, (qJ BK237.out 1).trans rfl, (qJ BK237.out 2).trans rfl, hx265_0, (cU HB hw266_0)⟩ (fun hHeld => ?_); refine with_tabW spec_Slice.tab23 spec_Slice.bits23 (fun HT_ HW_ => ?_)
              generalize w116.drew = w118 at HO_16 HO257 HO260 BK237 BK238 BK262 HB hx265_0 hx266_0 hHeld ⊢
              refine pS 0 117 (bs 14 1) HT_ ?_
              refine pS 2 119 (bs 14 5) HT_ ?_
              refine pS 3 120 (bs 14 13) HT_ ?_
              refine pS 5 122 (bs 14 45) HT_ ?_
              refine pS 7 124 (bs 14 173) HT_ ?_
              refine tS 1 118 (bs 14 175) HT_ HW_ hHeld ?_
              refine tS 4 121 (bs 14 191) HT_ HW_ hHeld ?_
              refine tS 6 123 (bs 14 255) HT_ HW_ hHeld ?_
              refine pS 8 125 (bs 14 511) HT_ ?_
              refine tS 9 126 (bs 14 1023) HT_ HW_ hHeld ?_
              refine pS 10 127 (bs 14 2047) HT_ ?_
              refine pS 11 128 (bs 14 4095) HT_ ?_
              refine pS 12 129 (bs 14 8191) HT_ ?_
              refine one_ (i := 13) (N := none) (bs 14 16383) rfl rfl (one_of HT_.out (by kernel_rfl)) (by decide) (fun K hK => ?_)
              have hs119 : w118.cell? ⟨gb262, 2, none⟩ = some (.int .i64 t261) := (qJ BK262.out 2).trans rfl
              have hfs119 := qK BK262.out 2
              have hns119_0 := NB237_262.out
              have hns119_1 := NB238_262.out
              have hms119_0 := NB262_237.out
              have hms119_1 := NB262_238.out
              refine skip_ (w1 := ?_) (by rfl) rfl ?_ ?_
              rotate_left
              ·go_simp
               rfl
              refine hK.out _ _ ⟨((cell_far (p := ⟨gb262, _, none⟩) NB237_262.out _).trans (hHeld.1)), ((cell_far (p := ⟨gb262, _, none⟩) NB237_262.out _).trans (hHeld.2.1)), ((cell_far (p := ⟨gb262, _, none⟩) NB237_262.out _).trans (hHeld.2.2.1)), ((cell_far (p := ⟨gb262, _, none⟩) (by first | exact Kd.own_blk (Kd.R_ne HO_16.out BK262.out (by decide)) | (rw [add_block]; exact Kd.own_blk (Kd.R_ne HO_16.out BK262.out (by decide))) | (show (Addr.add _ _).block ≠ _; rw [add_block]; exact Kd.own_blk (Kd.R_ne HO_16.out BK262.out (by decide))) | (dsimp only; exact Kd.own_blk (Kd.R_ne HO_16.out BK262.out (by decide)))) _).trans (hHeld.2.2.2.1)), ((cell_far (p := ⟨gb262, _, none⟩) (by first | exact Nat.ne_of_lt (Nat.lt_of_lt_of_le (by have := World.block_lt_of_cell? _ _ hw266_0; first | rwa [add_block] at this | exact this) GW262.out) | (rw [add_block]; exact Nat.ne_of_lt (Nat.lt_of_lt_of_le (by have := World.block_lt_of_cell? _ _ hw266_0; first | rwa [add_block] at this | exact this) GW262.out)) | (show (Addr.add _ _).block ≠ _; rw [add_block]; exact Nat.ne_of_lt (Nat.lt_of_lt_of_le (by have := World.block_lt_of_cell? _ _ hw266_0; first | rwa [add_block] at this | exact this) GW262.out)) | (dsimp only; exact Nat.ne_of_lt (Nat.lt_of_lt_of_le (by have := World.block_lt_of_cell? _ _ hw266_0; first | rwa [add_block] at this | exact this) GW262.out))) _).trans (hHeld.2.2.2.2))⟩ (fun hHeld => ?_)
              clear hK K
              refine done_ (done_of HT_.out (by kernel_rfl)) ?_
              obtain ⟨hcz120_0, hcz120_1, hcz120_2, hfz120_0, hfz120_1, hfz120_2⟩ := bx3 BK262
              obtain ⟨hcz121_0, hcz121_1, hcz121_2, hcz121_3, hfz121_0, hfz121_1, hfz121_2, hfz121_3⟩ := bx4 BK238
              try go_wp2
              refine bodyPost_ret (rC gb238 53 #[.int .i64 0, .slice (some ⟨go56, 0, none⟩) t255.length co107, .slice Ao111 t258.length co111, .int .i64 (wrap64 (a0_2 + (wrap64 ((rd x16_37 0) * (rd l0_1 a1)))))] (bQ ⟨zN (p := ⟨gb262, 2, none⟩) BK238.out NB238_262.out (.int .i64 (wrap64 (a0_2 + (wrap64 ((rd x16_37 0) * (rd l0_1 a1))))))⟩) Try.underlying53) rfl ?_
              exact ⟨_, _, rg, rT (Kd.qZ (Kd.R_far (p := ⟨gb238, 3, none⟩) (Kd.R_far (p := ⟨gb238, 2, none⟩) (Kd.R_far (p := ⟨gb238, 1, none⟩) (Kd.R_far (p := ⟨gb238, 0, none⟩) (Kd.R_far (p := ⟨gb262, 2, none⟩) (Kd.R_types (Kd.R_types HO257.out BK262.out (by decide)) BK238.out (by decide)) (fun _ hk => by first | exact hk.1.2 | (simp only [ne_eq, hk, not_false_eq_true, and_self, true_and, and_true])) (.int .i64 (wrap64 (a0_2 + (wrap64 ((rd x16_37 0) * (rd l0_1 a1))))))) (fun _ hk => by first | exact hk.2 | (simp only [ne_eq, hk, not_false_eq_true, and_self, true_and, and_true])) (.int .i64 0)) (fun _ hk => by first | exact hk.2 | (simp only [ne_eq, hk, not_false_eq_true, and_self, true_and, and_true])) (.slice (some ⟨go56, 0, none⟩) t255.length co107)) (fun _ hk => by first | exact hk.2 | (simp only [ne_eq, hk, not_false_eq_true, and_self, true_and, and_true])) (.slice Ao111 t258.length co111)) (fun _ hk => by first | exact hk.2 | (simp only [ne_eq, hk, not_false_eq_true, and_self, true_and, and_true])) (.int .i64 (wrap64 (a0_2 + (wrap64 ((rd x16_37 0) * (rd l0_1 a1))))))) (fun _ hk => by first | exact hk.1.1.2 | (simp only [ne_eq, hk, not_false_eq_true, and_self, true_and, and_true]))), rT (Kd.qZ (Kd.R_far (p := ⟨gb238, 3, none⟩) (Kd.R_far (p := ⟨gb238, 2, none⟩) (Kd.R_far (p := ⟨gb238, 1, none⟩) (Kd.R_far (p := ⟨gb238, 0, none⟩) (Kd.R_far (p := ⟨gb262, 2, none⟩) (Kd.R_types (Kd.R_types HO260.out BK262.out (by decide)) BK238.out (by decide)) (fun _ hk => by first | exact hk.1.2 | (simp only [ne_eq, hk, not_false_eq_true, and_self, true_and, and_true])) (.int .i64 (wrap64 (a0_2 + (wrap64 ((rd x16_37 0) * (rd l0_1 a1))))))) (fun _ hk => by first | exact hk.2 | (simp only [ne_eq, hk, not_false_eq_true, and_self, true_and, and_true])) (.int .i64 0)) (fun _ hk => by first | exact hk.2 | (simp only [ne_eq, hk, not_false_eq_true, and_self, true_and, and_true])) (.slice (some ⟨go56, 0, none⟩) t255.length co107)) (fun _ hk => by first | exact hk.2 | (simp only [ne_eq, hk, not_false_eq_true, and_self, true_and, and_true])) (.slice Ao111 t258.length co111)) (fun _ hk => by first | exact hk.2 | (simp only [ne_eq, hk, not_false_eq_true, and_self, true_and, and_true])) (.int .i64 (wrap64 (a0_2 + (wrap64 ((rd x16_37 0) * (rd l0_1 a1))))))) (fun _ hk => by first | exact hk.1.1.2 | (simp only [ne_eq, hk, not_false_eq_true, and_self, true_and, and_true]))), lS HB⟩
 ·replace c7 := Bool.eq_false_iff.mpr c7
  subst c7
  rw [if_neg (show ¬ (false = true) by decide)] at H
  simp only [Option.some.injEq, Prod.mk.injEq] at H
  obtain ⟨rfl, rfl, rfl, rfl⟩ := H
  go_enter Try.func59, Try.ntmps59
  go_wp2_with (first | ((with_reducible refine gate_dst (N := 5) rfl ?_); (try (refine gate_guard (by rfl) ?_; dsimp only)); refine bE #[.slice A0_0 l0_0.length c0_0, .slice A0_1 l0_1.length c0_1, .int .i64 a0_2] 32 ?_; intro gb237 hg w122 hbox hb; have BK237 := qS.mk (hbox); have GW237 := mG HB hg; have GE237 := mG HB hg; replace HB := mS HB hb; clear hb hbox hg) | ((with_reducible refine gate_dst (N := 10) rfl ?_); (try (refine gate_guard (by rfl) ?_; dsimp only)); refine bE #[.int .i64 0, .slice none 0 0, .slice none 0 0, .int .i64 0] 53 ?_; intro gb238 hg w123 hbox hb; have BK238 := qS.mk (hbox); have GW238 := mG HB hg; have GE238 := mG HB hg; have NB237_238 := mN BK237 hg; have NB238_237 := mM BK237 hg; replace BK237 := mB BK237 hb; replace HB := mS HB hb; clear hb hbox hg; have hnb124 := NB237_238.out; have hnc124 := NB238_237.out; obtain ⟨hcz125_0, hcz125_1, hcz125_2, hfz125_0, hfz125_1, hfz125_2⟩ := bx3 BK237) | ((with_reducible refine gate_callee (f := 24) rfl ?_); refine gL (some 20) Try.func24 #[.agg #[.slice A0_0 l0_0.length c0_0, .slice A0_1 l0_1.length c0_1, .int .i64 a0_2]] ?_; (with_reducible refine (zH.calls k _ _ l0_0 _ _ l0_1 a0_2 false _ (cS (Kd.qW HR0_0.out HB.out)) HC0_0.out (cS (Kd.qW HR0_1.out HB.out)) HC0_1.out A6.out).mono ?_); rintro e w126 ⟨rfl, hb⟩; refine ⟨_, rfl, ?_⟩; replace BK237 := mB BK237 hb; replace BK238 := mB BK238 hb; replace HB := mS HB hb; (try clear hb); (try clear hb2); (try clear hk); (try clear hi); obtain ⟨hcz127_0, hcz127_1, hcz127_2, hcz127_3, hfz127_0, hfz127_1, hfz127_2, hfz127_3⟩ := bx4 BK238))
  refine bodyPost_ret (rC gb238 53 #[.int .i64 12, .slice none 0 0, .slice none 0 0, .int .i64 0] (bQ BK238) Try.underlying53) rfl ?_
  exact ⟨_, _, rg, rN, rN, lS HB⟩

end Go.Proofs.Ytpmdgmnpkdoamaa.DFnViews
