/- Proved here: what the functions answer that the law on  comes to (the lines were written by a program). Conditions: those that stand ahead in each theorem. -/
import Derived.Test.YtpmdgmnpkdoamaaViWSq
import Derived.Test.YtpmdgmnpkdoamaaViDFnViewsx0
import Derived.Test.YtpmdgmnpkdoamaaViDFnViewsx1
import Derived.Test.YtpmdgmnpkdoamaaViDFnViewsx2
import Derived.Test.YtpmdgmnpkdoamaaViDFnViewsx9
namespace Go.Proofs.Ytpmdgmnpkdoamaa.DFnViews
open Go.RowKit Go.Proofs.YtpmdgmnpkdoamaaW.PrintWords Go.Proofs.YtpmdgmnpkdoamaaW.PrintLast Go.Proofs.YtpmdgmnpkdoamaaW.PrintMore
attribute [local go_sem] max2_int min2_int max_two min_two max_three min_three max_four min_four   -- for this text's walks alone
set_option linter.unusedVariables false
set_option linter.unusedSimpArgs false

def spec_l2Offsets.f (k : Nat) (l0_0 : List Int) (l0_1 : List Int) (a0_2 : Int) : Option (List Int) := (zL.f k l0_0).bind fun t306 => (if t306 = 0 then (some (([] : List Int))) else ((zJ.f k l0_0 l0_1 a0_2 0 a0_2).bind fun t310 => (some t310)))
theorem spec_l2Offsets.mono : ∀ a0 a1 a2 k, LeO (spec_l2Offsets.f k a0 a1 a2) (spec_l2Offsets.f (k + 1) a0 a1 a2) := by
 intro a0 a1 a2 k
 unfold spec_l2Offsets.f
 repeat' first
   | (with_reducible exact zL.mono _ _)
   | (with_reducible exact zJ.mono _ _ _ _ _ _)
   | (with_reducible exact LeO.refl _)
   | (with_reducible exact LeO.none _)
   | (with_reducible refine LeO.ite ?_ ?_)
   | (with_reducible refine LeO.bind ?_ (fun _ => ?_))
   | exact zL.mono _ _
   | exact zJ.mono _ _ _ _ _ _
   | exact LeO.none _
   | refine LeO.ite ?_ ?_
   | refine LeO.bind ?_ (fun _ => ?_)
set_option maxHeartbeats 8000000 in
set_option maxRecDepth 100000 in
theorem spec_l2Offsets.calls (k : Nat) (A0_0 : Option Addr) (c0_0 : Nat) (l0_0 : List Int) (A0_1 : Option Addr) (c0_1 : Nat) (l0_1 : List Int) (a0_2 : Int) (r : List Int) (w : World) (hr0_0 : Kd.C (Kd.int .i64) w A0_0 l0_0.length l0_0) (hc0_0 : l0_0.length ≤ c0_0) (hr0_1 : Kd.C (Kd.int .i64) w A0_1 l0_1.length l0_1) (hc0_1 : l0_1.length ≤ c0_1) (h : spec_l2Offsets.f k l0_0 l0_1 a0_2 = some r) :
  Calls Try.prog 88 #[.agg #[.slice A0_0 l0_0.length c0_0, .slice A0_1 l0_1.length c0_1, .int .i64 a0_2]] w fun e w' => ∃ v0_ : Value, e = .returned (v0_) ∧ Kd.R (Kd.int .i64) 2 w' w.heap.size (fun _ => True) v0_ r ∧ Below w.heap.size w w' := by
 have hu32 := Try.underlying32
 have HR0_0 := qS.mk hr0_0
 have HC0_0 := qS.mk hc0_0
 clear hr0_0 hc0_0
 have HR0_1 := qS.mk hr0_1
 have HC0_1 := qS.mk hc0_1
 clear hr0_1 hc0_1
 have HB := qS.mk (Below.refl w.heap.size w)
 have H : ((zL.f k l0_0).bind fun t306 => (if t306 = 0 then (some (([] : List Int))) else ((zJ.f k l0_0 l0_1 a0_2 0 a0_2).bind fun t310 => (some t310)))) = some r := h
 clear h
 replace H := Option.bind_eq_some_iff.mp H
 obtain ⟨t306, A20, H⟩ := H
 try dsimp only at H
 have A2 := qS.mk A20
 clear A20
 by_cases c3 : t306 = 0
 ·rw [if_pos c3] at H
  have c3b0 : (t306 == 0) = true := beq_iff_eq.mpr c3
  have c3b1 : (t306 != 0) = false := bne_eq_false_iff_eq.mpr c3
  clear c3
  obtain ⟨y307, hy307⟩ : ∃ y_ : List Int, y_ = (([] : List Int)) := ⟨_, rfl⟩
  replace H : (some y307) = some r := by first | (rw [hy307]; with_reducible exact H) | (have H2_ := (Option.bind_some _ _).symm.trans H; rw [hy307]; with_reducible exact H2_) | (have H2_ := (Option.bind_some _ _).symm.trans H; with_reducible exact H2_) | with_reducible exact H | (rw [hy307]; exact H) | exact H
  have Ny307 := qS.mk hy307
  clear hy307
  obtain rfl := Option.some.inj H
  go_enter Try.func88, Try.ntmps88
  go_wp2_with (first | ((with_reducible refine gate_dst (N := 1) rfl ?_); refine bE #[.slice A0_0 l0_0.length c0_0, .slice A0_1 l0_1.length c0_1, .int .i64 a0_2] 32 ?_; intro gb305 hg w4 hbox hb; have BK305 := qS.mk (hbox); have GW305 := mG HB hg; have GE305 := mG HB hg; replace HB := mS HB hb; clear hb hbox hg; obtain ⟨hcz5_0, hcz5_1, hcz5_2, hfz5_0, hfz5_1, hfz5_2⟩ := bx3 BK305) | ((with_reducible refine gate_callee (f := 78) rfl ?_); refine gL (some 5) Try.func78 #[.slice A0_0 l0_0.length c0_0] ?_; (with_reducible refine (zL.calls k _ _ l0_0 t306 _ (cS (Kd.qW HR0_0.out HB.out)) HC0_0.out A2.out).mono ?_); rintro e w' ⟨rfl, ⟨nd, rfl⟩⟩; refine ⟨_, rfl, ?_⟩) | ((with_reducible refine gate_dst (N := 7) rfl ?_); refine Kd.R_lit (Kd.int .i64) _ 2 ?hg (N := 7) ?hd (xs := ([] : List Int)) (inner := []) (ok := fun _ => True) (okp := fun _ => True) ?hr ?hp (fun _ hk => hk) trivial (Below.refl _ _) (Nat.le_refl _) (by simp) ?_; (case hd => rfl); (case hg => rfl); (case hr => first | (go_simp; done) | (go_simp; rfl)); (case hp => exact (Reps.none _ _)); intro v308 w6 ho7 hb hg_ hnew_; clear hg_ hnew_; (first | rw [← Ny307.out] at ho7 | (simp only [Int.reduceToNat] at ho7; rw [← Ny307.out] at ho7)); have HO309 := qS.mk (Kd.R_lower ho7 (qF (lS HB))); replace BK305 := mB BK305 hb; replace HB := mS HB hb; clear hb ho7))
  go_ret
  exact ⟨_, rg, rS HO309, lS HB⟩
 ·rw [if_neg c3] at H
  have c3b0 : (t306 == 0) = false := beq_eq_false_iff_ne.mpr c3
  have c3b1 : (t306 != 0) = true := bne_iff_ne.mpr c3
  replace H := Option.bind_eq_some_iff.mp H
  obtain ⟨t310, A80, H⟩ := H
  try dsimp only at H
  have A8 := qS.mk A80
  clear A80
  obtain rfl := Option.some.inj H
  go_enter Try.func88, Try.ntmps88
  go_wp2_with (first | ((with_reducible refine gate_dst (N := 1) rfl ?_); refine bE #[.slice A0_0 l0_0.length c0_0, .slice A0_1 l0_1.length c0_1, .int .i64 a0_2] 32 ?_; intro gb305 hg w9 hbox hb; have BK305 := qS.mk (hbox); have GW305 := mG HB hg; have GE305 := mG HB hg; replace HB := mS HB hb; clear hb hbox hg; obtain ⟨hcz10_0, hcz10_1, hcz10_2, hfz10_0, hfz10_1, hfz10_2⟩ := bx3 BK305) | ((with_reducible refine gate_callee (f := 78) rfl ?_); refine gL (some 5) Try.func78 #[.slice A0_0 l0_0.length c0_0] ?_; (with_reducible refine (zL.calls k _ _ l0_0 t306 _ (cS (Kd.qW HR0_0.out HB.out)) HC0_0.out A2.out).mono ?_); rintro e w' ⟨rfl, ⟨nd, rfl⟩⟩; refine ⟨_, rfl, ?_⟩) | ((with_reducible refine gate_callee (f := 79) rfl ?_); refine gL (some 11) Try.func79 #[.agg #[.slice A0_0 l0_0.length c0_0, .slice A0_1 l0_1.length c0_1, .int .i64 a0_2], .int .i64 0, .int .i64 a0_2] ?_; (with_reducible refine (zJ.calls k _ _ l0_0 _ _ l0_1 a0_2 0 a0_2 t310 _ (cS (Kd.qW HR0_0.out (lS HB))) HC0_0.out (cS (Kd.qW HR0_1.out (lS HB))) HC0_1.out A8.out).mono ?_); rintro e w11 ⟨v311, rfl, ho0, hb⟩; refine ⟨_, rfl, ?_⟩; have HO312 := qS.mk (Kd.R_lower ho0 (qF (lS HB))); replace BK305 := mB BK305 hb; replace HB := mS HB hb; (try clear hb); (try clear hb2); (try clear hk); (try clear hi); (try clear ho0)))
  go_ret
  exact ⟨_, rg, rS HO312, lS HB⟩

mutual
def spec_Reshape.j0 : Nat → List Int → Int → Bool → List Int → List Int → Int → Option (Int × List Int × List Int × Int)
 | 0, _, _, _, _, _, _ => none
 | k + 1, x1, x5, x26, x314000, x314001, x314002 => if x26 = true then (some (6, ([] : List Int), ([] : List Int), 0)) else ((spec_l2Offsets.f k x314000 x314001 x314002).bind fun t318 => (spec_Reshape.l0 k x1 x5 t318 1 x314000 x314001 x314002))
def spec_Reshape.l0 : Nat → List Int → Int → List Int → Int → List Int → List Int → Int → Option (Int × List Int × List Int × Int)
 | 0, _, _, _, _, _, _, _ => none
 | k + 1, x1, x5, x6, x7, x314000, x314001, x314002 => if x7 < (x6.length : Int) then (if 0 ≤ x7 then (if 0 ≤ (wrap64 (x7 - 1)) then (if (wrap64 (x7 - 1)) < (x6.length : Int) then (if (rd x6 x7) = (wrap64 ((rd x6 (wrap64 (x7 - 1))) + 1)) then (spec_Reshape.l0 k x1 x5 x6 (wrap64 (x7 + 1)) x314000 x314001 x314002) else (some (13, ([] : List Int), ([] : List Int), 0))) else (none)) else (none)) else (none)) else ((spec_l2CopyList.f k x1).bind fun t323 => (spec_Reshape.l1 k x1 x5 0 t323 ([] : List Int) x314002))
def spec_Reshape.l1 : Nat → List Int → Int → Int → List Int → List Int → Int → Option (Int × List Int × List Int × Int)
 | 0, _, _, _, _, _, _ => none
 | k + 1, x1, x5, x9, x327000, x327001, x327002 => if x9 < (x1.length : Int) then (spec_Reshape.l2 k x1 x5 x9 1 (wrap64 (x9 + 1)) x327000 x327001 x327002) else (some (0, x327000, x327001, x327002))
def spec_Reshape.l2 : Nat → List Int → Int → Int → Int → Int → List Int → List Int → Int → Option (Int × List Int × List Int × Int)
 | 0, _, _, _, _, _, _, _, _ => none
 | k + 1, x1, x5, x9, x10, x11, x327000, x327001, x327002 => if x11 < (x1.length : Int) then (if 0 ≤ x11 then (spec_Reshape.l2 k x1 x5 x9 (wrap64 (x10 * (rd x1 x11))) (wrap64 (x11 + 1)) x327000 x327001 x327002) else (none)) else (if x5 = 0 then (if x327001.length < 17592186044416 then (spec_Reshape.l1 k x1 x5 (wrap64 (x9 + 1)) x327000 (x327001 ++ [0]) x327002) else (none)) else (if x327001.length < 17592186044416 then (spec_Reshape.l1 k x1 x5 (wrap64 (x9 + 1)) x327000 (x327001 ++ [x10]) x327002) else (none)))
end
def spec_Reshape.f (k : Nat) (l0_0 : List Int) (l0_1 : List Int) (a0_2 : Int) (l1 : List Int) : Option (Int × List Int × List Int × Int) := (zH.f k l0_0 l0_1 a0_2).bind fun t315 => (if t315 = true then ((zL.f k l1).bind fun t316 => (if t316 < 0 then (spec_Reshape.j0 k l1 t316 true l0_0 l0_1 a0_2) else ((zL.f k l0_0).bind fun t317 => (spec_Reshape.j0 k l1 t316 (t316 != t317) l0_0 l0_1 a0_2)))) else (some (12, ([] : List Int), ([] : List Int), 0)))
theorem spec_Reshape.mono_l : ∀ k, (∀ y0 y1 y2 y3 y4 y5, LeO (spec_Reshape.j0 k y0 y1 y2 y3 y4 y5) (spec_Reshape.j0 (k + 1) y0 y1 y2 y3 y4 y5)) ∧ (∀ y0 y1 y2 y3 y4 y5 y6, LeO (spec_Reshape.l0 k y0 y1 y2 y3 y4 y5 y6) (spec_Reshape.l0 (k + 1) y0 y1 y2 y3 y4 y5 y6)) ∧ (∀ y0 y1 y2 y3 y4 y5, LeO (spec_Reshape.l1 k y0 y1 y2 y3 y4 y5) (spec_Reshape.l1 (k + 1) y0 y1 y2 y3 y4 y5)) ∧ (∀ y0 y1 y2 y3 y4 y5 y6 y7, LeO (spec_Reshape.l2 k y0 y1 y2 y3 y4 y5 y6 y7) (spec_Reshape.l2 (k + 1) y0 y1 y2 y3 y4 y5 y6 y7))
 | 0 => ⟨fun _ _ _ _ _ _ r h => by simp [spec_Reshape.j0] at h, fun _ _ _ _ _ _ _ r h => by simp [spec_Reshape.l0] at h, fun _ _ _ _ _ _ r h => by simp [spec_Reshape.l1] at h, fun _ _ _ _ _ _ _ _ r h => by simp [spec_Reshape.l2] at h⟩
 | k + 1 => by
  obtain ⟨ih0, ih1, ih2, ih3⟩ := spec_Reshape.mono_l k
  refine ⟨?_, ?_, ?_, ?_⟩
  ·intro y0 y1 y2 y3 y4 y5
   unfold spec_Reshape.j0
   repeat' first
   | (with_reducible exact ih0 _ _ _ _ _ _)
   | (with_reducible exact ih1 _ _ _ _ _ _ _)
   | (with_reducible exact ih2 _ _ _ _ _ _)
   | (with_reducible exact ih3 _ _ _ _ _ _ _ _)
   | (with_reducible exact zH.mono _ _ _ _)
   | (with_reducible exact spec_l2CopyList.mono _ _)
   | (with_reducible exact zL.mono _ _)
   | (with_reducible exact spec_l2Offsets.mono _ _ _ _)
   | (with_reducible exact LeO.refl _)
   | (with_reducible exact LeO.none _)
   | (with_reducible refine LeO.ite ?_ ?_)
   | (with_reducible refine LeO.bind ?_ (fun _ => ?_))
   | exact ih0 _ _ _ _ _ _
   | exact ih1 _ _ _ _ _ _ _
   | exact ih2 _ _ _ _ _ _
   | exact ih3 _ _ _ _ _ _ _ _
   | exact zH.mono _ _ _ _
   | exact spec_l2CopyList.mono _ _
   | exact zL.mono _ _
   | exact spec_l2Offsets.mono _ _ _ _
   | exact LeO.none _
   | refine LeO.ite ?_ ?_
   | refine LeO.bind ?_ (fun _ => ?_)
  ·intro y0 y1 y2 y3 y4 y5 y6
   unfold spec_Reshape.l0
   repeat' first
   | (with_reducible exact ih0 _ _ _ _ _ _)
   | (with_reducible exact ih1 _ _ _ _ _ _ _)
   | (with_reducible exact ih2 _ _ _ _ _ _)
   | (with_reducible exact ih3 _ _ _ _ _ _ _ _)
   | (with_reducible exact zH.mono _ _ _ _)
   | (with_reducible exact spec_l2CopyList.mono _ _)
   | (with_reducible exact zL.mono _ _)
   | (with_reducible exact spec_l2Offsets.mono _ _ _ _)
   | (with_reducible exact LeO.refl _)
   | (with_reducible exact LeO.none _)
   | (with_reducible refine LeO.ite ?_ ?_)
   | (with_reducible refine LeO.bind ?_ (fun _ => ?_))
   | exact ih0 _ _ _ _ _ _
   | exact ih1 _ _ _ _ _ _ _
   | exact ih2 _ _ _ _ _ _
   | exact ih3 _ _ _ _ _ _ _ _
   | exact zH.mono _ _ _ _
   | exact spec_l2CopyList.mono _ _
   | exact zL.mono _ _
   | exact spec_l2Offsets.mono _ _ _ _
   | exact LeO.none _
   | refine LeO.ite ?_ ?_
   | refine LeO.bind ?_ (fun _ => ?_)
  ·intro y0 y1 y2 y3 y4 y5
   unfold spec_Reshape.l1
   repeat' first
   | (with_reducible exact ih0 _ _ _ _ _ _)
   | (with_reducible exact ih1 _ _ _ _ _ _ _)
   | (with_reducible exact ih2 _ _ _ _ _ _)
   | (with_reducible exact ih3 _ _ _ _ _ _ _ _)
   | (with_reducible exact zH.mono _ _ _ _)
   | (with_reducible exact spec_l2CopyList.mono _ _)
   | (with_reducible exact zL.mono _ _)
   | (with_reducible exact spec_l2Offsets.mono _ _ _ _)
   | (with_reducible exact LeO.refl _)
   | (with_reducible exact LeO.none _)
   | (with_reducible refine LeO.ite ?_ ?_)
   | (with_reducible refine LeO.bind ?_ (fun _ => ?_))
   | exact ih0 _ _ _ _ _ _
   | exact ih1 _ _ _ _ _ _ _
   | exact ih2 _ _ _ _ _ _
   | exact ih3 _ _ _ _ _ _ _ _
   | exact zH.mono _ _ _ _
   | exact spec_l2CopyList.mono _ _
   | exact zL.mono _ _
   | exact spec_l2Offsets.mono _ _ _ _
   | exact LeO.none _
   | refine LeO.ite ?_ ?_
   | refine LeO.bind ?_ (fun _ => ?_)
  ·intro y0 y1 y2 y3 y4 y5 y6 y7
   unfold spec_Reshape.l2
   repeat' first
   | (with_reducible exact ih0 _ _ _ _ _ _)
   | (with_reducible exact ih1 _ _ _ _ _ _ _)
   | (with_reducible exact ih2 _ _ _ _ _ _)
   | (with_reducible exact ih3 _ _ _ _ _ _ _ _)
   | (with_reducible exact zH.mono _ _ _ _)
   | (with_reducible exact spec_l2CopyList.mono _ _)
   | (with_reducible exact zL.mono _ _)
   | (with_reducible exact spec_l2Offsets.mono _ _ _ _)
   | (with_reducible exact LeO.refl _)
   | (with_reducible exact LeO.none _)
   | (with_reducible refine LeO.ite ?_ ?_)
   | (with_reducible refine LeO.bind ?_ (fun _ => ?_))
   | exact ih0 _ _ _ _ _ _
   | exact ih1 _ _ _ _ _ _ _
   | exact ih2 _ _ _ _ _ _
   | exact ih3 _ _ _ _ _ _ _ _
   | exact zH.mono _ _ _ _
   | exact spec_l2CopyList.mono _ _
   | exact zL.mono _ _
   | exact spec_l2Offsets.mono _ _ _ _
   | exact LeO.none _
   | refine LeO.ite ?_ ?_
   | refine LeO.bind ?_ (fun _ => ?_)
theorem spec_Reshape.mono : ∀ a0 a1 a2 a3 k, LeO (spec_Reshape.f k a0 a1 a2 a3) (spec_Reshape.f (k + 1) a0 a1 a2 a3) := by
 intro a0 a1 a2 a3 k
 obtain ⟨ih0, ih1, ih2, ih3⟩ := spec_Reshape.mono_l k
 unfold spec_Reshape.f
 repeat' first
   | (with_reducible exact ih0 _ _ _ _ _ _)
   | (with_reducible exact ih1 _ _ _ _ _ _ _)
   | (with_reducible exact ih2 _ _ _ _ _ _)
   | (with_reducible exact ih3 _ _ _ _ _ _ _ _)
   | (with_reducible exact zH.mono _ _ _ _)
   | (with_reducible exact spec_l2CopyList.mono _ _)
   | (with_reducible exact zL.mono _ _)
   | (with_reducible exact spec_l2Offsets.mono _ _ _ _)
   | (with_reducible exact LeO.refl _)
   | (with_reducible exact LeO.none _)
   | (with_reducible refine LeO.ite ?_ ?_)
   | (with_reducible refine LeO.bind ?_ (fun _ => ?_))
   | exact ih0 _ _ _ _ _ _
   | exact ih1 _ _ _ _ _ _ _
   | exact ih2 _ _ _ _ _ _
   | exact ih3 _ _ _ _ _ _ _ _
   | exact zH.mono _ _ _ _
   | exact spec_l2CopyList.mono _ _
   | exact zL.mono _ _
   | exact spec_l2Offsets.mono _ _ _ _
   | exact LeO.none _
   | refine LeO.ite ?_ ?_
   | refine LeO.bind ?_ (fun _ => ?_)
def spec_Reshape.T10 : Bool × List (List Nat × List Nat) := (true, [([], []), ([], []), ([0, 1], [0, 1]), ([2], [2]), ([], []), ([], []), ([5], [5]), ([4, 6], [4, 6]), ([7], [7]), ([8], [8]), ([3, 9], [3, 9])])
def spec_Reshape.B10 : List Nat := [0, 0, 3, 7, 0, 0, 32, 112, 240, 496, 1023]
theorem spec_Reshape.tab10 : rtab .any (opsOf Try.f68 10) = spec_Reshape.T10 := by kernel_rfl
theorem spec_Reshape.bits10 : waitsOk spec_Reshape.T10.2 spec_Reshape.B10 = true := by kernel_rfl
set_option maxHeartbeats 8000000 in
set_option maxRecDepth 100000 in
theorem spec_Reshape.calls (k : Nat) (A0_0 : Option Addr) (c0_0 : Nat) (l0_0 : List Int) (A0_1 : Option Addr) (c0_1 : Nat) (l0_1 : List Int) (a0_2 : Int) (A1 : Option Addr) (c1 : Nat) (l1 : List Int) (r1 : Int) (r2 : List Int) (r3 : List Int) (r4 : Int) (w : World) (hr0_0 : Kd.C (Kd.int .i64) w A0_0 l0_0.length l0_0) (hc0_0 : l0_0.length ≤ c0_0) (hr0_1 : Kd.C (Kd.int .i64) w A0_1 l0_1.length l0_1) (hc0_1 : l0_1.length ≤ c0_1) (hr1 : Kd.C (Kd.int .i64) w A1 l1.length l1) (hc1 : l1.length ≤ c1) (h : spec_Reshape.f k l0_0 l0_1 a0_2 l1 = some (r1, r2, r3, r4)) :
  Calls Try.prog 68 #[.agg #[.slice A0_0 l0_0.length c0_0, .slice A0_1 l0_1.length c0_1, .int .i64 a0_2], .slice A1 l1.length c1] w fun e w' => ∃ v1_ v2_ : Value, e = .returned (.agg #[.int .i64 r1, v1_, v2_, .int .i64 r4]) ∧ Kd.R (Kd.int .i64) 2 w' w.heap.size (fun k_ => some k_ ≠ (v2_ : Value).ownBlock) v1_ r2 ∧ Kd.R (Kd.int .i64) 2 w' w.heap.size (fun k_ => some k_ ≠ (v1_ : Value).ownBlock) v2_ r3 ∧ Below w.heap.size w w' := by
 have hu32 := Try.underlying32
 have hu53 := Try.underlying53
 have HR0_0 := qS.mk hr0_0
 have HC0_0 := qS.mk hc0_0
 clear hr0_0 hc0_0
 have HR0_1 := qS.mk hr0_1
 have HC0_1 := qS.mk hc0_1
 clear hr0_1 hc0_1
 have HR1 := qS.mk hr1
 have HC1 := qS.mk hc1
 clear hr1 hc1
 have HB := qS.mk (Below.refl w.heap.size w)
 have H : ((zH.f k l0_0 l0_1 a0_2).bind fun t315 => (if t315 = true then ((zL.f k l1).bind fun t316 => (if t316 < 0 then (spec_Reshape.j0 k l1 t316 true l0_0 l0_1 a0_2) else ((zL.f k l0_0).bind fun t317 => (spec_Reshape.j0 k l1 t316 (t316 != t317) l0_0 l0_1 a0_2)))) else (some (12, ([] : List Int), ([] : List Int), 0)))) = some (r1, r2, r3, r4) := h
 clear h
 replace H := Option.bind_eq_some_iff.mp H
 obtain ⟨t315, A30, H⟩ := H
 try dsimp only at H
 have A3 := qS.mk A30
 clear A30
 by_cases c4 : t315 = true
 ·subst c4
  rw [if_pos rfl] at H
  replace H := Option.bind_eq_some_iff.mp H
  obtain ⟨t316, A50, H⟩ := H
  try dsimp only at H
  have A5 := qS.mk A50
  clear A50
  have HC6 := qS.mk H
  clear H
  go_enter Try.func68, Try.ntmps68
  go_upto_region 4 with (first | ((with_reducible refine gate_dst (N := 2) rfl ?_); refine bE #[.slice A0_0 l0_0.length c0_0, .slice A0_1 l0_1.length c0_1, .int .i64 a0_2] 32 ?_; intro gb313 hg w7 hbox hb; have BK313 := qS.mk (hbox); have GW313 := mG HB hg; have GE313 := mG HB hg; replace HB := mS HB hb; clear hb hbox hg) | ((with_reducible refine gate_dst (N := 4) rfl ?_); refine bE #[.int .i64 0, .slice none 0 0, .slice none 0 0, .int .i64 0] 53 ?_; intro gb314 hg w8 hbox hb; have BK314 := qS.mk (hbox); have GW314 := mG HB hg; have GE314 := mG HB hg; have NB313_314 := mN BK313 hg; have NB314_313 := mM BK313 hg; replace BK313 := mB BK313 hb; replace HB := mS HB hb; clear hb hbox hg; have hnb9 := NB313_314.out; have hnc9 := NB314_313.out; obtain ⟨hcz10_0, hcz10_1, hcz10_2, hfz10_0, hfz10_1, hfz10_2⟩ := bx3 BK313) | ((with_reducible refine gate_callee (f := 24) rfl ?_); refine gL (some 13) Try.func24 #[.agg #[.slice A0_0 l0_0.length c0_0, .slice A0_1 l0_1.length c0_1, .int .i64 a0_2]] ?_; (with_reducible refine (zH.calls k _ _ l0_0 _ _ l0_1 a0_2 true _ (cS (Kd.qW HR0_0.out HB.out)) HC0_0.out (cS (Kd.qW HR0_1.out HB.out)) HC0_1.out A3.out).mono ?_); rintro e w11 ⟨rfl, hb⟩; refine ⟨_, rfl, ?_⟩; replace BK313 := mB BK313 hb; replace BK314 := mB BK314 hb; replace HB := mS HB hb; (try clear hb); (try clear hb2); (try clear hk); (try clear hi)) | ((with_reducible refine gate_callee (f := 78) rfl ?_); refine gL (some 17) Try.func78 #[.slice A1 l1.length c1] ?_; (with_reducible refine (zL.calls k _ _ l1 t316 _ (cS (Kd.qW HR1.out HB.out)) HC1.out A5.out).mono ?_); rintro e w' ⟨rfl, ⟨nd, rfl⟩⟩; refine ⟨_, rfl, ?_⟩))
  (try simp only [Act.put, List.setIfInBounds_toArray, List.set_cons_zero, List.set_cons_succ])
  go_cut [26] (fun v26 wc => ∃ (kq : Nat) (x26_5 : Bool), v26 = .bool x26_5 ∧ qS (spec_Reshape.j0 kq l1 t316 x26_5 l0_0 l0_1 a0_2 = some (r1, r2, r3, r4)) ∧ qS (kq ≤ k) ∧ qS (wc.heap[gb313]? = some (.cells #[(.slice A0_0 l0_0.length c0_0), (.slice A0_1 l0_1.length c0_1), .int .i64 a0_2] 32 (0, 0))) ∧ qS (wc.heap[gb314]? = some (.cells #[.int .i64 0, (.slice none 0 0), (.slice none 0 0), .int .i64 0] 53 (0, 0))) ∧ qS (Below w.heap.size w wc))
  case first =>
   have H := HC6.out
   clear HC6
   by_cases c12 : t316 < 0
   ·rw [if_pos c12] at H
    have c12b0 : decide (t316 < 0) = true := decide_eq_true c12
    clear c12
    (first | rw [c12b0] | (simp only [i64_w, i32_w]; rw [c12b0]) | skip)
    have H' := qS.mk H
    clear H
    go_wp2
    go_meet
    case rel => exact ⟨_, (true), rf, H', ⟨by first | omega | exact Nat.le_refl _⟩, ⟨bS BK313⟩, ⟨bS BK314⟩, ⟨lS HB⟩⟩
   ·rw [if_neg c12] at H
    have c12b0 : decide (t316 < 0) = false := decide_eq_false c12
    clear c12
    (first | rw [c12b0] | (simp only [i64_w, i32_w]; rw [c12b0]) | skip)
    replace H := Option.bind_eq_some_iff.mp H
    obtain ⟨t317, A130, H⟩ := H
    try dsimp only at H
    have A13 := qS.mk A130
    clear A130
    have H' := qS.mk H
    clear H
    have hnb14 := NB313_314.out
    have hnc14 := NB314_313.out
    obtain ⟨hcz15_0, hcz15_1, hcz15_2, hfz15_0, hfz15_1, hfz15_2⟩ := bx3 BK313
    go_wp2_with (first | (go_at_call 78; (with_reducible refine (zL.calls k _ _ l0_0 t317 _ (cS (Kd.qW HR0_0.out HB.out)) HC0_0.out A13.out).mono ?_); rintro e w' ⟨rfl, ⟨nd, rfl⟩⟩))
    go_meet
    case rel => exact ⟨_, ((t316 != t317)), rf, H', ⟨by first | omega | exact Nat.le_refl _⟩, ⟨bS BK313⟩, ⟨bS BK314⟩, ⟨lS HB⟩⟩
  case rest =>
   clear HC6
   (try clear c1); (try clear c4); (try clear hcz10_0); (try clear hcz10_1); (try clear hcz10_2); (try clear hfz10_0); (try clear hfz10_1); (try clear hfz10_2)
   obtain ⟨kq, x26_5, rfl, HA, HJ5, BK313, BK314, HB⟩ := hcut
   cases kq with
   | zero => exact absurd HA.out (by simp [spec_Reshape.j0])
   | succ kj5 =>
    have H := HA.out
    clear HA
    simp only [spec_Reshape.j0] at H
    by_cases c16 : x26_5 = true
    ·subst c16
     rw [if_pos rfl] at H
     simp only [Option.some.injEq, Prod.mk.injEq] at H
     obtain ⟨rfl, rfl, rfl, rfl⟩ := H
     have hnb17 := NB314_313.out
     have hnc17 := NB313_314.out
     obtain ⟨hcz18_0, hcz18_1, hcz18_2, hcz18_3, hfz18_0, hfz18_1, hfz18_2, hfz18_3⟩ := bx4 BK314
     go_wp2
     refine bodyPost_ret (rC gb314 53 #[.int .i64 6, .slice none 0 0, .slice none 0 0, .int .i64 0] (bQ BK314) Try.underlying53) rfl ?_
     exact ⟨_, _, rg, rN, rN, lS HB⟩
    ·replace c16 := Bool.eq_false_iff.mpr c16
     subst c16
     rw [if_neg (show ¬ (false = true) by decide)] at H
     replace H := Option.bind_eq_some_iff.mp H
     obtain ⟨t318, A190, H⟩ := H
     try dsimp only at H
     have A19 := qS.mk A190
     clear A190
     have H' := qS.mk H
     clear H
     have hnb20 := NB313_314.out
     have hnc20 := NB314_313.out
     obtain ⟨hcz21_0, hcz21_1, hcz21_2, hfz21_0, hfz21_1, hfz21_2⟩ := bx3 BK313
     go_wp2_with (first | ((with_reducible refine gate_callee (f := 88) rfl ?_); refine gL (some 29) Try.func88 #[.agg #[.slice A0_0 l0_0.length c0_0, .slice A0_1 l0_1.length c0_1, .int .i64 a0_2]] ?_; (with_reducible refine (spec_l2Offsets.calls kj5 _ _ l0_0 _ _ l0_1 a0_2 t318 _ (cS (Kd.qW HR0_0.out HB.out)) HC0_0.out (cS (Kd.qW HR0_1.out HB.out)) HC0_1.out A19.out).mono ?_); rintro e w22 ⟨v319, rfl, ho0, hb⟩; refine ⟨_, rfl, ?_⟩; have HO320 := qS.mk (Kd.R_lower ho0 (qF (lS HB))); replace BK313 := mB BK313 hb; replace BK314 := mB BK314 hb; replace HB := mS HB hb; (try clear hb); (try clear hb2); (try clear hk); (try clear hi); (try clear ho0)))
     go_loopg [7] kj5 (fun kq v7 w' => ∃ (x7_2 : Int) (x315000_2 : Int) (x315003_2 : Int), v7 = .int .i64 x7_2 ∧ qS (spec_Reshape.l0 kq l1 t316 t318 x7_2 l0_0 l0_1 a0_2 = some (r1, r2, r3, r4)) ∧ qS (kq ≤ kj5) ∧ qS (Kd.R (Kd.int .i64) 2 w' w.heap.size (fun _ => True) v319 t318) ∧ qS (w'.heap[gb313]? = some (.cells #[(.slice A0_0 l0_0.length c0_0), (.slice A0_1 l0_1.length c0_1), .int .i64 a0_2] 32 (0, 0))) ∧ qS (w'.heap[gb314]? = some (.cells #[.int .i64 x315000_2, (.slice none 0 0), (.slice none 0 0), .int .i64 x315003_2] 53 (0, 0))) ∧ qS (Below w.heap.size w w'))
     case atStart => exact ⟨(1), (0), (0), rf, H', ⟨Nat.le_refl _⟩, ⟨rS HO320⟩, ⟨bS BK313⟩, ⟨bS BK314⟩, ⟨lS HB⟩⟩
     case round =>
      clear H'
      (try clear c1); (try clear c4); (try clear c16); (try clear hcz10_0); (try clear hcz10_1); (try clear hcz10_2); (try clear hcz21_0); (try clear hcz21_1); (try clear hcz21_2); (try clear hfz10_0); (try clear hfz10_1); (try clear hfz10_2); (try clear hfz21_0); (try clear hfz21_1); (try clear hfz21_2)
      obtain ⟨x7_2, x315000_2, x315003_2, rfl, HA, HK2, HO_6, BK313, BK314, HB⟩ := hrel
      cases gk with
      | zero => exact absurd HA.out (by simp [spec_Reshape.l0])
      | succ k2 =>
       have H := HA.out
       clear HA
       simp only [spec_Reshape.l0] at H
       by_cases c23 : x7_2 < (t318.length : Int)
       ·rw [if_pos c23] at H
        have c23b0 : decide (x7_2 < (t318.length : Int)) = true := decide_eq_true c23
        clear c23
        replace H := gN H
        obtain ⟨c24, H⟩ := H
        have c24b0 : decide (0 ≤ x7_2) = true := decide_eq_true c24
        clear c24
        obtain ⟨ji25, hji25⟩ : ∃ j_ : Int, (wrap64 (x7_2 - 1)) = j_ := ⟨_, rfl⟩
        replace H : (if 0 ≤ (ji25) then (if (ji25) < (t318.length : Int) then (if (rd t318 x7_2) = (wrap64 ((rd t318 (ji25)) + 1)) then (spec_Reshape.l0 k2 l1 t316 t318 (wrap64 (x7_2 + 1)) l0_0 l0_1 a0_2) else (some (13, ([] : List Int), ([] : List Int), 0))) else (none)) else (none)) = some (r1, r2, r3, r4) := by first | (rw [hji25] at H; exact H) | (simp only [hji25] at H ⊢; exact H)
        have hji25w : (IntKind.i64.wrap (x7_2 - 1)) = ji25 := (i64_w _).trans hji25
        replace H := gN H
        obtain ⟨c26, H⟩ := H
        have c26b0 : decide (0 ≤ (ji25)) = true := decide_eq_true c26
        clear c26
        replace H := gN H
        obtain ⟨c27, H⟩ := H
        have c27b0 : decide ((ji25) < (t318.length : Int)) = true := decide_eq_true c27
        clear c27
        by_cases c28 : (rd t318 x7_2) = (wrap64 ((rd t318 (ji25)) + 1))
        ·rw [if_pos c28] at H
         have c28b0 : ((rd t318 x7_2) == (wrap64 ((rd t318 (ji25)) + 1))) = true := beq_iff_eq.mpr c28
         have c28b1 : ((rd t318 x7_2) != (wrap64 ((rd t318 (ji25)) + 1))) = false := bne_eq_false_iff_eq.mpr c28
         clear c28
         have H' := qS.mk H
         clear H
         obtain ⟨Ao29, co29, eo29⟩ := Kd.qX HO_6.out
         subst eo29
         try go_wp2
         replace HO_6 := rD HO_6; replace BK313 := bD BK313; replace BK314 := bD BK314; replace HB := lD HB
         have p321 : 0 ≤ (x7_2 : Int) := of_decide_eq_true (by assumption)
         have q321 : x7_2 < (t318.length : Int) := of_decide_eq_true (by assumption)
         obtain ⟨ad321, e321, hx321_0⟩ := Kd.at_int (Kd.qY HO_6.out).2.2 x7_2 p321 q321
         cases e321
         replace p321 := eq_true p321
         replace q321 := eq_true q321
         have p322 : 0 ≤ ((ji25) : Int) := of_decide_eq_true (by assumption)
         have q322 : (ji25) < (t318.length : Int) := of_decide_eq_true (by assumption)
         obtain ⟨ad322, e322, hx322_0⟩ := Kd.at_int (Kd.qY HO_6.out).2.2 (ji25) p322 q322
         obtain rfl : ad321 = ad322 := (by injection e322)
         replace p322 := eq_true p322
         replace q322 := eq_true q322
         refine start_ (n := 11) (S := fun w' => w'.cell? (ad321.add (x7_2).toNat) = some (.int .i64 (rd t318 x7_2)) ∧ w'.cell? (ad321.add ((ji25)).toNat) = some (.int .i64 (rd t318 (ji25)))) (ds := []) (bs 11 0) (by kernel_rfl) rfl rfl ⟨hx321_0, hx322_0⟩ (fun hHeld => ?_); refine with_tabW spec_Reshape.tab10 spec_Reshape.bits10 (fun HT_ HW_ => ?_)
         generalize wr.drew = w30 at HO_6 BK313 BK314 HB hx321_0 hx322_0 hHeld ⊢
         refine pS 0 36 (bs 11 1) HT_ ?_
         refine pS 1 37 (bs 11 3) HT_ ?_
         refine pS 2 38 (bs 11 7) HT_ ?_
         refine pS 4 40 (bs 11 23) HT_ ?_
         refine pS 5 41 (bs 11 55) HT_ ?_
         refine pS 6 42 (bs 11 119) HT_ ?_
         refine pS 7 43 (bs 11 247) HT_ ?_
         refine tS 3 39 (bs 11 255) HT_ HW_ hHeld ?_
         refine tS 8 44 (bs 11 511) HT_ HW_ hHeld ?_
         refine pS 9 45 (bs 11 1023) HT_ ?_
         refine pS 10 46 (bs 11 2047) HT_ ?_
         refine done_ (done_of HT_.out (by kernel_rfl)) ?_
         try go_wp2
         go_roundg k2
         case measure => have := HJ5.out; have := HK2.out; omega
         case rel => exact ⟨(wrap64 (x7_2 + 1)), (x315000_2), (x315003_2), rf, H', ⟨by have := HJ5.out; have := HK2.out; omega⟩, ⟨rS HO_6⟩, ⟨bS BK313⟩, ⟨bS BK314⟩, ⟨lS HB⟩⟩
        ·rw [if_neg c28] at H
         have c28b0 : ((rd t318 x7_2) == (wrap64 ((rd t318 (ji25)) + 1))) = false := beq_eq_false_iff_ne.mpr c28
         have c28b1 : ((rd t318 x7_2) != (wrap64 ((rd t318 (ji25)) + 1))) = true := bne_iff_ne.mpr c28
         simp only [Option.some.injEq, Prod.mk.injEq] at H
         obtain ⟨rfl, rfl, rfl, rfl⟩ := H
         obtain ⟨Ao31, co31, eo31⟩ := Kd.qX HO_6.out
         subst eo31
         try go_wp2
         replace HO_6 := rD HO_6; replace BK313 := bD BK313; replace BK314 := bD BK314; replace HB := lD HB
         have p321 : 0 ≤ (x7_2 : Int) := of_decide_eq_true (by assumption)
         have q321 : x7_2 < (t318.length : Int) := of_decide_eq_true (by assumption)
         obtain ⟨ad321, e321, hx321_0⟩ := Kd.at_int (Kd.qY HO_6.out).2.2 x7_2 p321 q321
         cases e321
         replace p321 := eq_true p321
         replace q321 := eq_true q321
         have p322 : 0 ≤ ((ji25) : Int) := of_decide_eq_true (by assumption)
         have q322 : (ji25) < (t318.length : Int) := of_decide_eq_true (by assumption)
         obtain ⟨ad322, e322, hx322_0⟩ := Kd.at_int (Kd.qY HO_6.out).2.2 (ji25) p322 q322
         obtain rfl : ad321 = ad322 := (by injection e322)
         replace p322 := eq_true p322
         replace q322 := eq_true q322
         refine start_ (n := 11) (S := fun w' => w'.cell? (ad321.add (x7_2).toNat) = some (.int .i64 (rd t318 x7_2)) ∧ w'.cell? (ad321.add ((ji25)).toNat) = some (.int .i64 (rd t318 (ji25)))) (ds := []) (bs 11 0) (by kernel_rfl) rfl rfl ⟨hx321_0, hx322_0⟩ (fun hHeld => ?_); refine with_tabW spec_Reshape.tab10 spec_Reshape.bits10 (fun HT_ HW_ => ?_)
         generalize wr.drew = w32 at HO_6 BK313 BK314 HB hx321_0 hx322_0 hHeld ⊢
         refine pS 0 36 (bs 11 1) HT_ ?_
         refine pS 1 37 (bs 11 3) HT_ ?_
         refine pS 2 38 (bs 11 7) HT_ ?_
         refine pS 4 40 (bs 11 23) HT_ ?_
         refine pS 5 41 (bs 11 55) HT_ ?_
         refine pS 6 42 (bs 11 119) HT_ ?_
         refine pS 7 43 (bs 11 247) HT_ ?_
         refine tS 3 39 (bs 11 255) HT_ HW_ hHeld ?_
         refine tS 8 44 (bs 11 511) HT_ HW_ hHeld ?_
         refine pS 9 45 (bs 11 1023) HT_ ?_
         refine pS 10 46 (bs 11 2047) HT_ ?_
         refine done_ (done_of HT_.out (by kernel_rfl)) ?_
         have hnb33 := NB314_313.out
         have hnc33 := NB313_314.out
         obtain ⟨hcz34_0, hcz34_1, hcz34_2, hcz34_3, hfz34_0, hfz34_1, hfz34_2, hfz34_3⟩ := bx4 BK314
         try go_wp2
         refine bodyPost_ret (rC gb314 53 #[.int .i64 13, .slice none 0 0, .slice none 0 0, .int .i64 0] (bQ BK314) Try.underlying53) rfl ?_
         exact ⟨_, _, by first | rfl | (simp [zG, zF] <;> rfl) | (simp only [← hji25]; first | rfl | (simp [zG, zF] <;> rfl)) | (simp [*, zG, zF] <;> rfl), rN, rN, lS HB⟩
       ·rw [if_neg c23] at H
        have c23b0 : decide (x7_2 < (t318.length : Int)) = false := decide_eq_false c23
        clear c23
        replace H := Option.bind_eq_some_iff.mp H
        obtain ⟨t323, A350, H⟩ := H
        try dsimp only at H
        have A35 := qS.mk A350
        clear A350
        have H' := qS.mk H
        clear H
        obtain ⟨Ao36, co36, eo36⟩ := Kd.qX HO_6.out
        subst eo36
        try go_wp2
        replace HO_6 := rD HO_6; replace BK313 := bD BK313; replace BK314 := bD BK314; replace HB := lD HB
        refine start_ (n := 7) (S := fun w' => w'.cell? ⟨gb313, 0, none⟩ = some (.slice A0_0 l0_0.length c0_0) ∧ w'.cell? ⟨gb313, 1, none⟩ = some (.slice A0_1 l0_1.length c0_1) ∧ w'.cell? ⟨gb313, 2, none⟩ = some (.int .i64 a0_2)) (ds := []) (bs 7 0) (by kernel_rfl) rfl rfl ⟨(qJ BK313.out 0).trans rfl, (qJ BK313.out 1).trans rfl, (qJ BK313.out 2).trans rfl⟩ (fun hHeld => ?_)
        generalize wr.drew = w37 at HO_6 BK313 BK314 HB hHeld ⊢
        refine pure_ (i := 0) (N := some 48) (v := ?_) (a' := ?_) (bs 7 1) rfl rfl (by kernel_rfl) (fun _ _ _ h => h) (Or.inl ⟨by rfl, ?_⟩) ?_ ?_
        rotate_left
        ·intro w'
         go_simp
         with_reducible rfl
        rotate_left
        ·simp only [Act.put, List.setIfInBounds_toArray, List.set_cons_zero, List.set_cons_succ, i64_w, i32_w]
         rfl
        refine pure_ (i := 2) (N := some 50) (v := ?_) (a' := ?_) (bs 7 5) rfl rfl (by kernel_rfl) (fun _ _ _ h => h) (Or.inl ⟨by rfl, ?_⟩) ?_ ?_
        rotate_left
        ·intro w'
         go_simp
         with_reducible rfl
        rotate_left
        ·simp only [Act.put, List.setIfInBounds_toArray, List.set_cons_zero, List.set_cons_succ, i64_w, i32_w]
         rfl
        refine take_ (i := 3) (N := some 51) (v := ?_) (a' := ?_) (bs 7 13) rfl rfl (by kernel_rfl) (fun _ _ _ h => h) (Or.inl ⟨by rfl, ?_⟩) hHeld ?_ ?_
        rotate_left
        ·rintro w' ⟨s0, s1, s2⟩
         go_simp
         with_reducible rfl
        rotate_left
        ·simp only [Act.put, List.setIfInBounds_toArray, List.set_cons_zero, List.set_cons_succ, i64_w, i32_w]
         rfl
        refine join_ (σ := Value × Nat) 1 (bs 7 63) (fun s_ => [(49, s_.1), (8, .pointer (some ⟨s_.2, 0, none⟩)), (52, .agg #[s_.1, .slice none 0 0, .int .i64 a0_2])]) (fun s_ w' => (w'.cell? ⟨gb313, 0, none⟩ = some (.slice A0_0 l0_0.length c0_0) ∧ w'.cell? ⟨gb313, 1, none⟩ = some (.slice A0_1 l0_1.length c0_1) ∧ w'.cell? ⟨gb313, 2, none⟩ = some (.int .i64 a0_2)) ∧ (Kd.R (Kd.int .i64) 2 w' w.heap.size (fun k_ => some k_ ≠ (.slice Ao36 t318.length co36 : Value).ownBlock) s_.1 t323) ∧ (Kd.R (Kd.int .i64) 2 w' w.heap.size (fun k_ => some k_ ≠ (s_.1 : Value).ownBlock) (.slice Ao36 t318.length co36) t318) ∧ (w'.heap[gb313]? = some (.cells #[.slice A0_0 l0_0.length c0_0, .slice A0_1 l0_1.length c0_1, .int .i64 a0_2] 32 (0, 0))) ∧ (w'.heap[gb314]? = some (.cells #[.int .i64 x315000_2, .slice none 0 0, .slice none 0 0, .int .i64 x315003_2] 53 (0, 0))) ∧ (w'.heap[s_.2]? = some (.cells #[.slice none 0 0, .slice none 0 0, .int .i64 0] 32 (0, 0))) ∧ (w.heap.size ≤ s_.2) ∧ (w.heap.size ≤ s_.2) ∧ (gb313 ≠ s_.2) ∧ (s_.2 ≠ gb313) ∧ (gb314 ≠ s_.2) ∧ (s_.2 ≠ gb314) ∧ (Below w.heap.size w w')) ?_ ?_
        rotate_left
        ·intro hCont
         refine two_ (i := 1) (j := 5) (Ni := some 49) (Nj := some 8) (bs 7 15) (bs 7 45) rfl rfl rfl rfl (by kernel_rfl) (by decide) (by decide) (fun K hK => ?_) (fun K hK => ?_)
         ·skip
          refine goes_ Try.func108 (by kernel_rfl) rfl #[.slice A1 l1.length c1] (by rfl) rfl rfl (by (try simp only [List.map_toArray, List.map_cons, List.map_nil]); first | done | rfl) ?_
          with_reducible refine (spec_l2CopyList.calls k2 _ _ l1 t323 _ ?side1 ?side2 A35.out).mono ?_
          (case side1 => repeat (first | exact (Kd.qW HR1.out HB.out) | (with_reducible refine Kd.qP ?_ _) | (with_reducible refine Kd.qQ ?_ _) | (with_reducible refine Kd.qR ?_)))
          (case side2 => exact HC1.out)
          rintro e w38 ⟨v324, rfl, ho0, hb⟩
          refine ⟨_, rfl, ?_⟩
          have HO325 := qS.mk (Kd.R_lower (Kd.R_new' ho0 (Kd.R_lt (rS HO_6))) (qF (lS HB))); replace HO_6 := qS.mk (Kd.R_elder' (rS HO_6) (Kd.R_base ho0) hb); replace BK313 := mB BK313 hb; replace BK314 := mB BK314 hb; replace HB := mS HB hb
          (try clear hb)
          (try clear hb2)
          (try clear hk)
          (try clear hi)
          (try clear ho0)
          obtain ⟨Ao39, co39, eo39⟩ := Kd.qX HO325.out
          (first | subst eo39 | (injection eo39 with f1_ f2_ f3_; have f4_ := f1_.symm; have f5_ := f3_.symm; clear f1_ f2_ f3_; subst f4_; subst f5_))
          refine hK.out _ _ ⟨(qJ BK313.out 0).trans rfl, (qJ BK313.out 1).trans rfl, (qJ BK313.out 2).trans rfl⟩ (fun hHeld => ?_)
          clear hK K
          refine norm_ (a' := ?_) ?_ ?_
          rotate_left
          ·show Act.put _ (some 49) _ = _
           simp only [Act.put, List.setIfInBounds_toArray, List.set_cons_zero, List.set_cons_succ, i64_w, i32_w]
           rfl
          refine pure_ (i := 4) (N := some 52) (v := ?_) (a' := ?_) (bs 7 31) rfl rfl (by kernel_rfl) (fun _ _ _ h => h) (Or.inl ⟨by rfl, ?_⟩) ?_ ?_
          rotate_left
          ·intro w'
           go_simp
           with_reducible rfl
          rotate_left
          ·simp only [Act.put, List.setIfInBounds_toArray, List.set_cons_zero, List.set_cons_succ, i64_w, i32_w]
           rfl
          refine one_ (i := 5) (N := some 8) (bs 7 63) rfl rfl (by kernel_rfl) (by decide) (fun K hK => ?_)
          refine box_step ?hg (N := 8) ?hd (cs := #[.slice none 0 0, .slice none 0 0, .int .i64 0]) (t := 32) ?hr ?_; (case hd => rfl); (case hg => rfl); (case hr => first | (go_simp; done) | (go_simp; rfl))
          intro gb326 hg w40 hbox hb
          have BK326 := qS.mk (hbox); have GW326 := mG HB hg; have GE326 := mG HB hg; have NB313_326 := mN BK313 hg; have NB326_313 := mM BK313 hg; have NB314_326 := mN BK314 hg; have NB326_314 := mM BK314 hg; replace HO_6 := mR HO_6 hb; replace HO325 := mR HO325 hb; replace BK313 := mB BK313 hb; replace BK314 := mB BK314 hb; replace HB := mS HB hb
          clear hb hbox hg
          refine hK.out _ _ ⟨(qJ BK313.out 0).trans rfl, (qJ BK313.out 1).trans rfl, (qJ BK313.out 2).trans rfl⟩ (fun hHeld => ?_)
          clear hK K
          refine norm_ (a' := ?_) ?_ ?_
          rotate_left
          ·show Act.put _ (some 8) _ = _
           simp only [Act.put, List.setIfInBounds_toArray, List.set_cons_zero, List.set_cons_succ, i64_w, i32_w]
           rfl
          exact norm_ (by simp only [putAll, Act.put, List.setIfInBounds_toArray, List.set_cons_zero, List.set_cons_succ]) (hCont (.slice Ao39 t323.length co39, gb326) _ ⟨hHeld, (rT (Kd.qZ HO325.out (fun _ hk => hk.2))), (rT (Kd.qZ HO_6.out (fun _ hk => hk.2))), (bS BK313), (bS BK314), (bS BK326), GW326.out, GE326.out, NB313_326.out, NB326_313.out, NB314_326.out, NB326_314.out, (lS HB)⟩)
         ·skip
          refine box_step ?hg (N := 8) ?hd (cs := #[.slice none 0 0, .slice none 0 0, .int .i64 0]) (t := 32) ?hr ?_; (case hd => rfl); (case hg => rfl); (case hr => first | (go_simp; done) | (go_simp; rfl))
          intro gb326 hg w38 hbox hb
          have BK326 := qS.mk (hbox); have GW326 := mG HB hg; have GE326 := mG HB hg; have NB313_326 := mN BK313 hg; have NB326_313 := mM BK313 hg; have NB314_326 := mN BK314 hg; have NB326_314 := mM BK314 hg; replace HO_6 := mR HO_6 hb; replace BK313 := mB BK313 hb; replace BK314 := mB BK314 hb; replace HB := mS HB hb
          clear hb hbox hg
          refine hK.out _ _ ⟨(qJ BK313.out 0).trans rfl, (qJ BK313.out 1).trans rfl, (qJ BK313.out 2).trans rfl⟩ (fun hHeld => ?_)
          clear hK K
          refine norm_ (a' := ?_) ?_ ?_
          rotate_left
          ·show Act.put _ (some 8) _ = _
           simp only [Act.put, List.setIfInBounds_toArray, List.set_cons_zero, List.set_cons_succ, i64_w, i32_w]
           rfl
          refine one_ (i := 1) (N := some 49) (bs 7 47) rfl rfl (by kernel_rfl) (by decide) (fun K hK => ?_)
          refine goes_ Try.func108 (by kernel_rfl) rfl #[.slice A1 l1.length c1] (by rfl) rfl rfl (by (try simp only [List.map_toArray, List.map_cons, List.map_nil]); first | done | rfl) ?_
          with_reducible refine (spec_l2CopyList.calls k2 _ _ l1 t323 _ ?side1 ?side2 A35.out).mono ?_
          (case side1 => repeat (first | exact (Kd.qW HR1.out HB.out) | (with_reducible refine Kd.qP ?_ _) | (with_reducible refine Kd.qQ ?_ _) | (with_reducible refine Kd.qR ?_)))
          (case side2 => exact HC1.out)
          rintro e w39 ⟨v324, rfl, ho0, hb⟩
          refine ⟨_, rfl, ?_⟩
          have HO325 := qS.mk (Kd.R_lower (Kd.R_new' ho0 (Kd.R_lt (rS HO_6))) (qF (lS HB))); replace HO_6 := qS.mk (Kd.R_elder' (rS HO_6) (Kd.R_base ho0) hb); replace BK313 := mB BK313 hb; replace BK314 := mB BK314 hb; replace BK326 := mB BK326 hb; replace HB := mS HB hb
          (try clear hb)
          (try clear hb2)
          (try clear hk)
          (try clear hi)
          (try clear ho0)
          obtain ⟨Ao40, co40, eo40⟩ := Kd.qX HO325.out
          (first | subst eo40 | (injection eo40 with f1_ f2_ f3_; have f4_ := f1_.symm; have f5_ := f3_.symm; clear f1_ f2_ f3_; subst f4_; subst f5_))
          refine hK.out _ _ ⟨(qJ BK313.out 0).trans rfl, (qJ BK313.out 1).trans rfl, (qJ BK313.out 2).trans rfl⟩ (fun hHeld => ?_)
          clear hK K
          refine norm_ (a' := ?_) ?_ ?_
          rotate_left
          ·show Act.put _ (some 49) _ = _
           simp only [Act.put, List.setIfInBounds_toArray, List.set_cons_zero, List.set_cons_succ, i64_w, i32_w]
           rfl
          refine pure_ (i := 4) (N := some 52) (v := ?_) (a' := ?_) (bs 7 63) rfl rfl (by kernel_rfl) (fun _ _ _ h => h) (Or.inl ⟨by rfl, ?_⟩) ?_ ?_
          rotate_left
          ·intro w'
           go_simp
           with_reducible rfl
          rotate_left
          ·simp only [Act.put, List.setIfInBounds_toArray, List.set_cons_zero, List.set_cons_succ, i64_w, i32_w]
           rfl
          exact norm_ (by simp only [putAll, Act.put, List.setIfInBounds_toArray, List.set_cons_zero, List.set_cons_succ]) (hCont (.slice Ao40 t323.length co40, gb326) _ ⟨hHeld, (rT (Kd.qZ HO325.out (fun _ hk => hk.2))), (rT (Kd.qZ HO_6.out (fun _ hk => hk.2))), (bS BK313), (bS BK314), (bS BK326), GW326.out, GE326.out, NB313_326.out, NB326_313.out, NB314_326.out, NB326_314.out, (lS HB)⟩)
        rintro ⟨v324, gb326⟩ w41 ⟨hS_, h0_, h1_, h2_, h3_, h4_, h5_, h6_, h7_, h8_, h9_, h10_, h11_⟩
        have n0_ : qS (Kd.R (Kd.int .i64) 2 w41 w.heap.size (fun k_ => some k_ ≠ (.slice Ao36 t318.length co36 : Value).ownBlock) v324 t323) := ⟨h0_⟩
        have n1_ : qS (Kd.R (Kd.int .i64) 2 w41 w.heap.size (fun k_ => some k_ ≠ (v324 : Value).ownBlock) (.slice Ao36 t318.length co36) t318) := ⟨h1_⟩
        have n2_ : qS (w41.heap[gb313]? = some (.cells #[.slice A0_0 l0_0.length c0_0, .slice A0_1 l0_1.length c0_1, .int .i64 a0_2] 32 (0, 0))) := ⟨h2_⟩
        have n3_ : qS (w41.heap[gb314]? = some (.cells #[.int .i64 x315000_2, .slice none 0 0, .slice none 0 0, .int .i64 x315003_2] 53 (0, 0))) := ⟨h3_⟩
        have n4_ : qS (w41.heap[gb326]? = some (.cells #[.slice none 0 0, .slice none 0 0, .int .i64 0] 32 (0, 0))) := ⟨h4_⟩
        have n5_ : qS (w.heap.size ≤ gb326) := ⟨h5_⟩
        have n6_ : qS (w.heap.size ≤ gb326) := ⟨h6_⟩
        have n7_ : qS (gb313 ≠ gb326) := ⟨h7_⟩
        have n8_ : qS (gb326 ≠ gb313) := ⟨h8_⟩
        have n9_ : qS (gb314 ≠ gb326) := ⟨h9_⟩
        have n10_ : qS (gb326 ≠ gb314) := ⟨h10_⟩
        have n11_ : qS (Below w.heap.size w w41) := ⟨h11_⟩
        clear HO_6 BK313 BK314 HB
        clear h0_ h1_ h2_ h3_ h4_ h5_ h6_ h7_ h8_ h9_ h10_ h11_
        have HO325 := n0_
        have HO_6 := n1_
        have BK313 := n2_
        have BK314 := n3_
        have BK326 := n4_
        have GW326 := n5_
        have GE326 := n6_
        have NB313_326 := n7_
        have NB326_313 := n8_
        have NB314_326 := n9_
        have NB326_314 := n10_
        have HB := n11_
        clear n0_ n1_ n2_ n3_ n4_ n5_ n6_ n7_ n8_ n9_ n10_ n11_
        have hHeld : w41.cell? ⟨gb313, 0, none⟩ = some (.slice A0_0 l0_0.length c0_0) ∧ w41.cell? ⟨gb313, 1, none⟩ = some (.slice A0_1 l0_1.length c0_1) ∧ w41.cell? ⟨gb313, 2, none⟩ = some (.int .i64 a0_2) := hS_
        obtain ⟨Ao42, co42, eo42⟩ := Kd.qX HO325.out
        (first | subst eo42 | (injection eo42 with f1_ f2_ f3_; have f4_ := f1_.symm; have f5_ := f3_.symm; clear f1_ f2_ f3_; subst f4_; subst f5_))
        refine norm_ (a' := ?_) ?_ ?_
        rotate_left
        ·simp only [putAll, Act.put, List.setIfInBounds_toArray, List.set_cons_zero, List.set_cons_succ]
         rfl
        refine one_ (i := 6) (N := none) (bs 7 127) rfl rfl (by kernel_rfl) (by decide) (fun K hK => ?_)
        have hs43 : w41.cell? ⟨gb326, 0, none⟩ = some (.slice none 0 0) := (qJ BK326.out 0).trans rfl
        have hfs43 := qK BK326.out 0
        have hns43_0 := NB313_326.out
        have hns43_1 := NB314_326.out
        have hms43_0 := NB326_313.out
        have hms43_1 := NB326_314.out
        have hs44 : w41.cell? ⟨gb326, 1, none⟩ = some (.slice none 0 0) := (qJ BK326.out 1).trans rfl
        have hfs44 := qK BK326.out 1
        have hns44_0 := NB313_326.out
        have hns44_1 := NB314_326.out
        have hms44_0 := NB326_313.out
        have hms44_1 := NB326_314.out
        have hs45 : w41.cell? ⟨gb326, 2, none⟩ = some (.int .i64 0) := (qJ BK326.out 2).trans rfl
        have hfs45 := qK BK326.out 2
        have hns45_0 := NB313_326.out
        have hns45_1 := NB314_326.out
        have hms45_0 := NB326_313.out
        have hms45_1 := NB326_314.out
        refine skip_ (w1 := ?_) (by rfl) rfl ?_ ?_
        rotate_left
        ·go_simp
         rfl
        refine hK.out _ _ ⟨((cell_far (p := ⟨gb326, _, none⟩) NB313_326.out _).trans (((cell_far (p := ⟨gb326, _, none⟩) NB313_326.out _).trans (((cell_far (p := ⟨gb326, _, none⟩) NB313_326.out _).trans (hHeld.1)))))), ((cell_far (p := ⟨gb326, _, none⟩) NB313_326.out _).trans (((cell_far (p := ⟨gb326, _, none⟩) NB313_326.out _).trans (((cell_far (p := ⟨gb326, _, none⟩) NB313_326.out _).trans (hHeld.2.1)))))), ((cell_far (p := ⟨gb326, _, none⟩) NB313_326.out _).trans (((cell_far (p := ⟨gb326, _, none⟩) NB313_326.out _).trans (((cell_far (p := ⟨gb326, _, none⟩) NB313_326.out _).trans (hHeld.2.2))))))⟩ (fun hHeld => ?_)
        clear hK K
        refine done_ (by kernel_rfl) ?_
        try go_wp2
        go_loopg [9] k2 (fun kq v9 w' => ∃ (x9_3 : Int) (x327001_3 : List Int) (u327001 : Value), v9 = .int .i64 x9_3 ∧ qS (spec_Reshape.l1 kq l1 t316 x9_3 t323 x327001_3 a0_2 = some (r1, r2, r3, r4)) ∧ qS (kq ≤ k2) ∧ qS (Kd.R (Kd.int .i64) 2 w' w.heap.size (fun k_ => some k_ ≠ (u327001 : Value).ownBlock) (.slice Ao42 t323.length co42) t323) ∧ qS (Kd.R (Kd.int .i64) 2 w' w.heap.size (fun k_ => some k_ ≠ ((.slice Ao42 t323.length co42) : Value).ownBlock) u327001 x327001_3) ∧ qS (w'.heap[gb313]? = some (.cells #[(.slice A0_0 l0_0.length c0_0), (.slice A0_1 l0_1.length c0_1), .int .i64 a0_2] 32 (0, 0))) ∧ qS (w'.heap[gb314]? = some (.cells #[.int .i64 x315000_2, (.slice none 0 0), (.slice none 0 0), .int .i64 x315003_2] 53 (0, 0))) ∧ qS (w'.heap[gb326]? = some (.cells #[(.slice Ao42 t323.length co42), u327001, .int .i64 a0_2] 32 (0, 0))) ∧ qS (Below w.heap.size w w'))
        case atStart => exact ⟨(0), (([] : List Int)), (.slice none 0 0), rf, H', ⟨Nat.le_refl _⟩, ⟨rT (Kd.qZ (Kd.R_far (p := ⟨gb326, 2, none⟩) (Kd.R_far (p := ⟨gb326, 1, none⟩) (Kd.R_far (p := ⟨gb326, 0, none⟩) (Kd.R_types HO325.out BK326.out (by decide)) (fun _ hk => hk.2) (.slice Ao42 t323.length co42)) (fun _ hk => hk.2) (.slice none 0 0)) (fun _ hk => hk.2) (.int .i64 a0_2)) (fun _ hk => (by simp [Value.ownBlock])))⟩, ⟨rN⟩, ⟨bQ BK313⟩, ⟨bQ BK314⟩, ⟨bQ BK326⟩, ⟨lS HB⟩⟩
        case round =>
         clear H'
         (try clear c1); (try clear c23); (try clear c23b0); (try clear hfz21_0); (try clear hfz21_1); (try clear hfz21_2)
         obtain ⟨x9_3, x327001_3, u327001, rfl, HA, HK3, HO_327000, HO_327001, BK313, BK314, BK326, HB⟩ := hrel
         cases gk with
         | zero => exact absurd HA.out (by simp [spec_Reshape.l1])
         | succ k3 =>
          have H := HA.out
          clear HA
          simp only [spec_Reshape.l1] at H
          by_cases c46 : x9_3 < (l1.length : Int)
          ·rw [if_pos c46] at H
           have c46b0 : decide (x9_3 < (l1.length : Int)) = true := decide_eq_true c46
           clear c46
           have H' := qS.mk H
           clear H
           go_wp2
           go_loopg [10, 11] k3 (fun kq v10 v11 w' => ∃ (x10_4 : Int) (x11_4 : Int), v10 = .int .i64 x10_4 ∧ v11 = .int .i64 x11_4 ∧ qS (spec_Reshape.l2 kq l1 t316 x9_3 x10_4 x11_4 t323 x327001_3 a0_2 = some (r1, r2, r3, r4)) ∧ qS (kq ≤ k3) ∧ qS (Kd.R (Kd.int .i64) 2 w' w.heap.size (fun k_ => some k_ ≠ (u327001 : Value).ownBlock) (.slice Ao42 t323.length co42) t323) ∧ qS (Kd.R (Kd.int .i64) 2 w' w.heap.size (fun k_ => some k_ ≠ ((.slice Ao42 t323.length co42) : Value).ownBlock) u327001 x327001_3) ∧ qS (w'.heap[gb313]? = some (.cells #[(.slice A0_0 l0_0.length c0_0), (.slice A0_1 l0_1.length c0_1), .int .i64 a0_2] 32 (0, 0))) ∧ qS (w'.heap[gb314]? = some (.cells #[.int .i64 x315000_2, (.slice none 0 0), (.slice none 0 0), .int .i64 x315003_2] 53 (0, 0))) ∧ qS (w'.heap[gb326]? = some (.cells #[(.slice Ao42 t323.length co42), u327001, .int .i64 a0_2] 32 (0, 0))) ∧ qS (Below w.heap.size w w'))
           case atStart => exact ⟨(1), (wrap64 (x9_3 + 1)), rf, rf, H', ⟨Nat.le_refl _⟩, ⟨rS HO_327000⟩, ⟨rS HO_327001⟩, ⟨bS BK313⟩, ⟨bS BK314⟩, ⟨bS BK326⟩, ⟨lS HB⟩⟩
           case round =>
            clear H'
            (try clear c1); (try clear c4); (try clear c23); (try clear c23b0); (try clear c46); (try clear c46b0); (try clear hfz21_0); (try clear hfz21_1); (try clear hfz21_2)
            obtain ⟨x10_4, x11_4, rfl, rfl, HA, HK4, HO_327000, HO_327001, BK313, BK314, BK326, HB⟩ := hrel
            cases gk with
            | zero => exact absurd HA.out (by simp [spec_Reshape.l2])
            | succ k4 =>
             have H := HA.out
             clear HA
             simp only [spec_Reshape.l2] at H
             by_cases c47 : x11_4 < (l1.length : Int)
             ·rw [if_pos c47] at H
              have c47b0 : decide (x11_4 < (l1.length : Int)) = true := decide_eq_true c47
              clear c47
              replace H := gN H
              obtain ⟨c48, H⟩ := H
              have c48b0 : decide (0 ≤ x11_4) = true := decide_eq_true c48
              clear c48
              have H' := qS.mk H
              clear H
              obtain ⟨ad327, e327, hx327_0, -, p327, q327⟩ := aI HR1 HB x11_4
              cases e327
              go_wp2
              go_roundg k4
              case measure => have := HJ5.out; have := HK2.out; have := HK3.out; have := HK4.out; omega
              case rel => exact ⟨(wrap64 (x10_4 * (rd l1 x11_4))), (wrap64 (x11_4 + 1)), rf, rf, H', ⟨by have := HJ5.out; have := HK2.out; have := HK3.out; have := HK4.out; omega⟩, ⟨rS HO_327000⟩, ⟨rS HO_327001⟩, ⟨bS BK313⟩, ⟨bS BK314⟩, ⟨bS BK326⟩, ⟨lS HB⟩⟩
             ·rw [if_neg c47] at H
              have c47b0 : decide (x11_4 < (l1.length : Int)) = false := decide_eq_false c47
              clear c47
              by_cases c49 : t316 = 0
              ·rw [if_pos c49] at H
               have c49b0 : (t316 == 0) = true := beq_iff_eq.mpr c49
               have c49b1 : (t316 != 0) = false := bne_eq_false_iff_eq.mpr c49
               clear c49
               replace H := gN H
               obtain ⟨c50, H⟩ := H
               have LMc50 := qS.mk c50
               clear c50
               obtain ⟨y328, hy328⟩ : ∃ y_ : List Int, y_ = (x327001_3 ++ [0]) := ⟨_, rfl⟩
               replace H : (spec_Reshape.l1 k4 l1 t316 (wrap64 (x9_3 + 1)) t323 y328 a0_2) = some (r1, r2, r3, r4) := by first | (rw [hy328]; with_reducible exact H) | (have H2_ := (Option.bind_some _ _).symm.trans H; rw [hy328]; with_reducible exact H2_) | (have H2_ := (Option.bind_some _ _).symm.trans H; with_reducible exact H2_) | with_reducible exact H | (rw [hy328]; exact H) | exact H
               have Ny328 := qS.mk hy328
               clear hy328
               have H' := qS.mk H
               clear H
               have hnb51 := NB326_313.out
               have hnc51 := NB313_326.out
               have hnb52 := NB326_314.out
               have hnc52 := NB314_326.out
               obtain ⟨hcz53_0, hcz53_1, hcz53_2, hfz53_0, hfz53_1, hfz53_2⟩ := bx3 BK326
               go_wp2_with (first | ((with_reducible refine gate_builtin (b := .append) (xs := #[.tmp 76, .tmp 78]) rfl ?_); at_builtin; refine Kd.R_append (Kd.int .i64) (w0 := w) w.heap.size rfl (.tmp 76) (.tmp 78) 27 2 (.int .i64 0) 8 rfl Try.underlying27 info2 rfl (by decide) (by omega) u327001 x327001_3 0 [.int .i64 0] (fun k_ => some k_ ≠ (.slice Ao42 t323.length co42 : Value).ownBlock) (fun _ => False) rfl rfl ?aP (fun _ hk => hk.elim) ?aF ?aO ?aB ?aS ?aL ?_; (case aP => exact rfl); (case aB => exact (lS HB)); (case aF => exact (fun k_ hk => Kd.fresh' (Kd.R_lt (rS HO_327000)) k_ hk)); (case aO => exact (rS HO_327001)); (case aS => exact (qF (lS HB))); (case aL => have := LMc50.out; omega); intro v329 w54 ho hb hg hat; rw [← Ny328.out] at ho; have HO330 := qS.mk (ho); replace HO_327000 := qS.mk (Kd.R_after (ok := (fun _ => True)) (rT (Kd.qZ HO_327000.out (fun _ hk => ⟨trivial, hk⟩))) hg hat); replace BK313 := gB BK313 hg (Kd.R_ne HO_327001.out BK313.out (by decide)); replace BK314 := gB BK314 hg (Kd.R_ne HO_327001.out BK314.out (by decide)); replace BK326 := gB BK326 hg (Kd.R_ne HO_327001.out BK326.out (by decide)); replace HB := qS.mk (hb); clear HO_327001 ho hb hg hat; obtain ⟨Ao55, co55, eo55⟩ := Kd.qX HO330.out; subst eo55; obtain ⟨hcz56_0, hcz56_1, hcz56_2, hfz56_0, hfz56_1, hfz56_2⟩ := bx3 BK326))
               go_roundg k4
               case measure => have := HJ5.out; have := HK2.out; have := HK3.out; have := HK4.out; omega
               case rel => exact ⟨(wrap64 (x9_3 + 1)), (y328), (.slice Ao55 y328.length co55), rf, H', ⟨by have := HJ5.out; have := HK2.out; have := HK3.out; have := HK4.out; omega⟩, ⟨rF HO_327000 BK326⟩, ⟨rF HO330 BK326⟩, ⟨bQ BK313⟩, ⟨bQ BK314⟩, ⟨bQ BK326⟩, ⟨lS HB⟩⟩
              ·rw [if_neg c49] at H
               have c49b0 : (t316 == 0) = false := beq_eq_false_iff_ne.mpr c49
               have c49b1 : (t316 != 0) = true := bne_iff_ne.mpr c49
               replace H := gN H
               obtain ⟨c57, H⟩ := H
               have LMc57 := qS.mk c57
               clear c57
               obtain ⟨y331, hy331⟩ : ∃ y_ : List Int, y_ = (x327001_3 ++ [x10_4]) := ⟨_, rfl⟩
               replace H : (spec_Reshape.l1 k4 l1 t316 (wrap64 (x9_3 + 1)) t323 y331 a0_2) = some (r1, r2, r3, r4) := by first | (rw [hy331]; with_reducible exact H) | (have H2_ := (Option.bind_some _ _).symm.trans H; rw [hy331]; with_reducible exact H2_) | (have H2_ := (Option.bind_some _ _).symm.trans H; with_reducible exact H2_) | with_reducible exact H | (rw [hy331]; exact H) | exact H
               have Ny331 := qS.mk hy331
               clear hy331
               have H' := qS.mk H
               clear H
               have hnb58 := NB326_313.out
               have hnc58 := NB313_326.out
               have hnb59 := NB326_314.out
               have hnc59 := NB314_326.out
               obtain ⟨hcz60_0, hcz60_1, hcz60_2, hfz60_0, hfz60_1, hfz60_2⟩ := bx3 BK326
               go_wp2_with (first | ((with_reducible refine gate_builtin (b := .append) (xs := #[.tmp 76, .tmp 78]) rfl ?_); at_builtin; refine Kd.R_append (Kd.int .i64) (w0 := w) w.heap.size rfl (.tmp 76) (.tmp 78) 27 2 (.int .i64 0) 8 rfl Try.underlying27 info2 rfl (by decide) (by omega) u327001 x327001_3 x10_4 [.int .i64 x10_4] (fun k_ => some k_ ≠ (.slice Ao42 t323.length co42 : Value).ownBlock) (fun _ => False) rfl rfl ?aP (fun _ hk => hk.elim) ?aF ?aO ?aB ?aS ?aL ?_; (case aP => exact rfl); (case aB => exact (lS HB)); (case aF => exact (fun k_ hk => Kd.fresh' (Kd.R_lt (rS HO_327000)) k_ hk)); (case aO => exact (rS HO_327001)); (case aS => exact (qF (lS HB))); (case aL => have := LMc57.out; omega); intro v332 w61 ho hb hg hat; rw [← Ny331.out] at ho; have HO333 := qS.mk (ho); replace HO_327000 := qS.mk (Kd.R_after (ok := (fun _ => True)) (rT (Kd.qZ HO_327000.out (fun _ hk => ⟨trivial, hk⟩))) hg hat); replace BK313 := gB BK313 hg (Kd.R_ne HO_327001.out BK313.out (by decide)); replace BK314 := gB BK314 hg (Kd.R_ne HO_327001.out BK314.out (by decide)); replace BK326 := gB BK326 hg (Kd.R_ne HO_327001.out BK326.out (by decide)); replace HB := qS.mk (hb); clear HO_327001 ho hb hg hat; obtain ⟨Ao62, co62, eo62⟩ := Kd.qX HO333.out; subst eo62; obtain ⟨hcz63_0, hcz63_1, hcz63_2, hfz63_0, hfz63_1, hfz63_2⟩ := bx3 BK326))
               go_roundg k4
               case measure => have := HJ5.out; have := HK2.out; have := HK3.out; have := HK4.out; omega
               case rel => exact ⟨(wrap64 (x9_3 + 1)), (y331), (.slice Ao62 y331.length co62), rf, H', ⟨by have := HJ5.out; have := HK2.out; have := HK3.out; have := HK4.out; omega⟩, ⟨rF HO_327000 BK326⟩, ⟨rF HO333 BK326⟩, ⟨bQ BK313⟩, ⟨bQ BK314⟩, ⟨bQ BK326⟩, ⟨lS HB⟩⟩
          ·rw [if_neg c46] at H
           have c46b0 : decide (x9_3 < (l1.length : Int)) = false := decide_eq_false c46
           clear c46
           simp only [Option.some.injEq, Prod.mk.injEq] at H
           obtain ⟨rfl, rfl, rfl, rfl⟩ := H
           have hnb64 := NB326_313.out
           have hnc64 := NB313_326.out
           have hnb65 := NB326_314.out
           have hnc65 := NB314_326.out
           obtain ⟨hcz66_0, hcz66_1, hcz66_2, hfz66_0, hfz66_1, hfz66_2⟩ := bx3 BK326
           obtain ⟨Ao67, co67, eo67⟩ := Kd.qX HO_327001.out
           subst eo67
           have hnb68 := NB314_313.out
           have hnc68 := NB313_314.out
           obtain ⟨hcz69_0, hcz69_1, hcz69_2, hcz69_3, hfz69_0, hfz69_1, hfz69_2, hfz69_3⟩ := bx4 BK314
           go_wp2
           refine bodyPost_ret (rC gb314 53 #[.int .i64 0, .slice Ao42 t323.length co42, .slice Ao67 x327001_3.length co67, .int .i64 a0_2] (bQ BK314) Try.underlying53) rfl ?_
           exact ⟨_, _, rg, rF HO_327000 BK314, rF HO_327001 BK314, lS HB⟩
 ·replace c4 := Bool.eq_false_iff.mpr c4
  subst c4
  rw [if_neg (show ¬ (false = true) by decide)] at H
  simp only [Option.some.injEq, Prod.mk.injEq] at H
  obtain ⟨rfl, rfl, rfl, rfl⟩ := H
  go_enter Try.func68, Try.ntmps68
  go_wp2_with (first | ((with_reducible refine gate_dst (N := 2) rfl ?_); refine bE #[.slice A0_0 l0_0.length c0_0, .slice A0_1 l0_1.length c0_1, .int .i64 a0_2] 32 ?_; intro gb313 hg w70 hbox hb; have BK313 := qS.mk (hbox); have GW313 := mG HB hg; have GE313 := mG HB hg; replace HB := mS HB hb; clear hb hbox hg) | ((with_reducible refine gate_dst (N := 4) rfl ?_); refine bE #[.int .i64 0, .slice none 0 0, .slice none 0 0, .int .i64 0] 53 ?_; intro gb314 hg w71 hbox hb; have BK314 := qS.mk (hbox); have GW314 := mG HB hg; have GE314 := mG HB hg; have NB313_314 := mN BK313 hg; have NB314_313 := mM BK313 hg; replace BK313 := mB BK313 hb; replace HB := mS HB hb; clear hb hbox hg; have hnb72 := NB313_314.out; have hnc72 := NB314_313.out; obtain ⟨hcz73_0, hcz73_1, hcz73_2, hfz73_0, hfz73_1, hfz73_2⟩ := bx3 BK313) | ((with_reducible refine gate_callee (f := 24) rfl ?_); refine gL (some 13) Try.func24 #[.agg #[.slice A0_0 l0_0.length c0_0, .slice A0_1 l0_1.length c0_1, .int .i64 a0_2]] ?_; (with_reducible refine (zH.calls k _ _ l0_0 _ _ l0_1 a0_2 false _ (cS (Kd.qW HR0_0.out HB.out)) HC0_0.out (cS (Kd.qW HR0_1.out HB.out)) HC0_1.out A3.out).mono ?_); rintro e w74 ⟨rfl, hb⟩; refine ⟨_, rfl, ?_⟩; replace BK313 := mB BK313 hb; replace BK314 := mB BK314 hb; replace HB := mS HB hb; (try clear hb); (try clear hb2); (try clear hk); (try clear hi); obtain ⟨hcz75_0, hcz75_1, hcz75_2, hcz75_3, hfz75_0, hfz75_1, hfz75_2, hfz75_3⟩ := bx4 BK314))
  refine bodyPost_ret (rC gb314 53 #[.int .i64 12, .slice none 0 0, .slice none 0 0, .int .i64 0] (bQ BK314) Try.underlying53) rfl ?_
  exact ⟨_, _, rg, rN, rN, lS HB⟩

end Go.Proofs.Ytpmdgmnpkdoamaa.DFnViews
