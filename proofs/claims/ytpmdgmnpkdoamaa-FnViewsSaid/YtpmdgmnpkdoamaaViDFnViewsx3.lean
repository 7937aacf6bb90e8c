/- Proved here: what the functions answer that the law on  comes to (the lines were written by a program). Conditions: those that stand ahead in each theorem. -/
import Derived.Test.YtpmdgmnpkdoamaaViWSq
import Derived.Test.YtpmdgmnpkdoamaaViDFnViewsx0
import Derived.Test.YtpmdgmnpkdoamaaViDFnViewsx2
namespace Go.Proofs.Ytpmdgmnpkdoamaa.DFnViews
open Go.RowKit Go.Proofs.YtpmdgmnpkdoamaaW.PrintWords Go.Proofs.YtpmdgmnpkdoamaaW.PrintLast Go.Proofs.YtpmdgmnpkdoamaaW.PrintMore
attribute [local go_sem] max2_int min2_int max_two min_two max_three min_three max_four min_four   -- for this text's walks alone
set_option linter.unusedVariables false
set_option linter.unusedSimpArgs false

mutual
def spec_Transpose.l0 : Nat → List Int → Int → List Int → List Int → Int → List Int → List Int → Int → Option (Int × List Int × List Int × Int)
 | 0, _, _, _, _, _, _, _, _ => none
 | k + 1, x1, x6, x129000, x129001, x129002, x132000, x132001, x132002 => if x6 < (x1.length : Int) then (if 0 ≤ x6 then (if (rd x1 x6) < 0 then (spec_Transpose.j1 k x1 x6 true x129000 x129001 x129002 x132000 x132001 x132002) else (spec_Transpose.j1 k x1 x6 (decide ((rd x1 x6) ≥ (x1.length : Int))) x129000 x129001 x129002 x132000 x132001 x132002)) else (none)) else (some (0, x132000, x132001, x132002))
def spec_Transpose.j1 : Nat → List Int → Int → Bool → List Int → List Int → Int → List Int → List Int → Int → Option (Int × List Int × List Int × Int)
 | 0, _, _, _, _, _, _, _, _, _ => none
 | k + 1, x1, x6, x41, x129000, x129001, x129002, x132000, x132001, x132002 => if x41 = true then (some (5, ([] : List Int), ([] : List Int), 0)) else (spec_Transpose.l1 k x1 x6 0 x129000 x129001 x129002 x132000 x132001 x132002)
def spec_Transpose.l1 : Nat → List Int → Int → Int → List Int → List Int → Int → List Int → List Int → Int → Option (Int × List Int × List Int × Int)
 | 0, _, _, _, _, _, _, _, _, _ => none
 | k + 1, x1, x6, x7, x129000, x129001, x129002, x132000, x132001, x132002 => if x7 < x6 then (if 0 ≤ x7 then (if x7 < (x1.length : Int) then (if 0 ≤ x6 then (if x6 < (x1.length : Int) then (if (rd x1 x7) = (rd x1 x6) then (some (5, ([] : List Int), ([] : List Int), 0)) else (spec_Transpose.l1 k x1 x6 (wrap64 (x7 + 1)) x129000 x129001 x129002 x132000 x132001 x132002)) else (none)) else (none)) else (none)) else (none)) else (if 0 ≤ x6 then (if x6 < (x1.length : Int) then (if 0 ≤ (rd x1 x6) then (if (rd x1 x6) < (x129000.length : Int) then (if x132000.length < 17592186044416 then (if (rd x1 x6) < (x129001.length : Int) then (if x132001.length < 17592186044416 then (spec_Transpose.l0 k x1 (wrap64 (x6 + 1)) x129000 x129001 x129002 (x132000 ++ [rd x129000 (rd x1 x6)]) (x132001 ++ [rd x129001 (rd x1 x6)]) x132002) else (none)) else (none)) else (none)) else (none)) else (none)) else (none)) else (none))
end
def spec_Transpose.f (k : Nat) (l0_0 : List Int) (l0_1 : List Int) (a0_2 : Int) (l1 : List Int) : Option (Int × List Int × List Int × Int) := (zH.f k l0_0 l0_1 a0_2).bind fun t130 => (if t130 = true then (if (l1.length : Int) = (l0_0.length : Int) then (spec_Transpose.l0 k l1 0 l0_0 l0_1 a0_2 ([] : List Int) ([] : List Int) a0_2) else (some (5, ([] : List Int), ([] : List Int), 0))) else (some (12, ([] : List Int), ([] : List Int), 0)))
theorem spec_Transpose.mono_l : ∀ k, (∀ y0 y1 y2 y3 y4 y5 y6 y7, LeO (spec_Transpose.l0 k y0 y1 y2 y3 y4 y5 y6 y7) (spec_Transpose.l0 (k + 1) y0 y1 y2 y3 y4 y5 y6 y7)) ∧ (∀ y0 y1 y2 y3 y4 y5 y6 y7 y8, LeO (spec_Transpose.j1 k y0 y1 y2 y3 y4 y5 y6 y7 y8) (spec_Transpose.j1 (k + 1) y0 y1 y2 y3 y4 y5 y6 y7 y8)) ∧ (∀ y0 y1 y2 y3 y4 y5 y6 y7 y8, LeO (spec_Transpose.l1 k y0 y1 y2 y3 y4 y5 y6 y7 y8) (spec_Transpose.l1 (k + 1) y0 y1 y2 y3 y4 y5 y6 y7 y8))
 | 0 => ⟨fun _ _ _ _ _ _ _ _ r h => by simp [spec_Transpose.l0] at h, fun _ _ _ _ _ _ _ _ _ r h => by simp [spec_Transpose.j1] at h, fun _ _ _ _ _ _ _ _ _ r h => by simp [spec_Transpose.l1] at h⟩
 | k + 1 => by
  obtain ⟨ih0, ih1, ih2⟩ := spec_Transpose.mono_l k
  refine ⟨?_, ?_, ?_⟩
  ·intro y0 y1 y2 y3 y4 y5 y6 y7
   unfold spec_Transpose.l0
   repeat' first
   | (with_reducible exact ih0 _ _ _ _ _ _ _ _)
   | (with_reducible exact ih1 _ _ _ _ _ _ _ _ _)
   | (with_reducible exact ih2 _ _ _ _ _ _ _ _ _)
   | (with_reducible exact zH.mono _ _ _ _)
   | (with_reducible exact LeO.refl _)
   | (with_reducible exact LeO.none _)
   | (with_reducible refine LeO.ite ?_ ?_)
   | (with_reducible refine LeO.bind ?_ (fun _ => ?_))
   | exact ih0 _ _ _ _ _ _ _ _
   | exact ih1 _ _ _ _ _ _ _ _ _
   | exact ih2 _ _ _ _ _ _ _ _ _
   | exact zH.mono _ _ _ _
   | exact LeO.none _
   | refine LeO.ite ?_ ?_
   | refine LeO.bind ?_ (fun _ => ?_)
  ·intro y0 y1 y2 y3 y4 y5 y6 y7 y8
   unfold spec_Transpose.j1
   repeat' first
   | (with_reducible exact ih0 _ _ _ _ _ _ _ _)
   | (with_reducible exact ih1 _ _ _ _ _ _ _ _ _)
   | (with_reducible exact ih2 _ _ _ _ _ _ _ _ _)
   | (with_reducible exact zH.mono _ _ _ _)
   | (with_reducible exact LeO.refl _)
   | (with_reducible exact LeO.none _)
   | (with_reducible refine LeO.ite ?_ ?_)
   | (with_reducible refine LeO.bind ?_ (fun _ => ?_))
   | exact ih0 _ _ _ _ _ _ _ _
   | exact ih1 _ _ _ _ _ _ _ _ _
   | exact ih2 _ _ _ _ _ _ _ _ _
   | exact zH.mono _ _ _ _
   | exact LeO.none _
   | refine LeO.ite ?_ ?_
   | refine LeO.bind ?_ (fun _ => ?_)
  ·intro y0 y1 y2 y3 y4 y5 y6 y7 y8
   unfold spec_Transpose.l1
   repeat' first
   | (with_reducible exact ih0 _ _ _ _ _ _ _ _)
   | (with_reducible exact ih1 _ _ _ _ _ _ _ _ _)
   | (with_reducible exact ih2 _ _ _ _ _ _ _ _ _)
   | (with_reducible exact zH.mono _ _ _ _)
   | (with_reducible exact LeO.refl _)
   | (with_reducible exact LeO.none _)
   | (with_reducible refine LeO.ite ?_ ?_)
   | (with_reducible refine LeO.bind ?_ (fun _ => ?_))
   | exact ih0 _ _ _ _ _ _ _ _
   | exact ih1 _ _ _ _ _ _ _ _ _
   | exact ih2 _ _ _ _ _ _ _ _ _
   | exact zH.mono _ _ _ _
   | exact LeO.none _
   | refine LeO.ite ?_ ?_
   | refine LeO.bind ?_ (fun _ => ?_)
theorem spec_Transpose.mono : ∀ a0 a1 a2 a3 k, LeO (spec_Transpose.f k a0 a1 a2 a3) (spec_Transpose.f (k + 1) a0 a1 a2 a3) := by
 intro a0 a1 a2 a3 k
 obtain ⟨ih0, ih1, ih2⟩ := spec_Transpose.mono_l k
 unfold spec_Transpose.f
 repeat' first
   | (with_reducible exact ih0 _ _ _ _ _ _ _ _)
   | (with_reducible exact ih1 _ _ _ _ _ _ _ _ _)
   | (with_reducible exact ih2 _ _ _ _ _ _ _ _ _)
   | (with_reducible exact zH.mono _ _ _ _)
   | (with_reducible exact LeO.refl _)
   | (with_reducible exact LeO.none _)
   | (with_reducible refine LeO.ite ?_ ?_)
   | (with_reducible refine LeO.bind ?_ (fun _ => ?_))
   | exact ih0 _ _ _ _ _ _ _ _
   | exact ih1 _ _ _ _ _ _ _ _ _
   | exact ih2 _ _ _ _ _ _ _ _ _
   | exact zH.mono _ _ _ _
   | exact LeO.none _
   | refine LeO.ite ?_ ?_
   | refine LeO.bind ?_ (fun _ => ?_)
def spec_Transpose.T14 : Bool × List (List Nat × List Nat) := (true, [([], []), ([], []), ([0, 1], [0, 1]), ([2], [2]), ([], []), ([], []), ([4, 5], [4, 5]), ([6], [6]), ([3, 7], [3, 7])])
def spec_Transpose.B14 : List Nat := [0, 0, 3, 7, 0, 0, 48, 112, 255]
theorem spec_Transpose.tab14 : rtab .any (opsOf Try.f49 14) = spec_Transpose.T14 := by kernel_rfl
theorem spec_Transpose.bits14 : waitsOk spec_Transpose.T14.2 spec_Transpose.B14 = true := by kernel_rfl
def spec_Transpose.T16 : Bool × List (List Nat × List Nat) := (true, [([], []), ([0], [0]), ([], []), ([2], [2]), ([], []), ([], []), ([4, 5], [4, 5]), ([6], [6]), ([3, 7], [3, 7]), ([8], [8]), ([9], [9]), ([1, 10], [1, 10]), ([0, 1, 2, 3, 4, 5, 6, 7, 8, 9, 10, 11], []), ([12, 11, 11, 0, 1, 2, 3, 4, 5, 6, 7, 8, 9, 10, 11], [11, 12])])
def spec_Transpose.B16 : List Nat := [0, 1, 0, 4, 0, 0, 48, 112, 252, 508, 1020, 2047, 4095, 8191]
theorem spec_Transpose.tab16 : rtab .any (opsOf Try.f49 16) = spec_Transpose.T16 := by kernel_rfl
theorem spec_Transpose.bits16 : waitsOk spec_Transpose.T16.2 spec_Transpose.B16 = true := by kernel_rfl
def spec_Transpose.T17 : Bool × List (List Nat × List Nat) := (true, [([], []), ([0], [0]), ([], []), ([2], [2]), ([], []), ([], []), ([4, 5], [4, 5]), ([6], [6]), ([3, 7], [3, 7]), ([8], [8]), ([9], [9]), ([1, 10], [1, 10]), ([0, 1, 2, 3, 4, 5, 6, 7, 8, 9, 10, 11], []), ([12, 11, 11, 0, 1, 2, 3, 4, 5, 6, 7, 8, 9, 10, 11], [11, 12])])
def spec_Transpose.B17 : List Nat := [0, 1, 0, 4, 0, 0, 48, 112, 252, 508, 1020, 2047, 4095, 8191]
theorem spec_Transpose.tab17 : rtab .any (opsOf Try.f49 17) = spec_Transpose.T17 := by kernel_rfl
theorem spec_Transpose.bits17 : waitsOk spec_Transpose.T17.2 spec_Transpose.B17 = true := by kernel_rfl
set_option maxHeartbeats 8000000 in
set_option maxRecDepth 100000 in
theorem spec_Transpose.calls (k : Nat) (A0_0 : Option Addr) (c0_0 : Nat) (l0_0 : List Int) (A0_1 : Option Addr) (c0_1 : Nat) (l0_1 : List Int) (a0_2 : Int) (A1 : Option Addr) (c1 : Nat) (l1 : List Int) (r1 : Int) (r2 : List Int) (r3 : List Int) (r4 : Int) (w : World) (hr0_0 : Kd.C (Kd.int .i64) w A0_0 l0_0.length l0_0) (hc0_0 : l0_0.length ≤ c0_0) (hr0_1 : Kd.C (Kd.int .i64) w A0_1 l0_1.length l0_1) (hc0_1 : l0_1.length ≤ c0_1) (hr1 : Kd.C (Kd.int .i64) w A1 l1.length l1) (hc1 : l1.length ≤ c1) (h : spec_Transpose.f k l0_0 l0_1 a0_2 l1 = some (r1, r2, r3, r4)) :
  Calls Try.prog 49 #[.agg #[.slice A0_0 l0_0.length c0_0, .slice A0_1 l0_1.length c0_1, .int .i64 a0_2], .slice A1 l1.length c1] w fun e w' => ∃ v1_ v2_ : Value, e = .returned (.agg #[.int .i64 r1, v1_, v2_, .int .i64 r4]) ∧ Kd.R (Kd.int .i64) 2 w' w.heap.size (fun k_ => some k_ ≠ (v2_ : Value).ownBlock) v1_ r2 ∧ Kd.R (Kd.int .i64) 2 w' w.heap.size (fun k_ => some k_ ≠ (v1_ : Value).ownBlock) v2_ r3 ∧ Below w.heap.size w w' := by
 have hu32 := Try.underlying32
 have hu53 := Try.underlying53
 have HR0_0 := qS.mk hr0_0
 have HC0_0 := qS.mk hc0_0
 clear hr0_0 hc0_0
 have HR0_1 := qS.mk hr0_1
 have HC0_1 := qS.mk hc0_1
 clear hr0_1 hc0_1
 have HR1 := qS.mk hr1
 have HC1 := qS.mk hc1
 clear hr1 hc1
 have HB := qS.mk (Below.refl w.heap.size w)
 have H : ((zH.f k l0_0 l0_1 a0_2).bind fun t130 => (if t130 = true then (if (l1.length : Int) = (l0_0.length : Int) then (spec_Transpose.l0 k l1 0 l0_0 l0_1 a0_2 ([] : List Int) ([] : List Int) a0_2) else (some (5, ([] : List Int), ([] : List Int), 0))) else (some (12, ([] : List Int), ([] : List Int), 0)))) = some (r1, r2, r3, r4) := h
 clear h
 replace H := Option.bind_eq_some_iff.mp H
 obtain ⟨t130, A30, H⟩ := H
 try dsimp only at H
 have A3 := qS.mk A30
 clear A30
 by_cases c4 : t130 = true
 ·subst c4
  rw [if_pos rfl] at H
  by_cases c5 : (l1.length : Int) = (l0_0.length : Int)
  ·rw [if_pos c5] at H
   have c5b0 : ((l1.length : Int) == (l0_0.length : Int)) = true := beq_iff_eq.mpr c5
   have c5b1 : ((l1.length : Int) != (l0_0.length : Int)) = false := bne_eq_false_iff_eq.mpr c5
   have c5b2 : (l1.length == l0_0.length) = true := by first | simpa using c5 | (simp at c5 ⊢; omega)
   clear c5
   have H' := qS.mk H
   clear H
   go_enter Try.func49, Try.ntmps49
   go_wp2_with (first | ((with_reducible refine gate_dst (N := 2) rfl ?_); (try (refine gate_guard (by rfl) ?_; dsimp only)); refine bE #[.slice A0_0 l0_0.length c0_0, .slice A0_1 l0_1.length c0_1, .int .i64 a0_2] 32 ?_; intro gb128 hg w6 hbox hb; have BK128 := qS.mk (hbox); have GW128 := mG HB hg; have GE128 := mG HB hg; replace HB := mS HB hb; clear hb hbox hg) | ((with_reducible refine gate_dst (N := 4) rfl ?_); (try (refine gate_guard (by rfl) ?_; dsimp only)); refine bE #[.int .i64 0, .slice none 0 0, .slice none 0 0, .int .i64 0] 53 ?_; intro gb129 hg w7 hbox hb; have BK129 := qS.mk (hbox); have GW129 := mG HB hg; have GE129 := mG HB hg; have NB128_129 := mN BK128 hg; have NB129_128 := mM BK128 hg; replace BK128 := mB BK128 hb; replace HB := mS HB hb; clear hb hbox hg; have hnb8 := NB128_129.out; have hnc8 := NB129_128.out; obtain ⟨hcz9_0, hcz9_1, hcz9_2, hfz9_0, hfz9_1, hfz9_2⟩ := bx3 BK128) | ((with_reducible refine gate_callee (f := 24) rfl ?_); refine gL (some 9) Try.func24 #[.agg #[.slice A0_0 l0_0.length c0_0, .slice A0_1 l0_1.length c0_1, .int .i64 a0_2]] ?_; (with_reducible refine (zH.calls k _ _ l0_0 _ _ l0_1 a0_2 true _ (cS (Kd.qW HR0_0.out HB.out)) HC0_0.out (cS (Kd.qW HR0_1.out HB.out)) HC0_1.out A3.out).mono ?_); rintro e w10 ⟨rfl, hb⟩; refine ⟨_, rfl, ?_⟩; replace BK128 := mB BK128 hb; replace BK129 := mB BK129 hb; replace HB := mS HB hb; (try clear hb); (try clear hb2); (try clear hk); (try clear hi); obtain ⟨hcz11_0, hcz11_1, hcz11_2, hfz11_0, hfz11_1, hfz11_2⟩ := bx3 BK128) | ((with_reducible refine gate_dst (N := 5) rfl ?_); (try (refine gate_guard (by rfl) ?_; dsimp only)); refine bE #[.slice none 0 0, .slice none 0 0, .int .i64 0] 32 ?_; intro gb131 hg w12 hbox hb; have BK131 := qS.mk (hbox); have GW131 := mG HB hg; have GE131 := mG HB hg; have NB128_131 := mN BK128 hg; have NB131_128 := mM BK128 hg; have NB129_131 := mN BK129 hg; have NB131_129 := mM BK129 hg; replace BK128 := mB BK128 hb; replace BK129 := mB BK129 hb; replace HB := mS HB hb; clear hb hbox hg; have hnb13 := NB131_128.out; have hnc13 := NB128_131.out; have hnb14 := NB131_129.out; have hnc14 := NB129_131.out; obtain ⟨hcz15_0, hcz15_1, hcz15_2, hfz15_0, hfz15_1, hfz15_2⟩ := bx3 BK131))
   go_loopg [6] k (fun kq v6 w' => ∃ (x6_1 : Int) (x130000_1 : Int) (x130003_1 : Int) (x132000_1 : List Int) (x132001_1 : List Int) (u132000 : Value) (u132001 : Value), v6 = .int .i64 x6_1 ∧ qS (spec_Transpose.l0 kq l1 x6_1 l0_0 l0_1 a0_2 x132000_1 x132001_1 a0_2 = some (r1, r2, r3, r4)) ∧ qS (kq ≤ k) ∧ qS (Kd.R (Kd.int .i64) 2 w' w.heap.size (fun k_ => some k_ ≠ (u132001 : Value).ownBlock) u132000 x132000_1) ∧ qS (Kd.R (Kd.int .i64) 2 w' w.heap.size (fun k_ => some k_ ≠ (u132000 : Value).ownBlock) u132001 x132001_1) ∧ qS (w'.heap[gb128]? = some (.cells #[(.slice A0_0 l0_0.length c0_0), (.slice A0_1 l0_1.length c0_1), .int .i64 a0_2] 32 (0, 0))) ∧ qS (w'.heap[gb129]? = some (.cells #[.int .i64 x130000_1, (.slice none 0 0), (.slice none 0 0), .int .i64 x130003_1] 53 (0, 0))) ∧ qS (w'.heap[gb131]? = some (.cells #[u132000, u132001, .int .i64 a0_2] 32 (0, 0))) ∧ qS (Below w.heap.size w w'))
   case atStart => exact ⟨(0), (0), (0), (([] : List Int)), (([] : List Int)), (.slice none 0 0), (.slice none 0 0), rf, H', ⟨Nat.le_refl _⟩, ⟨rN⟩, ⟨rN⟩, ⟨bQ BK128⟩, ⟨bQ BK129⟩, ⟨bQ BK131⟩, ⟨lS HB⟩⟩
   case round =>
    clear H'
    (try clear c1); (try clear c4); (try clear c5); (try clear c5b0); (try clear c5b1); (try clear c5b2); (try clear hcz11_0); (try clear hcz11_1); (try clear hcz11_2); (try clear hcz15_0); (try clear hcz15_1); (try clear hcz15_2); (try clear hcz9_0); (try clear hcz9_1); (try clear hcz9_2); (try clear hfz11_0); (try clear hfz11_1); (try clear hfz11_2); (try clear hfz15_0); (try clear hfz15_1); (try clear hfz15_2); (try clear hfz9_0); (try clear hfz9_1); (try clear hfz9_2)
    obtain ⟨x6_1, x130000_1, x130003_1, x132000_1, x132001_1, u132000, u132001, rfl, HA, HK1, HO_132000, HO_132001, BK128, BK129, BK131, HB⟩ := hrel
    cases gk with
    | zero => exact absurd HA.out (by simp [spec_Transpose.l0])
    | succ k1 =>
     have H := HA.out
     clear HA
     simp only [spec_Transpose.l0] at H
     by_cases c16 : x6_1 < (l1.length : Int)
     ·rw [if_pos c16] at H
      have c16b0 : decide (x6_1 < (l1.length : Int)) = true := decide_eq_true c16
      clear c16
      have HC17 := qS.mk H
      clear H
      go_upto_region 9 with (fail)
      go_cut [41] (fun v41 wc => ∃ (kq : Nat) (x41_16 : Bool), v41 = .bool x41_16 ∧ qS (spec_Transpose.j1 kq l1 x6_1 x41_16 l0_0 l0_1 a0_2 x132000_1 x132001_1 a0_2 = some (r1, r2, r3, r4)) ∧ qS (kq ≤ k1) ∧ qS (Kd.R (Kd.int .i64) 2 wc w.heap.size (fun k_ => some k_ ≠ (u132001 : Value).ownBlock) u132000 x132000_1) ∧ qS (Kd.R (Kd.int .i64) 2 wc w.heap.size (fun k_ => some k_ ≠ (u132000 : Value).ownBlock) u132001 x132001_1) ∧ qS (wc.heap[gb128]? = some (.cells #[(.slice A0_0 l0_0.length c0_0), (.slice A0_1 l0_1.length c0_1), .int .i64 a0_2] 32 (0, 0))) ∧ qS (wc.heap[gb129]? = some (.cells #[.int .i64 x130000_1, (.slice none 0 0), (.slice none 0 0), .int .i64 x130003_1] 53 (0, 0))) ∧ qS (wc.heap[gb131]? = some (.cells #[u132000, u132001, .int .i64 a0_2] 32 (0, 0))) ∧ qS (Below w.heap.size w wc))
      case first =>
       have H := HC17.out
       clear HC17
       replace H := gN H
       obtain ⟨c18, H⟩ := H
       have c18b0 : decide (0 ≤ x6_1) = true := decide_eq_true c18
       clear c18
       (first | rw [c18b0] | (simp only [i64_w, i32_w]; rw [c18b0]) | skip)
       by_cases c19 : (rd l1 x6_1) < 0
       ·rw [if_pos c19] at H
        have c19b0 : decide ((rd l1 x6_1) < 0) = true := decide_eq_true c19
        clear c19
        have H' := qS.mk H
        clear H
        obtain ⟨ad132, e132, hx132_0, -, p132, q132⟩ := aI HR1 HB x6_1
        cases e132
        go_wp2
        go_meet
        case rel => exact ⟨_, (true), rf, H', ⟨by have := HK1.out; first | omega | exact Nat.le_refl _⟩, ⟨rS HO_132000⟩, ⟨rS HO_132001⟩, ⟨bS BK128⟩, ⟨bS BK129⟩, ⟨bS BK131⟩, ⟨lS HB⟩⟩
       ·rw [if_neg c19] at H
        have c19b0 : decide ((rd l1 x6_1) < 0) = false := decide_eq_false c19
        clear c19
        have H' := qS.mk H
        clear H
        obtain ⟨ad132, e132, hx132_0, -, p132, q132⟩ := aI HR1 HB x6_1
        cases e132
        obtain ⟨ad133, e133, hx133_0, -, p133, q133⟩ := aI HR1 HB x6_1
        obtain rfl : ad132 = ad133 := (by injection e133)
        go_wp2
        go_meet
        case rel => exact ⟨_, (decide ((rd l1 x6_1) ≥ (l1.length : Int))), rf, H', ⟨by have := HK1.out; first | omega | exact Nat.le_refl _⟩, ⟨rS HO_132000⟩, ⟨rS HO_132001⟩, ⟨bS BK128⟩, ⟨bS BK129⟩, ⟨bS BK131⟩, ⟨lS HB⟩⟩
      case rest =>
       clear HC17
       (try clear c1); (try clear c4); (try clear c5); (try clear c5b0); (try clear c5b1); (try clear c5b2); (try clear c16); (try clear c16b0); (try clear hcz11_0); (try clear hcz11_1); (try clear hcz11_2); (try clear hcz15_0); (try clear hcz15_1); (try clear hcz15_2); (try clear hcz9_0); (try clear hcz9_1); (try clear hcz9_2); (try clear hfz11_0); (try clear hfz11_1); (try clear hfz11_2); (try clear hfz15_0); (try clear hfz15_1); (try clear hfz15_2); (try clear hfz9_0); (try clear hfz9_1); (try clear hfz9_2)
       obtain ⟨kq, x41_16, rfl, HA, HJ16, HO_132000, HO_132001, BK128, BK129, BK131, HB⟩ := hcut
       cases kq with
       | zero => exact absurd HA.out (by simp [spec_Transpose.j1])
       | succ kj16 =>
        have H := HA.out
        clear HA
        simp only [spec_Transpose.j1] at H
        by_cases c20 : x41_16 = true
        ·subst c20
         rw [if_pos rfl] at H
         simp only [Option.some.injEq, Prod.mk.injEq] at H
         obtain ⟨rfl, rfl, rfl, rfl⟩ := H
         have hnb21 := NB129_128.out
         have hnc21 := NB128_129.out
         have hnb22 := NB129_131.out
         have hnc22 := NB131_129.out
         obtain ⟨hcz23_0, hcz23_1, hcz23_2, hcz23_3, hfz23_0, hfz23_1, hfz23_2, hfz23_3⟩ := bx4 BK129
         go_wp2
         refine bodyPost_ret (rC gb129 53 #[.int .i64 5, .slice none 0 0, .slice none 0 0, .int .i64 0] (bQ BK129) Try.underlying53) rfl ?_
         exact ⟨_, _, rg, rN, rN, lS HB⟩
        ·replace c20 := Bool.eq_false_iff.mpr c20
         subst c20
         rw [if_neg (show ¬ (false = true) by decide)] at H
         have H' := qS.mk H
         clear H
         go_wp2
         go_loopg [7] kj16 (fun kq v7 w' => ∃ (x7_3 : Int) (x130000_3 : Int) (x130003_3 : Int), v7 = .int .i64 x7_3 ∧ qS (spec_Transpose.l1 kq l1 x6_1 x7_3 l0_0 l0_1 a0_2 x132000_1 x132001_1 a0_2 = some (r1, r2, r3, r4)) ∧ qS (kq ≤ kj16) ∧ qS (Kd.R (Kd.int .i64) 2 w' w.heap.size (fun k_ => some k_ ≠ (u132001 : Value).ownBlock) u132000 x132000_1) ∧ qS (Kd.R (Kd.int .i64) 2 w' w.heap.size (fun k_ => some k_ ≠ (u132000 : Value).ownBlock) u132001 x132001_1) ∧ qS (w'.heap[gb128]? = some (.cells #[(.slice A0_0 l0_0.length c0_0), (.slice A0_1 l0_1.length c0_1), .int .i64 a0_2] 32 (0, 0))) ∧ qS (w'.heap[gb129]? = some (.cells #[.int .i64 x130000_3, (.slice none 0 0), (.slice none 0 0), .int .i64 x130003_3] 53 (0, 0))) ∧ qS (w'.heap[gb131]? = some (.cells #[u132000, u132001, .int .i64 a0_2] 32 (0, 0))) ∧ qS (Below w.heap.size w w'))
         case atStart => exact ⟨(0), (x130000_1), (x130003_1), rf, H', ⟨Nat.le_refl _⟩, ⟨rS HO_132000⟩, ⟨rS HO_132001⟩, ⟨bS BK128⟩, ⟨bS BK129⟩, ⟨bS BK131⟩, ⟨lS HB⟩⟩
         case round =>
          clear H'
          (try clear c1); (try clear c4); (try clear c5); (try clear c5b0); (try clear c5b1); (try clear c5b2); (try clear c16); (try clear c16b0); (try clear c20); (try clear hcz11_0); (try clear hcz11_1); (try clear hcz11_2); (try clear hcz15_0); (try clear hcz15_1); (try clear hcz15_2); (try clear hcz9_0); (try clear hcz9_1); (try clear hcz9_2); (try clear hfz11_0); (try clear hfz11_1); (try clear hfz11_2); (try clear hfz15_0); (try clear hfz15_1); (try clear hfz15_2); (try clear hfz9_0); (try clear hfz9_1); (try clear hfz9_2)
          obtain ⟨x7_3, x130000_3, x130003_3, rfl, HA, HK3, HO_132000, HO_132001, BK128, BK129, BK131, HB⟩ := hrel
          cases gk with
          | zero => exact absurd HA.out (by simp [spec_Transpose.l1])
          | succ k3 =>
           have H := HA.out
           clear HA
           simp only [spec_Transpose.l1] at H
           by_cases c24 : x7_3 < x6_1
           ·rw [if_pos c24] at H
            have c24b0 : decide (x7_3 < x6_1) = true := decide_eq_true c24
            clear c24
            replace H := gN H
            obtain ⟨c25, H⟩ := H
            have c25b0 : decide (0 ≤ x7_3) = true := decide_eq_true c25
            clear c25
            replace H := gN H
            obtain ⟨c26, H⟩ := H
            have c26b0 : decide (x7_3 < (l1.length : Int)) = true := decide_eq_true c26
            clear c26
            replace H := gN H
            obtain ⟨c27, H⟩ := H
            have c27b0 : decide (0 ≤ x6_1) = true := decide_eq_true c27
            clear c27
            replace H := gN H
            obtain ⟨c28, H⟩ := H
            have c28b0 : decide (x6_1 < (l1.length : Int)) = true := decide_eq_true c28
            clear c28
            by_cases c29 : (rd l1 x7_3) = (rd l1 x6_1)
            ·rw [if_pos c29] at H
             have c29b0 : ((rd l1 x7_3) == (rd l1 x6_1)) = true := beq_iff_eq.mpr c29
             have c29b1 : ((rd l1 x7_3) != (rd l1 x6_1)) = false := bne_eq_false_iff_eq.mpr c29
             clear c29
             simp only [Option.some.injEq, Prod.mk.injEq] at H
             obtain ⟨rfl, rfl, rfl, rfl⟩ := H
             try go_wp2
             replace HO_132000 := rD HO_132000; replace HO_132001 := rD HO_132001; replace BK128 := bD BK128; replace BK129 := bD BK129; replace BK131 := bD BK131; replace HB := lD HB
             obtain ⟨ad134, e134, hx134_0, hw134_0, p134, q134⟩ := aI HR1 HB x7_3
             cases e134
             obtain ⟨ad135, e135, hx135_0, hw135_0, p135, q135⟩ := aI HR1 HB x6_1
             obtain rfl : ad134 = ad135 := (by injection e135)
             refine start_ (n := 9) (S := fun w' => w'.cell? (ad134.add (x7_3).toNat) = some (.int .i64 (rd l1 x7_3)) ∧ w'.cell? (ad134.add (x6_1).toNat) = some (.int .i64 (rd l1 x6_1))) (ds := []) (bs 9 0) (by kernel_rfl) rfl rfl ⟨(cU HB hw134_0), (cU HB hw135_0)⟩ (fun hHeld => ?_); refine with_tabW spec_Transpose.tab14 spec_Transpose.bits14 (fun HT_ HW_ => ?_)
             generalize wr.drew = w30 at HO_132000 HO_132001 BK128 BK129 BK131 HB hx134_0 hx135_0 hHeld ⊢
             refine pS 0 48 (bs 9 1) HT_ ?_
             refine pS 1 49 (bs 9 3) HT_ ?_
             refine pS 2 50 (bs 9 7) HT_ ?_
             refine pS 4 52 (bs 9 23) HT_ ?_
             refine pS 5 53 (bs 9 55) HT_ ?_
             refine pS 6 54 (bs 9 119) HT_ ?_
             refine tS 3 51 (bs 9 127) HT_ HW_ hHeld ?_
             refine tS 7 55 (bs 9 255) HT_ HW_ hHeld ?_
             refine pS 8 56 (bs 9 511) HT_ ?_
             refine done_ (done_of HT_.out (by kernel_rfl)) ?_
             have hnb31 := NB129_128.out
             have hnc31 := NB128_129.out
             have hnb32 := NB129_131.out
             have hnc32 := NB131_129.out
             obtain ⟨hcz33_0, hcz33_1, hcz33_2, hcz33_3, hfz33_0, hfz33_1, hfz33_2, hfz33_3⟩ := bx4 BK129
             try go_wp2
             refine bodyPost_ret (rC gb129 53 #[.int .i64 5, .slice none 0 0, .slice none 0 0, .int .i64 0] (bQ BK129) Try.underlying53) rfl ?_
             exact ⟨_, _, rg, rN, rN, lS HB⟩
            ·rw [if_neg c29] at H
             have c29b0 : ((rd l1 x7_3) == (rd l1 x6_1)) = false := beq_eq_false_iff_ne.mpr c29
             have c29b1 : ((rd l1 x7_3) != (rd l1 x6_1)) = true := bne_iff_ne.mpr c29
             have H' := qS.mk H
             clear H
             try go_wp2
             replace HO_132000 := rD HO_132000; replace HO_132001 := rD HO_132001; replace BK128 := bD BK128; replace BK129 := bD BK129; replace BK131 := bD BK131; replace HB := lD HB
             obtain ⟨ad134, e134, hx134_0, hw134_0, p134, q134⟩ := aI HR1 HB x7_3
             cases e134
             obtain ⟨ad135, e135, hx135_0, hw135_0, p135, q135⟩ := aI HR1 HB x6_1
             obtain rfl : ad134 = ad135 := (by injection e135)
             refine start_ (n := 9) (S := fun w' => w'.cell? (ad134.add (x7_3).toNat) = some (.int .i64 (rd l1 x7_3)) ∧ w'.cell? (ad134.add (x6_1).toNat) = some (.int .i64 (rd l1 x6_1))) (ds := []) (bs 9 0) (by kernel_rfl) rfl rfl ⟨(cU HB hw134_0), (cU HB hw135_0)⟩ (fun hHeld => ?_); refine with_tabW spec_Transpose.tab14 spec_Transpose.bits14 (fun HT_ HW_ => ?_)
             generalize wr.drew = w34 at HO_132000 HO_132001 BK128 BK129 BK131 HB hx134_0 hx135_0 hHeld ⊢
             refine pS 0 48 (bs 9 1) HT_ ?_
             refine pS 1 49 (bs 9 3) HT_ ?_
             refine pS 2 50 (bs 9 7) HT_ ?_
             refine pS 4 52 (bs 9 23) HT_ ?_
             refine pS 5 53 (bs 9 55) HT_ ?_
             refine pS 6 54 (bs 9 119) HT_ ?_
             refine tS 3 51 (bs 9 127) HT_ HW_ hHeld ?_
             refine tS 7 55 (bs 9 255) HT_ HW_ hHeld ?_
             refine pS 8 56 (bs 9 511) HT_ ?_
             refine done_ (done_of HT_.out (by kernel_rfl)) ?_
             try go_wp2
             go_roundg k3
             case measure => have := HK1.out; have := HJ16.out; have := HK3.out; omega
             case rel => exact ⟨(wrap64 (x7_3 + 1)), (x130000_3), (x130003_3), rf, H', ⟨by have := HK1.out; have := HJ16.out; have := HK3.out; omega⟩, ⟨rS HO_132000⟩, ⟨rS HO_132001⟩, ⟨bS BK128⟩, ⟨bS BK129⟩, ⟨bS BK131⟩, ⟨lS HB⟩⟩
           ·rw [if_neg c24] at H
            have c24b0 : decide (x7_3 < x6_1) = false := decide_eq_false c24
            clear c24
            replace H := gN H
            obtain ⟨c35, H⟩ := H
            have c35b0 : decide (0 ≤ x6_1) = true := decide_eq_true c35
            clear c35
            replace H := gN H
            obtain ⟨c36, H⟩ := H
            have c36b0 : decide (x6_1 < (l1.length : Int)) = true := decide_eq_true c36
            clear c36
            replace H := gN H
            obtain ⟨c37, H⟩ := H
            have c37b0 : decide (0 ≤ (rd l1 x6_1)) = true := decide_eq_true c37
            clear c37
            replace H := gN H
            obtain ⟨c38, H⟩ := H
            have c38b0 : decide ((rd l1 x6_1) < (l0_0.length : Int)) = true := decide_eq_true c38
            clear c38
            replace H := gN H
            obtain ⟨c39, H⟩ := H
            have LMc39 := qS.mk c39
            clear c39
            obtain ⟨y138, hy138⟩ : ∃ y_ : List Int, y_ = (x132000_1 ++ [rd l0_0 (rd l1 x6_1)]) := ⟨_, rfl⟩
            replace H : (if (rd l1 x6_1) < (l0_1.length : Int) then (if x132001_1.length < 17592186044416 then (spec_Transpose.l0 k3 l1 (wrap64 (x6_1 + 1)) l0_0 l0_1 a0_2 y138 (x132001_1 ++ [rd l0_1 (rd l1 x6_1)]) a0_2) else (none)) else (none)) = some (r1, r2, r3, r4) := by first | (rw [hy138]; with_reducible exact H) | (have H2_ := (Option.bind_some _ _).symm.trans H; rw [hy138]; with_reducible exact H2_) | (have H2_ := (Option.bind_some _ _).symm.trans H; with_reducible exact H2_) | with_reducible exact H | (rw [hy138]; exact H) | exact H
            have Ny138 := qS.mk hy138
            clear hy138
            replace H := gN H
            obtain ⟨c40, H⟩ := H
            have c40b0 : decide ((rd l1 x6_1) < (l0_1.length : Int)) = true := decide_eq_true c40
            clear c40
            replace H := gN H
            obtain ⟨c41, H⟩ := H
            have LMc41 := qS.mk c41
            clear c41
            obtain ⟨y143, hy143⟩ : ∃ y_ : List Int, y_ = (x132001_1 ++ [rd l0_1 (rd l1 x6_1)]) := ⟨_, rfl⟩
            replace H : (spec_Transpose.l0 k3 l1 (wrap64 (x6_1 + 1)) l0_0 l0_1 a0_2 y138 y143 a0_2) = some (r1, r2, r3, r4) := by first | (rw [hy143]; with_reducible exact H) | (have H2_ := (Option.bind_some _ _).symm.trans H; rw [hy143]; with_reducible exact H2_) | (have H2_ := (Option.bind_some _ _).symm.trans H; with_reducible exact H2_) | with_reducible exact H | (rw [hy143]; exact H) | exact H
            have Ny143 := qS.mk hy143
            clear hy143
            have H' := qS.mk H
            clear H
            try go_wp2
            replace HO_132000 := rD HO_132000; replace HO_132001 := rD HO_132001; replace BK128 := bD BK128; replace BK129 := bD BK129; replace BK131 := bD BK131; replace HB := lD HB
            obtain ⟨ad136, e136, hx136_0, hw136_0, p136, q136⟩ := aI HR1 HB x6_1
            cases e136
            obtain ⟨ad137, e137, hx137_0, hw137_0, p137, q137⟩ := aI HR0_0 HB (rd l1 x6_1)
            cases e137
            refine start_ (n := 14) (S := fun w' => w'.cell? ⟨gb131, 0, none⟩ = some (u132000) ∧ w'.cell? ⟨gb131, 1, none⟩ = some (u132001) ∧ w'.cell? ⟨gb131, 2, none⟩ = some (.int .i64 a0_2) ∧ w'.cell? ⟨gb128, 0, none⟩ = some (.slice (some ad137) l0_0.length c0_0) ∧ w'.cell? ⟨gb128, 1, none⟩ = some (.slice A0_1 l0_1.length c0_1) ∧ w'.cell? ⟨gb128, 2, none⟩ = some (.int .i64 a0_2) ∧ w'.cell? (ad136.add (x6_1).toNat) = some (.int .i64 (rd l1 x6_1)) ∧ w'.cell? (ad137.add ((rd l1 x6_1)).toNat) = some (.int .i64 (rd l0_0 (rd l1 x6_1)))) (ds := [13]) (bs 14 0) (by kernel_rfl) rfl rfl ⟨(qJ BK131.out 0).trans rfl, (qJ BK131.out 1).trans rfl, (qJ BK131.out 2).trans rfl, (qJ BK128.out 0).trans rfl, (qJ BK128.out 1).trans rfl, (qJ BK128.out 2).trans rfl, (cU HB hw136_0), (cU HB hw137_0)⟩ (fun hHeld => ?_); refine with_tabW spec_Transpose.tab16 spec_Transpose.bits16 (fun HT_ HW_ => ?_)
            generalize wr.drew = w42 at HO_132000 HO_132001 BK128 BK129 BK131 HB hx136_0 hx137_0 hHeld ⊢
            refine pS 0 58 (bs 14 1) HT_ ?_
            refine pS 2 60 (bs 14 5) HT_ ?_
            refine pS 4 62 (bs 14 21) HT_ ?_
            refine pS 5 63 (bs 14 53) HT_ ?_
            refine pS 6 64 (bs 14 117) HT_ ?_
            refine tS 1 59 (bs 14 119) HT_ HW_ hHeld ?_
            refine tS 3 61 (bs 14 127) HT_ HW_ hHeld ?_
            refine tS 7 65 (bs 14 255) HT_ HW_ hHeld ?_
            refine pS 8 66 (bs 14 511) HT_ ?_
            refine tS 9 67 (bs 14 1023) HT_ HW_ hHeld ?_
            refine one_ (i := 10) (N := some 68) (bs 14 2047) rfl rfl (one_of HT_.out (by kernel_rfl)) (by decide) (fun K hK => ?_)
            refine value_ (w1 := ?_) (v := ?_) (by rfl) rfl ?_ ?_
            rotate_left 2
            ·go_simp
             constructor
             ·rfl
             ·rfl
            refine hK.out _ _ ⟨(qJ (qG BK131.out _) 0).trans rfl, (qJ (qG BK131.out _) 1).trans rfl, (qJ (qG BK131.out _) 2).trans rfl, (qJ (qG BK128.out _) 0).trans rfl, (qJ (qG BK128.out _) 1).trans rfl, (qJ (qG BK128.out _) 2).trans rfl, (World.cell?_alloc_lt _ _ _ (World.block_lt_of_cell? _ _ ((cU HB hw136_0)))).trans ((cU HB hw136_0)), (World.cell?_alloc_lt _ _ _ (World.block_lt_of_cell? _ _ ((cU HB hw137_0)))).trans ((cU HB hw137_0))⟩ (fun hHeld => ?_)
            clear hK K
            refine norm_ (a' := ?_) ?_ ?_
            rotate_left
            ·show Act.put _ (some 68) _ = _
             simp only [Act.put, List.setIfInBounds_toArray, List.set_cons_zero, List.set_cons_succ, i64_w, i32_w]
             rfl
            refine one_ (i := 11) (N := some 69) (bs 14 4095) rfl rfl (one_of HT_.out (by kernel_rfl)) (by decide) (fun K hK => ?_)
            refine Kd.R_append_step (Kd.int .i64) (w0 := w) w.heap.size (by rfl) (.tmp 59) (.tmp 68) 27 2 (.int .i64 0) 8 rfl Try.underlying27 info2 rfl (by decide) (by omega) u132000 x132000_1 (rd l0_0 (rd l1 x6_1)) [.int .i64 (rd l0_0 (rd l1 x6_1))] (fun k_ => some k_ ≠ (u132001 : Value).ownBlock) (fun _ => False) rfl rfl ?aP (fun _ hk => hk.elim) ?aF ?aO ?aB ?aS ?aL ?_
            (case aP => exact rfl)
            (case aB => exact (lS HB))
            (case aF => exact (fun k_ hk => Kd.fresh' (Kd.R_lt (rS HO_132001)) k_ hk))
            (case aO => exact (rS HO_132000))
            (case aS => exact (qF (lS HB)))
            (case aL => have := LMc39.out; omega)
            intro v139 w43 ho hb hg hat
            rw [← Ny138.out] at ho
            have HO140 := qS.mk (ho); replace HO_132001 := qS.mk (Kd.R_after (ok := (fun _ => True)) (rT (Kd.qZ HO_132001.out (fun _ hk => ⟨trivial, hk⟩))) hg hat); replace BK128 := gB BK128 hg (Kd.R_ne HO_132000.out BK128.out (by decide)); replace BK129 := gB BK129 hg (Kd.R_ne HO_132000.out BK129.out (by decide)); replace BK131 := gB BK131 hg (Kd.R_ne HO_132000.out BK131.out (by decide)); replace HB := qS.mk (hb); clear HO_132000
            clear ho hb hg hat
            obtain ⟨Ao44, co44, eo44⟩ := Kd.qX HO140.out
            (first | subst eo44 | (injection eo44 with f1_ f2_ f3_; have f4_ := f1_.symm; have f5_ := f3_.symm; clear f1_ f2_ f3_; subst f4_; subst f5_))
            refine hK.out _ _ ⟨(qJ BK131.out 0).trans rfl, (qJ BK131.out 1).trans rfl, (qJ BK131.out 2).trans rfl, (qJ BK128.out 0).trans rfl, (qJ BK128.out 1).trans rfl, (qJ BK128.out 2).trans rfl, (cU HB hw136_0), (cU HB hw137_0)⟩ (fun hHeld => ?_)
            clear hK K
            refine norm_ (a' := ?_) ?_ ?_
            rotate_left
            ·show Act.put _ (some 69) _ = _
             simp only [Act.put, List.setIfInBounds_toArray, List.set_cons_zero, List.set_cons_succ, i64_w, i32_w]
             rfl
            refine pS 12 70 (bs 14 8191) HT_ ?_
            refine last_ (i := 13) (N := none) (bs 14 16383) rfl rfl (one_of HT_.out (by kernel_rfl)) (by decide) (fun K hK => ?_)
            have hs45 : w43.cell? ⟨gb131, 0, none⟩ = some (u132000) := (qJ BK131.out 0).trans rfl
            have hfs45 := qK BK131.out 0
            have hns45_0 := NB128_131.out
            have hns45_1 := NB129_131.out
            have hms45_0 := NB131_128.out
            have hms45_1 := NB131_129.out
            refine skip_ (w1 := ?_) (by rfl) rfl ?_ ?_
            rotate_left
            ·go_simp
             rfl
            refine hK.out _ _ ?_
            clear hK K
            refine done_ (done_of HT_.out (by kernel_rfl)) ?_
            try go_wp2
            have n0_ : qS (Kd.R (Kd.int .i64) 2 (w43.setCell ⟨gb131, 0, none⟩ (.slice Ao44 y138.length co44)) w.heap.size (fun k_ => some k_ ≠ (.slice Ao44 y138.length co44 : Value).ownBlock) u132001 x132001_1) := ⟨rF HO_132001 BK131⟩
            have n1_ : qS (Kd.R (Kd.int .i64) 2 (w43.setCell ⟨gb131, 0, none⟩ (.slice Ao44 y138.length co44)) w.heap.size (fun k_ => some k_ ≠ (u132001 : Value).ownBlock) (.slice Ao44 y138.length co44) y138) := ⟨rF HO140 BK131⟩
            have n2_ : qS ((w43.setCell ⟨gb131, 0, none⟩ (.slice Ao44 y138.length co44)).heap[gb128]? = some (.cells #[.slice (some ad137) l0_0.length c0_0, .slice A0_1 l0_1.length c0_1, .int .i64 a0_2] 32 (0, 0))) := ⟨bQ BK128⟩
            have n3_ : qS ((w43.setCell ⟨gb131, 0, none⟩ (.slice Ao44 y138.length co44)).heap[gb129]? = some (.cells #[.int .i64 x130000_3, .slice none 0 0, .slice none 0 0, .int .i64 x130003_3] 53 (0, 0))) := ⟨bQ BK129⟩
            have n4_ : qS ((w43.setCell ⟨gb131, 0, none⟩ (.slice Ao44 y138.length co44)).heap[gb131]? = some (.cells #[.slice Ao44 y138.length co44, u132001, .int .i64 a0_2] 32 (0, 0))) := ⟨bQ BK131⟩
            have n5_ : qS (Below w.heap.size w (w43.setCell ⟨gb131, 0, none⟩ (.slice Ao44 y138.length co44))) := ⟨lS HB⟩
            (try clear HO_132001)
            (try clear HO140)
            (try clear BK128)
            (try clear BK129)
            (try clear BK131)
            (try clear HB)
            generalize (w43.setCell ⟨gb131, 0, none⟩ (.slice Ao44 y138.length co44)) = w46 at n0_ n1_ n2_ n3_ n4_ n5_ ⊢
            have HO_132001 := n0_
            have HO140 := n1_
            have BK128 := n2_
            have BK129 := n3_
            have BK131 := n4_
            have HB := n5_
            clear n0_ n1_ n2_ n3_ n4_ n5_
            replace HO_132001 := rD HO_132001; replace HO140 := rD HO140; replace BK128 := bD BK128; replace BK129 := bD BK129; replace BK131 := bD BK131; replace HB := lD HB
            obtain ⟨ad141, e141, hx141_0, hw141_0, p141, q141⟩ := aI HR1 HB x6_1
            obtain rfl : ad136 = ad141 := (by injection e141)
            obtain ⟨ad142, e142, hx142_0, hw142_0, p142, q142⟩ := aI HR0_1 HB (rd l1 x6_1)
            cases e142
            refine start_ (n := 14) (S := fun w' => w'.cell? ⟨gb131, 0, none⟩ = some (.slice Ao44 y138.length co44) ∧ w'.cell? ⟨gb131, 1, none⟩ = some (u132001) ∧ w'.cell? ⟨gb131, 2, none⟩ = some (.int .i64 a0_2) ∧ w'.cell? ⟨gb128, 0, none⟩ = some (.slice (some ad137) l0_0.length c0_0) ∧ w'.cell? ⟨gb128, 1, none⟩ = some (.slice (some ad142) l0_1.length c0_1) ∧ w'.cell? ⟨gb128, 2, none⟩ = some (.int .i64 a0_2) ∧ w'.cell? (ad136.add (x6_1).toNat) = some (.int .i64 (rd l1 x6_1)) ∧ w'.cell? (ad142.add ((rd l1 x6_1)).toNat) = some (.int .i64 (rd l0_1 (rd l1 x6_1)))) (ds := [13]) (bs 14 0) (by kernel_rfl) rfl rfl ⟨(qJ BK131.out 0).trans rfl, (qJ BK131.out 1).trans rfl, (qJ BK131.out 2).trans rfl, (qJ BK128.out 0).trans rfl, (qJ BK128.out 1).trans rfl, (qJ BK128.out 2).trans rfl, (cU HB hw141_0), (cU HB hw142_0)⟩ (fun hHeld => ?_); refine with_tabW spec_Transpose.tab17 spec_Transpose.bits17 (fun HT_ HW_ => ?_)
            generalize w46.drew = w47 at HO_132001 HO140 BK128 BK129 BK131 HB hx141_0 hx142_0 hHeld ⊢
            refine pS 0 71 (bs 14 1) HT_ ?_
            refine pS 2 73 (bs 14 5) HT_ ?_
            refine pS 4 75 (bs 14 21) HT_ ?_
            refine pS 5 76 (bs 14 53) HT_ ?_
            refine pS 6 77 (bs 14 117) HT_ ?_
            refine tS 1 72 (bs 14 119) HT_ HW_ hHeld ?_
            refine tS 3 74 (bs 14 127) HT_ HW_ hHeld ?_
            refine tS 7 78 (bs 14 255) HT_ HW_ hHeld ?_
            refine pS 8 79 (bs 14 511) HT_ ?_
            refine tS 9 80 (bs 14 1023) HT_ HW_ hHeld ?_
            refine one_ (i := 10) (N := some 81) (bs 14 2047) rfl rfl (one_of HT_.out (by kernel_rfl)) (by decide) (fun K hK => ?_)
            refine value_ (w1 := ?_) (v := ?_) (by rfl) rfl ?_ ?_
            rotate_left 2
            ·go_simp
             constructor
             ·rfl
             ·rfl
            refine hK.out _ _ ⟨(qJ (qG BK131.out _) 0).trans rfl, (qJ (qG BK131.out _) 1).trans rfl, (qJ (qG BK131.out _) 2).trans rfl, (qJ (qG BK128.out _) 0).trans rfl, (qJ (qG BK128.out _) 1).trans rfl, (qJ (qG BK128.out _) 2).trans rfl, (World.cell?_alloc_lt _ _ _ (World.block_lt_of_cell? _ _ ((cU HB hw141_0)))).trans ((cU HB hw141_0)), (World.cell?_alloc_lt _ _ _ (World.block_lt_of_cell? _ _ ((cU HB hw142_0)))).trans ((cU HB hw142_0))⟩ (fun hHeld => ?_)
            clear hK K
            refine norm_ (a' := ?_) ?_ ?_
            rotate_left
            ·show Act.put _ (some 81) _ = _
             simp only [Act.put, List.setIfInBounds_toArray, List.set_cons_zero, List.set_cons_succ, i64_w, i32_w]
             rfl
            refine one_ (i := 11) (N := some 82) (bs 14 4095) rfl rfl (one_of HT_.out (by kernel_rfl)) (by decide) (fun K hK => ?_)
            refine Kd.R_append_step (Kd.int .i64) (w0 := w) w.heap.size (by rfl) (.tmp 72) (.tmp 81) 27 2 (.int .i64 0) 8 rfl Try.underlying27 info2 rfl (by decide) (by omega) u132001 x132001_1 (rd l0_1 (rd l1 x6_1)) [.int .i64 (rd l0_1 (rd l1 x6_1))] (fun k_ => some k_ ≠ (.slice Ao44 y138.length co44 : Value).ownBlock) (fun _ => False) rfl rfl ?aP (fun _ hk => hk.elim) ?aF ?aO ?aB ?aS ?aL ?_
            (case aP => exact rfl)
            (case aB => exact (lS HB))
            (case aF => exact (fun k_ hk => Kd.fresh' (Kd.R_lt (rS HO140)) k_ hk))
            (case aO => exact (rS HO_132001))
            (case aS => exact (qF (lS HB)))
            (case aL => have := LMc41.out; omega)
            intro v144 w48 ho hb hg hat
            rw [← Ny143.out] at ho
            have HO145 := qS.mk (ho); replace BK128 := gB BK128 hg (Kd.R_ne HO_132001.out BK128.out (by decide)); replace BK129 := gB BK129 hg (Kd.R_ne HO_132001.out BK129.out (by decide)); replace BK131 := gB BK131 hg (Kd.R_ne HO_132001.out BK131.out (by decide)); replace HO140 := qS.mk (Kd.R_after (ok := (fun _ => True)) (rT (Kd.qZ HO140.out (fun _ hk => ⟨trivial, hk⟩))) hg hat); replace HB := qS.mk (hb); clear HO_132001
            clear ho hb hg hat
            obtain ⟨Ao49, co49, eo49⟩ := Kd.qX HO145.out
            (first | subst eo49 | (injection eo49 with f1_ f2_ f3_; have f4_ := f1_.symm; have f5_ := f3_.symm; clear f1_ f2_ f3_; subst f4_; subst f5_))
            refine hK.out _ _ ⟨(qJ BK131.out 0).trans rfl, (qJ BK131.out 1).trans rfl, (qJ BK131.out 2).trans rfl, (qJ BK128.out 0).trans rfl, (qJ BK128.out 1).trans rfl, (qJ BK128.out 2).trans rfl, (cU HB hw141_0), (cU HB hw142_0)⟩ (fun hHeld => ?_)
            clear hK K
            refine norm_ (a' := ?_) ?_ ?_
            rotate_left
            ·show Act.put _ (some 82) _ = _
             simp only [Act.put, List.setIfInBounds_toArray, List.set_cons_zero, List.set_cons_succ, i64_w, i32_w]
             rfl
            refine pS 12 83 (bs 14 8191) HT_ ?_
            refine last_ (i := 13) (N := none) (bs 14 16383) rfl rfl (one_of HT_.out (by kernel_rfl)) (by decide) (fun K hK => ?_)
            have hs50 : w48.cell? ⟨gb131, 1, none⟩ = some (u132001) := (qJ BK131.out 1).trans rfl
            have hfs50 := qK BK131.out 1
            have hns50_0 := NB128_131.out
            have hns50_1 := NB129_131.out
            have hms50_0 := NB131_128.out
            have hms50_1 := NB131_129.out
            refine skip_ (w1 := ?_) (by rfl) rfl ?_ ?_
            rotate_left
            ·go_simp
             rfl
            refine hK.out _ _ ?_
            clear hK K
            refine done_ (done_of HT_.out (by kernel_rfl)) ?_
            try go_wp2
            go_roundg k3
            case measure => have := HK1.out; have := HJ16.out; have := HK3.out; omega
            case rel => exact ⟨(wrap64 (x6_1 + 1)), (x130000_3), (x130003_3), (y138), (y143), (.slice Ao44 y138.length co44), (.slice Ao49 y143.length co49), rf, H', ⟨by have := HK1.out; have := HJ16.out; have := HK3.out; omega⟩, ⟨rF HO140 BK131⟩, ⟨rF HO145 BK131⟩, ⟨bQ BK128⟩, ⟨bQ BK129⟩, ⟨bQ BK131⟩, ⟨lS HB⟩⟩
     ·rw [if_neg c16] at H
      have c16b0 : decide (x6_1 < (l1.length : Int)) = false := decide_eq_false c16
      clear c16
      simp only [Option.some.injEq, Prod.mk.injEq] at H
      obtain ⟨rfl, rfl, rfl, rfl⟩ := H
      have hnb51 := NB131_128.out
      have hnc51 := NB128_131.out
      have hnb52 := NB131_129.out
      have hnc52 := NB129_131.out
      obtain ⟨hcz53_0, hcz53_1, hcz53_2, hfz53_0, hfz53_1, hfz53_2⟩ := bx3 BK131
      obtain ⟨Ao54, co54, eo54⟩ := Kd.qX HO_132001.out
      subst eo54
      obtain ⟨Ao55, co55, eo55⟩ := Kd.qX HO_132000.out
      subst eo55
      have hnb56 := NB129_128.out
      have hnc56 := NB128_129.out
      obtain ⟨hcz57_0, hcz57_1, hcz57_2, hcz57_3, hfz57_0, hfz57_1, hfz57_2, hfz57_3⟩ := bx4 BK129
      go_wp2
      refine bodyPost_ret (rC gb129 53 #[.int .i64 0, .slice Ao55 x132000_1.length co55, .slice Ao54 x132001_1.length co54, .int .i64 a0_2] (bQ BK129) Try.underlying53) rfl ?_
      exact ⟨_, _, rg, rF HO_132000 BK129, rF HO_132001 BK129, lS HB⟩
  ·rw [if_neg c5] at H
   have c5b0 : ((l1.length : Int) == (l0_0.length : Int)) = false := beq_eq_false_iff_ne.mpr c5
   have c5b1 : ((l1.length : Int) != (l0_0.length : Int)) = true := bne_iff_ne.mpr c5
   have c5b2 : (l1.length == l0_0.length) = false := by first | simpa using c5 | (simp at c5 ⊢; omega)
   simp only [Option.some.injEq, Prod.mk.injEq] at H
   obtain ⟨rfl, rfl, rfl, rfl⟩ := H
   go_enter Try.func49, Try.ntmps49
   go_wp2_with (first | ((with_reducible refine gate_dst (N := 2) rfl ?_); (try (refine gate_guard (by rfl) ?_; dsimp only)); refine bE #[.slice A0_0 l0_0.length c0_0, .slice A0_1 l0_1.length c0_1, .int .i64 a0_2] 32 ?_; intro gb128 hg w58 hbox hb; have BK128 := qS.mk (hbox); have GW128 := mG HB hg; have GE128 := mG HB hg; replace HB := mS HB hb; clear hb hbox hg) | ((with_reducible refine gate_dst (N := 4) rfl ?_); (try (refine gate_guard (by rfl) ?_; dsimp only)); refine bE #[.int .i64 0, .slice none 0 0, .slice none 0 0, .int .i64 0] 53 ?_; intro gb129 hg w59 hbox hb; have BK129 := qS.mk (hbox); have GW129 := mG HB hg; have GE129 := mG HB hg; have NB128_129 := mN BK128 hg; have NB129_128 := mM BK128 hg; replace BK128 := mB BK128 hb; replace HB := mS HB hb; clear hb hbox hg; have hnb60 := NB128_129.out; have hnc60 := NB129_128.out; obtain ⟨hcz61_0, hcz61_1, hcz61_2, hfz61_0, hfz61_1, hfz61_2⟩ := bx3 BK128) | ((with_reducible refine gate_callee (f := 24) rfl ?_); refine gL (some 9) Try.func24 #[.agg #[.slice A0_0 l0_0.length c0_0, .slice A0_1 l0_1.length c0_1, .int .i64 a0_2]] ?_; (with_reducible refine (zH.calls k _ _ l0_0 _ _ l0_1 a0_2 true _ (cS (Kd.qW HR0_0.out HB.out)) HC0_0.out (cS (Kd.qW HR0_1.out HB.out)) HC0_1.out A3.out).mono ?_); rintro e w62 ⟨rfl, hb⟩; refine ⟨_, rfl, ?_⟩; replace BK128 := mB BK128 hb; replace BK129 := mB BK129 hb; replace HB := mS HB hb; (try clear hb); (try clear hb2); (try clear hk); (try clear hi); obtain ⟨hcz63_0, hcz63_1, hcz63_2, hfz63_0, hfz63_1, hfz63_2⟩ := bx3 BK128; obtain ⟨hcz64_0, hcz64_1, hcz64_2, hcz64_3, hfz64_0, hfz64_1, hfz64_2, hfz64_3⟩ := bx4 BK129))
   refine bodyPost_ret (rC gb129 53 #[.int .i64 5, .slice none 0 0, .slice none 0 0, .int .i64 0] (bQ BK129) Try.underlying53) rfl ?_
   exact ⟨_, _, rg, rN, rN, lS HB⟩
 ·replace c4 := Bool.eq_false_iff.mpr c4
  subst c4
  rw [if_neg (show ¬ (false = true) by decide)] at H
  simp only [Option.some.injEq, Prod.mk.injEq] at H
  obtain ⟨rfl, rfl, rfl, rfl⟩ := H
  go_enter Try.func49, Try.ntmps49
  go_wp2_with (first | ((with_reducible refine gate_dst (N := 2) rfl ?_); (try (refine gate_guard (by rfl) ?_; dsimp only)); refine bE #[.slice A0_0 l0_0.length c0_0, .slice A0_1 l0_1.length c0_1, .int .i64 a0_2] 32 ?_; intro gb128 hg w65 hbox hb; have BK128 := qS.mk (hbox); have GW128 := mG HB hg; have GE128 := mG HB hg; replace HB := mS HB hb; clear hb hbox hg) | ((with_reducible refine gate_dst (N := 4) rfl ?_); (try (refine gate_guard (by rfl) ?_; dsimp only)); refine bE #[.int .i64 0, .slice none 0 0, .slice none 0 0, .int .i64 0] 53 ?_; intro gb129 hg w66 hbox hb; have BK129 := qS.mk (hbox); have GW129 := mG HB hg; have GE129 := mG HB hg; have NB128_129 := mN BK128 hg; have NB129_128 := mM BK128 hg; replace BK128 := mB BK128 hb; replace HB := mS HB hb; clear hb hbox hg; have hnb67 := NB128_129.out; have hnc67 := NB129_128.out; obtain ⟨hcz68_0, hcz68_1, hcz68_2, hfz68_0, hfz68_1, hfz68_2⟩ := bx3 BK128) | ((with_reducible refine gate_callee (f := 24) rfl ?_); refine gL (some 9) Try.func24 #[.agg #[.slice A0_0 l0_0.length c0_0, .slice A0_1 l0_1.length c0_1, .int .i64 a0_2]] ?_; (with_reducible refine (zH.calls k _ _ l0_0 _ _ l0_1 a0_2 false _ (cS (Kd.qW HR0_0.out HB.out)) HC0_0.out (cS (Kd.qW HR0_1.out HB.out)) HC0_1.out A3.out).mono ?_); rintro e w69 ⟨rfl, hb⟩; refine ⟨_, rfl, ?_⟩; replace BK128 := mB BK128 hb; replace BK129 := mB BK129 hb; replace HB := mS HB hb; (try clear hb); (try clear hb2); (try clear hk); (try clear hi); obtain ⟨hcz70_0, hcz70_1, hcz70_2, hcz70_3, hfz70_0, hfz70_1, hfz70_2, hfz70_3⟩ := bx4 BK129))
  refine bodyPost_ret (rC gb129 53 #[.int .i64 12, .slice none 0 0, .slice none 0 0, .int .i64 0] (bQ BK129) Try.underlying53) rfl ?_
  exact ⟨_, _, rg, rN, rN, lS HB⟩

end Go.Proofs.Ytpmdgmnpkdoamaa.DFnViews
