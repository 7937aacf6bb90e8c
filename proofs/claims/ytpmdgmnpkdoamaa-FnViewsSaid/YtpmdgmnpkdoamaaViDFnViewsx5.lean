/- Proved here: what the functions answer that the law on  comes to (the lines were written by a program). Conditions: those that stand ahead in each theorem. -/
import Derived.Test.YtpmdgmnpkdoamaaViWSq
import Derived.Test.YtpmdgmnpkdoamaaViDFnViewsx0
import Derived.Test.YtpmdgmnpkdoamaaViDFnViewsx4
namespace Go.Proofs.Ytpmdgmnpkdoamaa.DFnViews
open Go.RowKit Go.Proofs.YtpmdgmnpkdoamaaW.PrintWords Go.Proofs.YtpmdgmnpkdoamaaW.PrintLast Go.Proofs.YtpmdgmnpkdoamaaW.PrintMore
attribute [local go_sem] max2_int min2_int max_two min_two max_three min_three max_four min_four   -- for this text's walks alone
set_option linter.unusedVariables false
set_option linter.unusedSimpArgs false

def impl_Transpose.l0 : Nat → List Int → List Bool → List Int → Int → Int → List Int → List Int → Int → List Int → List Int → Int → Option (Int × List Int × List Int × Int)
 | 0, _, _, _, _, _, _, _, _, _, _, _ => none
 | k + 1, x1, x5, x24, x25, x26, x155000, x155001, x155002, x161000, x161001, x161002 => if x26 < x25 then (if 0 ≤ x26 then (if x26 < (x24.length : Int) then (if (rd x24 x26) < 0 then (some (5, ([] : List Int), ([] : List Int), 0)) else (if (rd x24 x26) ≥ (x1.length : Int) then (some (5, ([] : List Int), ([] : List Int), 0)) else (if 0 ≤ (rd x24 x26) then (if (rd x24 x26) < (x5.length : Int) then (if rdOf false x5 (rd x24 x26) = true then (some (5, ([] : List Int), ([] : List Int), 0)) else (if (rd x24 x26) < (x155000.length : Int) then (if x161000.length < 17592186044416 then (if (rd x24 x26) < (x155001.length : Int) then (if x161001.length < 17592186044416 then (impl_Transpose.l0 k x1 (x5.set ((rd x24 x26) : Int).toNat true) x24 x25 (wrap64 (x26 + 1)) x155000 x155001 x155002 (x161000 ++ [rd x155000 (rd x24 x26)]) (x161001 ++ [rd x155001 (rd x24 x26)]) x161002) else (none)) else (none)) else (none)) else (none))) else (none)) else (none)))) else (none)) else (none)) else (some (0, x161000, x161001, x161002))
def impl_Transpose.f (k : Nat) (l0_0 : List Int) (l0_1 : List Int) (a0_2 : Int) (l1 : List Int) : Option (Int × List Int × List Int × Int) := (zI.f k l0_0 l0_1 a0_2).bind fun t156 => (if t156 = true then (if (l1.length : Int) = (l0_0.length : Int) then (if 4 ≤ 281474976710656 then (impl_Transpose.l0 k l1 (List.replicate 4 false) l1 (l1.length : Int) 0 l0_0 l0_1 a0_2 ([] : List Int) ([] : List Int) a0_2) else (none)) else (some (5, ([] : List Int), ([] : List Int), 0))) else (some (12, ([] : List Int), ([] : List Int), 0)))
theorem impl_Transpose.mono_l : ∀ k, (∀ y0 y1 y2 y3 y4 y5 y6 y7 y8 y9 y10, LeO (impl_Transpose.l0 k y0 y1 y2 y3 y4 y5 y6 y7 y8 y9 y10) (impl_Transpose.l0 (k + 1) y0 y1 y2 y3 y4 y5 y6 y7 y8 y9 y10))
 | 0 => fun _ _ _ _ _ _ _ _ _ _ _ r h => by simp [impl_Transpose.l0] at h
 | k + 1 => by
  have ih0 := impl_Transpose.mono_l k
  ·intro y0 y1 y2 y3 y4 y5 y6 y7 y8 y9 y10
   unfold impl_Transpose.l0
   repeat' first
   | (with_reducible exact ih0 _ _ _ _ _ _ _ _ _ _ _)
   | (with_reducible exact zI.mono _ _ _ _)
   | (with_reducible exact LeO.refl _)
   | (with_reducible exact LeO.none _)
   | (with_reducible refine LeO.ite ?_ ?_)
   | (with_reducible refine LeO.bind ?_ (fun _ => ?_))
   | exact ih0 _ _ _ _ _ _ _ _ _ _ _
   | exact zI.mono _ _ _ _
   | exact LeO.none _
   | refine LeO.ite ?_ ?_
   | refine LeO.bind ?_ (fun _ => ?_)
theorem impl_Transpose.mono : ∀ a0 a1 a2 a3 k, LeO (impl_Transpose.f k a0 a1 a2 a3) (impl_Transpose.f (k + 1) a0 a1 a2 a3) := by
 intro a0 a1 a2 a3 k
 have ih0 := impl_Transpose.mono_l k
 unfold impl_Transpose.f
 repeat' first
   | (with_reducible exact ih0 _ _ _ _ _ _ _ _ _ _ _)
   | (with_reducible exact zI.mono _ _ _ _)
   | (with_reducible exact LeO.refl _)
   | (with_reducible exact LeO.none _)
   | (with_reducible refine LeO.ite ?_ ?_)
   | (with_reducible refine LeO.bind ?_ (fun _ => ?_))
   | exact ih0 _ _ _ _ _ _ _ _ _ _ _
   | exact zI.mono _ _ _ _
   | exact LeO.none _
   | refine LeO.ite ?_ ?_
   | refine LeO.bind ?_ (fun _ => ?_)
theorem arrR {w : World} {g base : Nat} (hb : w.heap[g]? = some (.cells #[.bool false, .bool false, .bool false, .bool false] 108 (0, 0))) (hg : base ≤ g) : Kd.R Kd.bool 108 w base (fun _ => True) (.slice (some ⟨g, 0, none⟩) 4 4) (List.replicate 4 false) :=
 Kd.R_of_own ⟨rfl, .inr ⟨g, 4, _, rfl, hg, hb, Nat.le_refl _, by unfold maxLen; omega, rfl, rfl⟩⟩ (fun _ _ => trivial)
def impl_Transpose.T13 : Bool × List (List Nat × List Nat) := (true, [([], []), ([0], [0]), ([], []), ([2], [2]), ([], []), ([3, 4], [3, 4]), ([5], [5]), ([6], [6]), ([1, 7], [1, 7]), ([0, 1, 2, 3, 4, 5, 6, 7, 8], []), ([9, 8, 8, 0, 1, 2, 3, 4, 5, 6, 7, 8], [8, 9])])
def impl_Transpose.B13 : List Nat := [0, 1, 0, 4, 0, 28, 60, 124, 255, 511, 1023]
theorem impl_Transpose.tab13 : rtab .any (opsOf Try.f50 13) = impl_Transpose.T13 := by kernel_rfl
theorem impl_Transpose.bits13 : waitsOk impl_Transpose.T13.2 impl_Transpose.B13 = true := by kernel_rfl
def impl_Transpose.T14 : Bool × List (List Nat × List Nat) := (true, [([], []), ([0], [0]), ([], []), ([2], [2]), ([], []), ([3, 4], [3, 4]), ([5], [5]), ([6], [6]), ([1, 7], [1, 7]), ([0, 1, 2, 3, 4, 5, 6, 7, 8], []), ([9, 8, 8, 0, 1, 2, 3, 4, 5, 6, 7, 8], [8, 9])])
def impl_Transpose.B14 : List Nat := [0, 1, 0, 4, 0, 28, 60, 124, 255, 511, 1023]
theorem impl_Transpose.tab14 : rtab .any (opsOf Try.f50 14) = impl_Transpose.T14 := by kernel_rfl
theorem impl_Transpose.bits14 : waitsOk impl_Transpose.T14.2 impl_Transpose.B14 = true := by kernel_rfl
set_option maxHeartbeats 8000000 in
set_option maxRecDepth 100000 in
theorem impl_Transpose.calls (k : Nat) (A0_0 : Option Addr) (c0_0 : Nat) (l0_0 : List Int) (A0_1 : Option Addr) (c0_1 : Nat) (l0_1 : List Int) (a0_2 : Int) (A1 : Option Addr) (c1 : Nat) (l1 : List Int) (r1 : Int) (r2 : List Int) (r3 : List Int) (r4 : Int) (w : World) (hr0_0 : Kd.C (Kd.int .i64) w A0_0 l0_0.length l0_0) (hc0_0 : l0_0.length ≤ c0_0) (hr0_1 : Kd.C (Kd.int .i64) w A0_1 l0_1.length l0_1) (hc0_1 : l0_1.length ≤ c0_1) (hr1 : Kd.C (Kd.int .i64) w A1 l1.length l1) (hc1 : l1.length ≤ c1) (h : impl_Transpose.f k l0_0 l0_1 a0_2 l1 = some (r1, r2, r3, r4)) :
  Calls Try.prog 50 #[.agg #[.slice A0_0 l0_0.length c0_0, .slice A0_1 l0_1.length c0_1, .int .i64 a0_2], .slice A1 l1.length c1] w fun e w' => ∃ v1_ v2_ : Value, e = .returned (.agg #[.int .i64 r1, v1_, v2_, .int .i64 r4]) ∧ Kd.R (Kd.int .i64) 2 w' w.heap.size (fun k_ => some k_ ≠ (v2_ : Value).ownBlock) v1_ r2 ∧ Kd.R (Kd.int .i64) 2 w' w.heap.size (fun k_ => some k_ ≠ (v1_ : Value).ownBlock) v2_ r3 ∧ Below w.heap.size w w' := by
 have hu32 := Try.underlying32
 have hu53 := Try.underlying53
 have HR0_0 := qS.mk hr0_0
 have HC0_0 := qS.mk hc0_0
 clear hr0_0 hc0_0
 have HR0_1 := qS.mk hr0_1
 have HC0_1 := qS.mk hc0_1
 clear hr0_1 hc0_1
 have HR1 := qS.mk hr1
 have HC1 := qS.mk hc1
 clear hr1 hc1
 have HB := qS.mk (Below.refl w.heap.size w)
 have H : ((zI.f k l0_0 l0_1 a0_2).bind fun t156 => (if t156 = true then (if (l1.length : Int) = (l0_0.length : Int) then (if 4 ≤ 281474976710656 then (impl_Transpose.l0 k l1 (List.replicate 4 false) l1 (l1.length : Int) 0 l0_0 l0_1 a0_2 ([] : List Int) ([] : List Int) a0_2) else (none)) else (some (5, ([] : List Int), ([] : List Int), 0))) else (some (12, ([] : List Int), ([] : List Int), 0)))) = some (r1, r2, r3, r4) := h
 clear h
 replace H := Option.bind_eq_some_iff.mp H
 obtain ⟨t156, A30, H⟩ := H
 try dsimp only at H
 have A3 := qS.mk A30
 clear A30
 by_cases c4 : t156 = true
 ·subst c4
  rw [if_pos rfl] at H
  by_cases c5 : (l1.length : Int) = (l0_0.length : Int)
  ·rw [if_pos c5] at H
   have c5b0 : ((l1.length : Int) == (l0_0.length : Int)) = true := beq_iff_eq.mpr c5
   have c5b1 : ((l1.length : Int) != (l0_0.length : Int)) = false := bne_eq_false_iff_eq.mpr c5
   have c5b2 : (l1.length == l0_0.length) = true := by first | simpa using c5 | (simp at c5 ⊢; omega)
   clear c5
   replace H := gN H
   obtain ⟨c6, H⟩ := H
   have c6b0 := eq_true c6
   have c6b1 : decide (4 ≤ 281474976710656) = true := decide_eq_true c6
   clear c6
   obtain ⟨y157, hy157⟩ : ∃ y_ : List Bool, y_ = (List.replicate 4 false) := ⟨_, rfl⟩
   replace H : (impl_Transpose.l0 k l1 y157 l1 (l1.length : Int) 0 l0_0 l0_1 a0_2 ([] : List Int) ([] : List Int) a0_2) = some (r1, r2, r3, r4) := by first | (rw [hy157]; with_reducible exact H) | (have H2_ := (Option.bind_some _ _).symm.trans H; rw [hy157]; with_reducible exact H2_) | (have H2_ := (Option.bind_some _ _).symm.trans H; with_reducible exact H2_) | with_reducible exact H | (rw [hy157]; exact H) | exact H
   have Ny157 := qS.mk hy157
   clear hy157
   have H' := qS.mk H
   clear H
   go_enter Try.func50, Try.ntmps50
   go_wp2_with (first | ((with_reducible refine gate_dst (N := 2) rfl ?_); (try (refine gate_guard (by rfl) ?_; dsimp only)); refine bE #[.slice A0_0 l0_0.length c0_0, .slice A0_1 l0_1.length c0_1, .int .i64 a0_2] 32 ?_; intro gb154 hg w7 hbox hb; have BK154 := qS.mk (hbox); have GW154 := mG HB hg; have GE154 := mG HB hg; replace HB := mS HB hb; clear hb hbox hg) | ((with_reducible refine gate_dst (N := 4) rfl ?_); (try (refine gate_guard (by rfl) ?_; dsimp only)); refine bE #[.int .i64 0, .slice none 0 0, .slice none 0 0, .int .i64 0] 53 ?_; intro gb155 hg w8 hbox hb; have BK155 := qS.mk (hbox); have GW155 := mG HB hg; have GE155 := mG HB hg; have NB154_155 := mN BK154 hg; have NB155_154 := mM BK154 hg; replace BK154 := mB BK154 hb; replace HB := mS HB hb; clear hb hbox hg; have hnb9 := NB154_155.out; have hnc9 := NB155_154.out; obtain ⟨hcz10_0, hcz10_1, hcz10_2, hfz10_0, hfz10_1, hfz10_2⟩ := bx3 BK154) | ((with_reducible refine gate_callee (f := 26) rfl ?_); refine gL (some 10) Try.func26 #[.agg #[.slice A0_0 l0_0.length c0_0, .slice A0_1 l0_1.length c0_1, .int .i64 a0_2]] ?_; (with_reducible refine (zI.calls k _ _ l0_0 _ _ l0_1 a0_2 true _ (cS (Kd.qW HR0_0.out HB.out)) HC0_0.out (cS (Kd.qW HR0_1.out HB.out)) HC0_1.out A3.out).mono ?_); rintro e w11 ⟨rfl, hb⟩; refine ⟨_, rfl, ?_⟩; replace BK154 := mB BK154 hb; replace BK155 := mB BK155 hb; replace HB := mS HB hb; (try clear hb); (try clear hb2); (try clear hk); (try clear hi); obtain ⟨hcz12_0, hcz12_1, hcz12_2, hfz12_0, hfz12_1, hfz12_2⟩ := bx3 BK154) | ((with_reducible refine gate_dst (N := 5) rfl ?_); (try (refine gate_guard (by rfl) ?_; dsimp only)); refine bE #[.bool false, .bool false, .bool false, .bool false] 108 ?_; intro gbS hg w13 hbox hb; have GES := qS.mk ((by rw [hg]; exact (qF (lS HB))) : w.heap.size ≤ gbS); have ho14 : Kd.R Kd.bool 108 w13 w.heap.size (fun _ => True) (.slice (some ⟨gbS, 0, none⟩) 4 4) y157 := (by rw [Ny157.out]; exact arrR hbox GES.out); clear hbox hg; have HO159 := qS.mk ho14; replace BK154 := mB BK154 hb; replace BK155 := mB BK155 hb; replace HB := mS HB hb; clear hb ho14; obtain ⟨hcz15_0, hcz15_1, hcz15_2, hfz15_0, hfz15_1, hfz15_2⟩ := bx3 BK154) | ((with_reducible refine gate_dst (N := 6) rfl ?_); (try (refine gate_guard (by rfl) ?_; dsimp only)); refine bE #[.slice none 0 0, .slice none 0 0, .int .i64 0] 32 ?_; intro gb160 hg w16 hbox hb; have BK160 := qS.mk (hbox); have GW160 := mG HB hg; have GE160 := mG HB hg; have NB154_160 := mN BK154 hg; have NB160_154 := mM BK154 hg; have NB155_160 := mN BK155 hg; have NB160_155 := mM BK155 hg; replace HO159 := mR HO159 hb; replace BK154 := mB BK154 hb; replace BK155 := mB BK155 hb; replace HB := mS HB hb; clear hb hbox hg; have hnb17 := NB160_154.out; have hnc17 := NB154_160.out; have hnb18 := NB160_155.out; have hnc18 := NB155_160.out; obtain ⟨hcz19_0, hcz19_1, hcz19_2, hfz19_0, hfz19_1, hfz19_2⟩ := bx3 BK160))
   go_loopg [25] k (fun kq v26 w' => ∃ (x5_1 : List Bool) (x26_1 : Int) (x156000_1 : Int) (x156003_1 : Int) (x161000_1 : List Int) (x161001_1 : List Int) (u161000 : Value) (u161001 : Value), v26 = .int .i64 x26_1 ∧ qS (impl_Transpose.l0 kq l1 x5_1 l1 (l1.length : Int) x26_1 l0_0 l0_1 a0_2 x161000_1 x161001_1 a0_2 = some (r1, r2, r3, r4)) ∧ qS (kq ≤ k) ∧ qS (Kd.R Kd.bool 108 w' w.heap.size (fun _ => True) (.slice (some ⟨gbS, 0, none⟩) 4 4) x5_1) ∧ qS (Kd.R (Kd.int .i64) 2 w' w.heap.size (fun k_ => some k_ ≠ (u161001 : Value).ownBlock) u161000 x161000_1) ∧ qS (Kd.R (Kd.int .i64) 2 w' w.heap.size (fun k_ => some k_ ≠ (u161000 : Value).ownBlock) u161001 x161001_1) ∧ qS (w'.heap[gb154]? = some (.cells #[(.slice A0_0 l0_0.length c0_0), (.slice A0_1 l0_1.length c0_1), .int .i64 a0_2] 32 (0, 0))) ∧ qS (w'.heap[gb155]? = some (.cells #[.int .i64 x156000_1, (.slice none 0 0), (.slice none 0 0), .int .i64 x156003_1] 53 (0, 0))) ∧ qS (w'.heap[gb160]? = some (.cells #[u161000, u161001, .int .i64 a0_2] 32 (0, 0))) ∧ qS (Below w.heap.size w w'))
   case atStart => exact ⟨(y157), (0), (0), (0), (([] : List Int)), (([] : List Int)), (.slice none 0 0), (.slice none 0 0), rf, H', ⟨Nat.le_refl _⟩, ⟨rF HO159 BK160⟩, ⟨rN⟩, ⟨rN⟩, ⟨bQ BK154⟩, ⟨bQ BK155⟩, ⟨bQ BK160⟩, ⟨lS HB⟩⟩
   case round =>
    clear H'
    (try clear c1); (try clear c4); (try clear c5); (try clear c5b0); (try clear c5b1); (try clear c5b2); (try clear c6); (try clear c6b0); (try clear c6b1); (try clear hcz10_0); (try clear hcz10_1); (try clear hcz10_2); (try clear hcz12_0); (try clear hcz12_1); (try clear hcz12_2); (try clear hcz15_0); (try clear hcz15_1); (try clear hcz15_2); (try clear hcz19_0); (try clear hcz19_1); (try clear hcz19_2); (try clear hfz10_0); (try clear hfz10_1); (try clear hfz10_2); (try clear hfz12_0); (try clear hfz12_1); (try clear hfz12_2); (try clear hfz15_0); (try clear hfz15_1); (try clear hfz15_2); (try clear hfz19_0); (try clear hfz19_1); (try clear hfz19_2)
    obtain ⟨x5_1, x26_1, x156000_1, x156003_1, x161000_1, x161001_1, u161000, u161001, rfl, HA, HK1, HO_5, HO_161000, HO_161001, BK154, BK155, BK160, HB⟩ := hrel
    cases gk with
    | zero => exact absurd HA.out (by simp [impl_Transpose.l0])
    | succ k1 =>
     have H := HA.out
     clear HA
     simp only [impl_Transpose.l0] at H
     by_cases c20 : x26_1 < (l1.length : Int)
     ·rw [if_pos c20] at H
      have c20b0 : decide (x26_1 < (l1.length : Int)) = true := decide_eq_true c20
      clear c20
      replace H := gN H
      obtain ⟨c21, H⟩ := H
      have c21b0 : decide (0 ≤ x26_1) = true := decide_eq_true c21
      clear c21
      replace H := gN H
      obtain ⟨c22, H⟩ := H
      have c22b0 : decide (x26_1 < (l1.length : Int)) = true := decide_eq_true c22
      clear c22
      by_cases c23 : (rd l1 x26_1) < 0
      ·rw [if_pos c23] at H
       have c23b0 : decide ((rd l1 x26_1) < 0) = true := decide_eq_true c23
       clear c23
       simp only [Option.some.injEq, Prod.mk.injEq] at H
       obtain ⟨rfl, rfl, rfl, rfl⟩ := H
       obtain ⟨ad161, e161, hx161_0, -, p161, q161⟩ := aI HR1 HB x26_1
       cases e161
       have hnb24 := NB155_154.out
       have hnc24 := NB154_155.out
       have hnb25 := NB155_160.out
       have hnc25 := NB160_155.out
       obtain ⟨hcz26_0, hcz26_1, hcz26_2, hcz26_3, hfz26_0, hfz26_1, hfz26_2, hfz26_3⟩ := bx4 BK155
       go_wp2
       refine bodyPost_ret (rC gb155 53 #[.int .i64 5, .slice none 0 0, .slice none 0 0, .int .i64 0] (bQ BK155) Try.underlying53) rfl ?_
       exact ⟨_, _, rg, rN, rN, lS HB⟩
      ·rw [if_neg c23] at H
       have c23b0 : decide ((rd l1 x26_1) < 0) = false := decide_eq_false c23
       clear c23
       by_cases c27 : (rd l1 x26_1) ≥ (l1.length : Int)
       ·rw [if_pos c27] at H
        have c27b0 : decide ((l1.length : Int) ≤ (rd l1 x26_1)) = true := decide_eq_true c27
        clear c27
        simp only [Option.some.injEq, Prod.mk.injEq] at H
        obtain ⟨rfl, rfl, rfl, rfl⟩ := H
        obtain ⟨ad161, e161, hx161_0, -, p161, q161⟩ := aI HR1 HB x26_1
        cases e161
        have hnb28 := NB155_154.out
        have hnc28 := NB154_155.out
        have hnb29 := NB155_160.out
        have hnc29 := NB160_155.out
        obtain ⟨hcz30_0, hcz30_1, hcz30_2, hcz30_3, hfz30_0, hfz30_1, hfz30_2, hfz30_3⟩ := bx4 BK155
        go_wp2
        refine bodyPost_ret (rC gb155 53 #[.int .i64 5, .slice none 0 0, .slice none 0 0, .int .i64 0] (bQ BK155) Try.underlying53) rfl ?_
        exact ⟨_, _, rg, rN, rN, lS HB⟩
       ·rw [if_neg c27] at H
        have c27b0 : decide ((l1.length : Int) ≤ (rd l1 x26_1)) = false := decide_eq_false c27
        clear c27
        replace H := gN H
        obtain ⟨c31, H⟩ := H
        have c31b0 : decide (0 ≤ (rd l1 x26_1)) = true := decide_eq_true c31
        clear c31
        replace H := gN H
        obtain ⟨c32, H⟩ := H
        have c32b0 : decide ((rd l1 x26_1) < (x5_1.length : Int)) = true := decide_eq_true c32
        clear c32
        obtain ⟨bq33, hbq33⟩ : ∃ b_ : Bool, b_ = (rdOf false x5_1 (rd l1 x26_1)) := ⟨_, rfl⟩
        replace H : (if bq33 = true then (some (5, ([] : List Int), ([] : List Int), 0)) else (if (rd l1 x26_1) < (l0_0.length : Int) then (if x161000_1.length < 17592186044416 then (if (rd l1 x26_1) < (l0_1.length : Int) then (if x161001_1.length < 17592186044416 then (impl_Transpose.l0 k1 l1 (x5_1.set ((rd l1 x26_1) : Int).toNat true) l1 (l1.length : Int) (wrap64 (x26_1 + 1)) l0_0 l0_1 a0_2 (x161000_1 ++ [rd l0_0 (rd l1 x26_1)]) (x161001_1 ++ [rd l0_1 (rd l1 x26_1)]) a0_2) else (none)) else (none)) else (none)) else (none))) = some (r1, r2, r3, r4) := by rw [← hbq33] at H; exact H
        have Nbq33 := qS.mk hbq33
        clear hbq33
        by_cases c34 : bq33 = true
        ·subst c34
         rw [if_pos rfl] at H
         simp only [Option.some.injEq, Prod.mk.injEq] at H
         obtain ⟨rfl, rfl, rfl, rfl⟩ := H
         obtain ⟨ad161, e161, hx161_0, -, p161, q161⟩ := aI HR1 HB x26_1
         cases e161
         have hl5 : x5_1.length = 4 := (Kd.qY HO_5.out).1.symm
         have p162 : 0 ≤ ((rd l1 x26_1) : Int) := of_decide_eq_true (by assumption)
         have q162 : (rd l1 x26_1) < (x5_1.length : Int) := of_decide_eq_true (by assumption)
         have r191 : (rd l1 x26_1) < 4 := by omega
         obtain ⟨ad162, e162, hx162_0⟩ := Kd.at_bool (Kd.qY HO_5.out).2.2 (rd l1 x26_1) p162 q162
         (try rw [← Nbq33.out] at hx162_0)
         cases e162

         (first | simp only [add_plain] at hx162_0 | skip)
         replace p162 := eq_true p162
         replace q162 := eq_true q162
         replace r191 := eq_true r191
         have hnb36 := NB155_154.out
         have hnc36 := NB154_155.out
         have hnb37 := NB155_160.out
         have hnc37 := NB160_155.out
         obtain ⟨hcz38_0, hcz38_1, hcz38_2, hcz38_3, hfz38_0, hfz38_1, hfz38_2, hfz38_3⟩ := bx4 BK155
         go_wp2
         refine bodyPost_ret (rC gb155 53 #[.int .i64 5, .slice none 0 0, .slice none 0 0, .int .i64 0] (bQ BK155) Try.underlying53) rfl ?_
         exact ⟨_, _, rg, rN, rN, lS HB⟩
        ·replace c34 := Bool.eq_false_iff.mpr c34
         subst c34
         rw [if_neg (show ¬ (false = true) by decide)] at H
         obtain ⟨y163, hy163⟩ : ∃ y_ : List Bool, y_ = (x5_1.set ((rd l1 x26_1) : Int).toNat true) := ⟨_, rfl⟩
         replace H : (if (rd l1 x26_1) < (l0_0.length : Int) then (if x161000_1.length < 17592186044416 then (if (rd l1 x26_1) < (l0_1.length : Int) then (if x161001_1.length < 17592186044416 then (impl_Transpose.l0 k1 l1 y163 l1 (l1.length : Int) (wrap64 (x26_1 + 1)) l0_0 l0_1 a0_2 (x161000_1 ++ [rd l0_0 (rd l1 x26_1)]) (x161001_1 ++ [rd l0_1 (rd l1 x26_1)]) a0_2) else (none)) else (none)) else (none)) else (none)) = some (r1, r2, r3, r4) := by first | (rw [hy163]; with_reducible exact H) | (have H2_ := (Option.bind_some _ _).symm.trans H; rw [hy163]; with_reducible exact H2_) | (have H2_ := (Option.bind_some _ _).symm.trans H; with_reducible exact H2_) | with_reducible exact H | (rw [hy163]; exact H) | exact H
         have Ny163 := qS.mk hy163
         clear hy163
         replace H := gN H
         obtain ⟨c40, H⟩ := H
         have c40b0 : decide ((rd l1 x26_1) < (l0_0.length : Int)) = true := decide_eq_true c40
         clear c40
         replace H := gN H
         obtain ⟨c41, H⟩ := H
         have LMc41 := qS.mk c41
         clear c41
         obtain ⟨y165, hy165⟩ : ∃ y_ : List Int, y_ = (x161000_1 ++ [rd l0_0 (rd l1 x26_1)]) := ⟨_, rfl⟩
         replace H : (if (rd l1 x26_1) < (l0_1.length : Int) then (if x161001_1.length < 17592186044416 then (impl_Transpose.l0 k1 l1 y163 l1 (l1.length : Int) (wrap64 (x26_1 + 1)) l0_0 l0_1 a0_2 y165 (x161001_1 ++ [rd l0_1 (rd l1 x26_1)]) a0_2) else (none)) else (none)) = some (r1, r2, r3, r4) := by first | (rw [hy165]; with_reducible exact H) | (have H2_ := (Option.bind_some _ _).symm.trans H; rw [hy165]; with_reducible exact H2_) | (have H2_ := (Option.bind_some _ _).symm.trans H; with_reducible exact H2_) | with_reducible exact H | (rw [hy165]; exact H) | exact H
         have Ny165 := qS.mk hy165
         clear hy165
         replace H := gN H
         obtain ⟨c42, H⟩ := H
         have c42b0 : decide ((rd l1 x26_1) < (l0_1.length : Int)) = true := decide_eq_true c42
         clear c42
         replace H := gN H
         obtain ⟨c43, H⟩ := H
         have LMc43 := qS.mk c43
         clear c43
         obtain ⟨y169, hy169⟩ : ∃ y_ : List Int, y_ = (x161001_1 ++ [rd l0_1 (rd l1 x26_1)]) := ⟨_, rfl⟩
         replace H : (impl_Transpose.l0 k1 l1 y163 l1 (l1.length : Int) (wrap64 (x26_1 + 1)) l0_0 l0_1 a0_2 y165 y169 a0_2) = some (r1, r2, r3, r4) := by first | (rw [hy169]; with_reducible exact H) | (have H2_ := (Option.bind_some _ _).symm.trans H; rw [hy169]; with_reducible exact H2_) | (have H2_ := (Option.bind_some _ _).symm.trans H; with_reducible exact H2_) | with_reducible exact H | (rw [hy169]; exact H) | exact H
         have Ny169 := qS.mk hy169
         clear hy169
         have H' := qS.mk H
         clear H
         obtain ⟨ad161, e161, hx161_0, -, p161, q161⟩ := aI HR1 HB x26_1
         cases e161
         have hl5 : x5_1.length = 4 := (Kd.qY HO_5.out).1.symm
         have p162 : 0 ≤ ((rd l1 x26_1) : Int) := of_decide_eq_true (by assumption)
         have q162 : (rd l1 x26_1) < (x5_1.length : Int) := of_decide_eq_true (by assumption)
         have r191 : (rd l1 x26_1) < 4 := by omega
         obtain ⟨ad162, e162, hx162_0⟩ := Kd.at_bool (Kd.qY HO_5.out).2.2 (rd l1 x26_1) p162 q162
         (try rw [← Nbq33.out] at hx162_0)
         cases e162

         (first | simp only [add_plain] at hx162_0 | skip)
         replace p162 := eq_true p162
         replace q162 := eq_true q162
         have p39 : 0 ≤ ((rd l1 x26_1) : Int) := of_decide_eq_true (by assumption)
         have q39 : ((rd l1 x26_1) : Int) < ((4 : Nat) : Int) := by omega
         have GB39 := GES
         (first | simp only [add_plain] at hx162_0 | skip)
         obtain ⟨hx39_0, hf39_0⟩ := Kd.R_celln false HO_5.out ((rd l1 x26_1) : Int) p39 q39
         replace p39 := eq_true p39
         replace q39 := eq_true q39
         replace r191 := eq_true r191
         have HP45 := Kd.R_putg HO_5.out ((rd l1 x26_1) : Int) true
         try go_wp2_with (first | ((with_reducible refine gate_store (t := 4) (p := 44) rfl ?_); refine sE (w1 := wr.setCell ⟨gbS, ((rd l1 x26_1) : Int).toNat, none⟩ (.bool true)) ?_; intro w46 hw; have hg : wr.grownBy w46 (some gbS) := (by rw [hw]; exact HP45.2); have hp_ : Kd.R Kd.bool 108 w46 w.heap.size (fun _ => True) (.slice (some ⟨gbS, 0, none⟩) 4 4) y163 := (by rw [hw, Ny163.out]; exact HP45.1); clear HP45; replace HO_161000 := qS.mk (Kd.R_over' (v := (.slice (some ⟨gbS, 0, none⟩) 4 4)) (rS HO_161000) (Kd.zD HO_5.out) (by decide) hg); replace HO_161001 := qS.mk (Kd.R_over' (v := (.slice (some ⟨gbS, 0, none⟩) 4 4)) (rS HO_161001) (Kd.zD HO_5.out) (by decide) hg); replace BK154 := gB BK154 hg (Kd.R_ne HO_5.out BK154.out (by decide)); replace BK155 := gB BK155 hg (Kd.R_ne HO_5.out BK155.out (by decide)); replace BK160 := gB BK160 hg (Kd.R_ne HO_5.out BK160.out (by decide)); replace HO_5 := qS.mk (hp_); replace HB := qS.mk ((by rw [hw]; exact qD (HB.out) GB39.out : Below w.heap.size w w46)); clear hg hw hp_))
         replace HO_5 := rD HO_5; replace HO_161000 := rD HO_161000; replace HO_161001 := rD HO_161001; replace BK154 := bD BK154; replace BK155 := bD BK155; replace BK160 := bD BK160; replace HB := lD HB
         obtain ⟨ad164, e164, hx164_0, hw164_0, p164, q164⟩ := aI HR0_0 HB (rd l1 x26_1)
         cases e164
         refine start_ (n := 11) (S := fun w' => w'.cell? ⟨gb160, 0, none⟩ = some (u161000) ∧ w'.cell? ⟨gb160, 1, none⟩ = some (u161001) ∧ w'.cell? ⟨gb160, 2, none⟩ = some (.int .i64 a0_2) ∧ w'.cell? ⟨gb154, 0, none⟩ = some (.slice (some ad164) l0_0.length c0_0) ∧ w'.cell? ⟨gb154, 1, none⟩ = some (.slice A0_1 l0_1.length c0_1) ∧ w'.cell? ⟨gb154, 2, none⟩ = some (.int .i64 a0_2) ∧ w'.cell? (ad164.add ((rd l1 x26_1)).toNat) = some (.int .i64 (rd l0_0 (rd l1 x26_1)))) (ds := [10]) (bs 11 0) (by kernel_rfl) rfl rfl ⟨(qJ BK160.out 0).trans rfl, (qJ BK160.out 1).trans rfl, (qJ BK160.out 2).trans rfl, (qJ BK154.out 0).trans rfl, (qJ BK154.out 1).trans rfl, (qJ BK154.out 2).trans rfl, (cU HB hw164_0)⟩ (fun hHeld => ?_); refine with_tabW impl_Transpose.tab13 impl_Transpose.bits13 (fun HT_ HW_ => ?_)
         generalize w46.drew = w47 at HO_5 HO_161000 HO_161001 BK154 BK155 BK160 HB hx164_0 hHeld ⊢
         refine pS 0 45 (bs 11 1) HT_ ?_
         refine pS 2 47 (bs 11 5) HT_ ?_
         refine pS 4 49 (bs 11 21) HT_ ?_
         refine tS 1 46 (bs 11 23) HT_ HW_ hHeld ?_
         refine tS 3 48 (bs 11 31) HT_ HW_ hHeld ?_
         refine pS 5 50 (bs 11 63) HT_ ?_
         refine tS 6 51 (bs 11 127) HT_ HW_ hHeld ?_
         refine one_ (i := 7) (N := some 52) (bs 11 255) rfl rfl (one_of HT_.out (by kernel_rfl)) (by decide) (fun K hK => ?_)
         refine value_ (w1 := ?_) (v := ?_) (by rfl) rfl ?_ ?_
         rotate_left 2
         ·go_simp
          constructor
          ·rfl
          ·rfl
         refine hK.out _ _ ⟨(qJ (qG BK160.out _) 0).trans rfl, (qJ (qG BK160.out _) 1).trans rfl, (qJ (qG BK160.out _) 2).trans rfl, (qJ (qG BK154.out _) 0).trans rfl, (qJ (qG BK154.out _) 1).trans rfl, (qJ (qG BK154.out _) 2).trans rfl, (World.cell?_alloc_lt _ _ _ (World.block_lt_of_cell? _ _ ((cU HB hw164_0)))).trans ((cU HB hw164_0))⟩ (fun hHeld => ?_)
         clear hK K
         refine norm_ (a' := ?_) ?_ ?_
         rotate_left
         ·show Act.put _ (some 52) _ = _
          simp only [Act.put, List.setIfInBounds_toArray, List.set_cons_zero, List.set_cons_succ, i64_w, i32_w]
          rfl
         refine one_ (i := 8) (N := some 53) (bs 11 511) rfl rfl (one_of HT_.out (by kernel_rfl)) (by decide) (fun K hK => ?_)
         refine Kd.R_append_step (Kd.int .i64) (w0 := w) w.heap.size (by rfl) (.tmp 46) (.tmp 52) 27 2 (.int .i64 0) 8 rfl Try.underlying27 info2 rfl (by decide) (by omega) u161000 x161000_1 (rd l0_0 (rd l1 x26_1)) [.int .i64 (rd l0_0 (rd l1 x26_1))] (fun k_ => some k_ ≠ (u161001 : Value).ownBlock) (fun _ => False) rfl rfl ?aP (fun _ hk => hk.elim) ?aF ?aO ?aB ?aS ?aL ?_
         (case aP => exact rfl)
         (case aB => exact (lS HB))
         (case aF => exact (fun k_ hk => Kd.fresh' (Kd.R_lt (rS HO_161001)) k_ hk))
         (case aO => exact (rS HO_161000))
         (case aS => exact (qF (lS HB)))
         (case aL => have := LMc41.out; omega)
         intro v166 w48 ho hb hg hat
         rw [← Ny165.out] at ho
         have HO167 := qS.mk (ho); replace HO_5 := qS.mk (Kd.R_over' (rS HO_5) (Kd.zD (rS HO_161000)) (by decide) hg); replace HO_161001 := qS.mk (Kd.R_after (ok := (fun _ => True)) (rT (Kd.qZ HO_161001.out (fun _ hk => ⟨trivial, hk⟩))) hg hat); replace BK154 := gB BK154 hg (Kd.R_ne HO_161000.out BK154.out (by decide)); replace BK155 := gB BK155 hg (Kd.R_ne HO_161000.out BK155.out (by decide)); replace BK160 := gB BK160 hg (Kd.R_ne HO_161000.out BK160.out (by decide)); replace HB := qS.mk (hb); clear HO_161000
         clear ho hb hg hat
         obtain ⟨Ao49, co49, eo49⟩ := Kd.qX HO167.out
         (first | subst eo49 | (injection eo49 with f1_ f2_ f3_; have f4_ := f1_.symm; have f5_ := f3_.symm; clear f1_ f2_ f3_; subst f4_; subst f5_))
         refine hK.out _ _ ⟨(qJ BK160.out 0).trans rfl, (qJ BK160.out 1).trans rfl, (qJ BK160.out 2).trans rfl, (qJ BK154.out 0).trans rfl, (qJ BK154.out 1).trans rfl, (qJ BK154.out 2).trans rfl, (cU HB hw164_0)⟩ (fun hHeld => ?_)
         clear hK K
         refine norm_ (a' := ?_) ?_ ?_
         rotate_left
         ·show Act.put _ (some 53) _ = _
          simp only [Act.put, List.setIfInBounds_toArray, List.set_cons_zero, List.set_cons_succ, i64_w, i32_w]
          rfl
         refine pS 9 54 (bs 11 1023) HT_ ?_
         refine last_ (i := 10) (N := none) (bs 11 2047) rfl rfl (one_of HT_.out (by kernel_rfl)) (by decide) (fun K hK => ?_)
         have hs50 : w48.cell? ⟨gb160, 0, none⟩ = some (u161000) := (qJ BK160.out 0).trans rfl
         have hfs50 := qK BK160.out 0
         have hns50_0 := NB154_160.out
         have hns50_1 := NB155_160.out
         have hms50_0 := NB160_154.out
         have hms50_1 := NB160_155.out
         refine skip_ (w1 := ?_) (by rfl) rfl ?_ ?_
         rotate_left
         ·go_simp
          rfl
         refine hK.out _ _ ?_
         clear hK K
         refine done_ (done_of HT_.out (by kernel_rfl)) ?_
         try go_wp2
         have n0_ : qS (Kd.R Kd.bool 108 (w48.setCell ⟨gb160, 0, none⟩ (.slice Ao49 y165.length co49)) w.heap.size (fun _ => True) (.slice (some ⟨gbS, 0, none⟩) 4 4) y163) := ⟨rF HO_5 BK160⟩
         have n1_ : qS (Kd.R (Kd.int .i64) 2 (w48.setCell ⟨gb160, 0, none⟩ (.slice Ao49 y165.length co49)) w.heap.size (fun k_ => some k_ ≠ (.slice Ao49 y165.length co49 : Value).ownBlock) u161001 x161001_1) := ⟨rF HO_161001 BK160⟩
         have n2_ : qS (Kd.R (Kd.int .i64) 2 (w48.setCell ⟨gb160, 0, none⟩ (.slice Ao49 y165.length co49)) w.heap.size (fun k_ => some k_ ≠ (u161001 : Value).ownBlock) (.slice Ao49 y165.length co49) y165) := ⟨rF HO167 BK160⟩
         have n3_ : qS ((w48.setCell ⟨gb160, 0, none⟩ (.slice Ao49 y165.length co49)).heap[gb154]? = some (.cells #[.slice (some ad164) l0_0.length c0_0, .slice A0_1 l0_1.length c0_1, .int .i64 a0_2] 32 (0, 0))) := ⟨bQ BK154⟩
         have n4_ : qS ((w48.setCell ⟨gb160, 0, none⟩ (.slice Ao49 y165.length co49)).heap[gb155]? = some (.cells #[.int .i64 x156000_1, .slice none 0 0, .slice none 0 0, .int .i64 x156003_1] 53 (0, 0))) := ⟨bQ BK155⟩
         have n5_ : qS ((w48.setCell ⟨gb160, 0, none⟩ (.slice Ao49 y165.length co49)).heap[gb160]? = some (.cells #[.slice Ao49 y165.length co49, u161001, .int .i64 a0_2] 32 (0, 0))) := ⟨bQ BK160⟩
         have n6_ : qS (Below w.heap.size w (w48.setCell ⟨gb160, 0, none⟩ (.slice Ao49 y165.length co49))) := ⟨lS HB⟩
         (try clear HO_5)
         (try clear HO_161001)
         (try clear HO167)
         (try clear BK154)
         (try clear BK155)
         (try clear BK160)
         (try clear HB)
         generalize (w48.setCell ⟨gb160, 0, none⟩ (.slice Ao49 y165.length co49)) = w51 at n0_ n1_ n2_ n3_ n4_ n5_ n6_ ⊢
         have HO_5 := n0_
         have HO_161001 := n1_
         have HO167 := n2_
         have BK154 := n3_
         have BK155 := n4_
         have BK160 := n5_
         have HB := n6_
         clear n0_ n1_ n2_ n3_ n4_ n5_ n6_
         replace HO_5 := rD HO_5; replace HO_161001 := rD HO_161001; replace HO167 := rD HO167; replace BK154 := bD BK154; replace BK155 := bD BK155; replace BK160 := bD BK160; replace HB := lD HB
         obtain ⟨ad168, e168, hx168_0, hw168_0, p168, q168⟩ := aI HR0_1 HB (rd l1 x26_1)
         cases e168
         refine start_ (n := 11) (S := fun w' => w'.cell? ⟨gb160, 0, none⟩ = some (.slice Ao49 y165.length co49) ∧ w'.cell? ⟨gb160, 1, none⟩ = some (u161001) ∧ w'.cell? ⟨gb160, 2, none⟩ = some (.int .i64 a0_2) ∧ w'.cell? ⟨gb154, 0, none⟩ = some (.slice (some ad164) l0_0.length c0_0) ∧ w'.cell? ⟨gb154, 1, none⟩ = some (.slice (some ad168) l0_1.length c0_1) ∧ w'.cell? ⟨gb154, 2, none⟩ = some (.int .i64 a0_2) ∧ w'.cell? (ad168.add ((rd l1 x26_1)).toNat) = some (.int .i64 (rd l0_1 (rd l1 x26_1)))) (ds := [10]) (bs 11 0) (by kernel_rfl) rfl rfl ⟨(qJ BK160.out 0).trans rfl, (qJ BK160.out 1).trans rfl, (qJ BK160.out 2).trans rfl, (qJ BK154.out 0).trans rfl, (qJ BK154.out 1).trans rfl, (qJ BK154.out 2).trans rfl, (cU HB hw168_0)⟩ (fun hHeld => ?_); refine with_tabW impl_Transpose.tab14 impl_Transpose.bits14 (fun HT_ HW_ => ?_)
         generalize w51.drew = w52 at HO_5 HO_161001 HO167 BK154 BK155 BK160 HB hx168_0 hHeld ⊢
         refine pS 0 55 (bs 11 1) HT_ ?_
         refine pS 2 57 (bs 11 5) HT_ ?_
         refine pS 4 59 (bs 11 21) HT_ ?_
         refine tS 1 56 (bs 11 23) HT_ HW_ hHeld ?_
         refine tS 3 58 (bs 11 31) HT_ HW_ hHeld ?_
         refine pS 5 60 (bs 11 63) HT_ ?_
         refine tS 6 61 (bs 11 127) HT_ HW_ hHeld ?_
         refine one_ (i := 7) (N := some 62) (bs 11 255) rfl rfl (one_of HT_.out (by kernel_rfl)) (by decide) (fun K hK => ?_)
         refine value_ (w1 := ?_) (v := ?_) (by rfl) rfl ?_ ?_
         rotate_left 2
         ·go_simp
          constructor
          ·rfl
          ·rfl
         refine hK.out _ _ ⟨(qJ (qG BK160.out _) 0).trans rfl, (qJ (qG BK160.out _) 1).trans rfl, (qJ (qG BK160.out _) 2).trans rfl, (qJ (qG BK154.out _) 0).trans rfl, (qJ (qG BK154.out _) 1).trans rfl, (qJ (qG BK154.out _) 2).trans rfl, (World.cell?_alloc_lt _ _ _ (World.block_lt_of_cell? _ _ ((cU HB hw168_0)))).trans ((cU HB hw168_0))⟩ (fun hHeld => ?_)
         clear hK K
         refine norm_ (a' := ?_) ?_ ?_
         rotate_left
         ·show Act.put _ (some 62) _ = _
          simp only [Act.put, List.setIfInBounds_toArray, List.set_cons_zero, List.set_cons_succ, i64_w, i32_w]
          rfl
         refine one_ (i := 8) (N := some 63) (bs 11 511) rfl rfl (one_of HT_.out (by kernel_rfl)) (by decide) (fun K hK => ?_)
         refine Kd.R_append_step (Kd.int .i64) (w0 := w) w.heap.size (by rfl) (.tmp 56) (.tmp 62) 27 2 (.int .i64 0) 8 rfl Try.underlying27 info2 rfl (by decide) (by omega) u161001 x161001_1 (rd l0_1 (rd l1 x26_1)) [.int .i64 (rd l0_1 (rd l1 x26_1))] (fun k_ => some k_ ≠ (.slice Ao49 y165.length co49 : Value).ownBlock) (fun _ => False) rfl rfl ?aP (fun _ hk => hk.elim) ?aF ?aO ?aB ?aS ?aL ?_
         (case aP => exact rfl)
         (case aB => exact (lS HB))
         (case aF => exact (fun k_ hk => Kd.fresh' (Kd.R_lt (rS HO167)) k_ hk))
         (case aO => exact (rS HO_161001))
         (case aS => exact (qF (lS HB)))
         (case aL => have := LMc43.out; omega)
         intro v170 w53 ho hb hg hat
         rw [← Ny169.out] at ho
         have HO171 := qS.mk (ho); replace HO_5 := qS.mk (Kd.R_over' (rS HO_5) (Kd.zD (rS HO_161001)) (by decide) hg); replace BK154 := gB BK154 hg (Kd.R_ne HO_161001.out BK154.out (by decide)); replace BK155 := gB BK155 hg (Kd.R_ne HO_161001.out BK155.out (by decide)); replace BK160 := gB BK160 hg (Kd.R_ne HO_161001.out BK160.out (by decide)); replace HO167 := qS.mk (Kd.R_after (ok := (fun _ => True)) (rT (Kd.qZ HO167.out (fun _ hk => ⟨trivial, hk⟩))) hg hat); replace HB := qS.mk (hb); clear HO_161001
         clear ho hb hg hat
         obtain ⟨Ao54, co54, eo54⟩ := Kd.qX HO171.out
         (first | subst eo54 | (injection eo54 with f1_ f2_ f3_; have f4_ := f1_.symm; have f5_ := f3_.symm; clear f1_ f2_ f3_; subst f4_; subst f5_))
         refine hK.out _ _ ⟨(qJ BK160.out 0).trans rfl, (qJ BK160.out 1).trans rfl, (qJ BK160.out 2).trans rfl, (qJ BK154.out 0).trans rfl, (qJ BK154.out 1).trans rfl, (qJ BK154.out 2).trans rfl, (cU HB hw168_0)⟩ (fun hHeld => ?_)
         clear hK K
         refine norm_ (a' := ?_) ?_ ?_
         rotate_left
         ·show Act.put _ (some 63) _ = _
          simp only [Act.put, List.setIfInBounds_toArray, List.set_cons_zero, List.set_cons_succ, i64_w, i32_w]
          rfl
         refine pS 9 64 (bs 11 1023) HT_ ?_
         refine last_ (i := 10) (N := none) (bs 11 2047) rfl rfl (one_of HT_.out (by kernel_rfl)) (by decide) (fun K hK => ?_)
         have hs55 : w53.cell? ⟨gb160, 1, none⟩ = some (u161001) := (qJ BK160.out 1).trans rfl
         have hfs55 := qK BK160.out 1
         have hns55_0 := NB154_160.out
         have hns55_1 := NB155_160.out
         have hms55_0 := NB160_154.out
         have hms55_1 := NB160_155.out
         refine skip_ (w1 := ?_) (by rfl) rfl ?_ ?_
         rotate_left
         ·go_simp
          rfl
         refine hK.out _ _ ?_
         clear hK K
         refine done_ (done_of HT_.out (by kernel_rfl)) ?_
         try go_wp2
         go_roundg k1
         case measure => have := HK1.out; omega
         case rel => exact ⟨(y163), (wrap64 (x26_1 + 1)), (x156000_1), (x156003_1), (y165), (y169), (.slice Ao49 y165.length co49), (.slice Ao54 y169.length co54), rf, H', ⟨by have := HK1.out; omega⟩, ⟨rF HO_5 BK160⟩, ⟨rF HO167 BK160⟩, ⟨rF HO171 BK160⟩, ⟨bQ BK154⟩, ⟨bQ BK155⟩, ⟨bQ BK160⟩, ⟨lS HB⟩⟩
     ·rw [if_neg c20] at H
      have c20b0 : decide (x26_1 < (l1.length : Int)) = false := decide_eq_false c20
      clear c20
      simp only [Option.some.injEq, Prod.mk.injEq] at H
      obtain ⟨rfl, rfl, rfl, rfl⟩ := H
      have hnb56 := NB160_154.out
      have hnc56 := NB154_160.out
      have hnb57 := NB160_155.out
      have hnc57 := NB155_160.out
      obtain ⟨hcz58_0, hcz58_1, hcz58_2, hfz58_0, hfz58_1, hfz58_2⟩ := bx3 BK160
      obtain ⟨Ao59, co59, eo59⟩ := Kd.qX HO_161001.out
      subst eo59
      obtain ⟨Ao60, co60, eo60⟩ := Kd.qX HO_161000.out
      subst eo60
      have hnb61 := NB155_154.out
      have hnc61 := NB154_155.out
      obtain ⟨hcz62_0, hcz62_1, hcz62_2, hcz62_3, hfz62_0, hfz62_1, hfz62_2, hfz62_3⟩ := bx4 BK155
      go_wp2
      refine bodyPost_ret (rC gb155 53 #[.int .i64 0, .slice Ao60 x161000_1.length co60, .slice Ao59 x161001_1.length co59, .int .i64 a0_2] (bQ BK155) Try.underlying53) rfl ?_
      exact ⟨_, _, rg, rF HO_161000 BK155, rF HO_161001 BK155, lS HB⟩
  ·rw [if_neg c5] at H
   have c5b0 : ((l1.length : Int) == (l0_0.length : Int)) = false := beq_eq_false_iff_ne.mpr c5
   have c5b1 : ((l1.length : Int) != (l0_0.length : Int)) = true := bne_iff_ne.mpr c5
   have c5b2 : (l1.length == l0_0.length) = false := by first | simpa using c5 | (simp at c5 ⊢; omega)
   simp only [Option.some.injEq, Prod.mk.injEq] at H
   obtain ⟨rfl, rfl, rfl, rfl⟩ := H
   go_enter Try.func50, Try.ntmps50
   go_wp2_with (first | ((with_reducible refine gate_dst (N := 2) rfl ?_); (try (refine gate_guard (by rfl) ?_; dsimp only)); refine bE #[.slice A0_0 l0_0.length c0_0, .slice A0_1 l0_1.length c0_1, .int .i64 a0_2] 32 ?_; intro gb154 hg w63 hbox hb; have BK154 := qS.mk (hbox); have GW154 := mG HB hg; have GE154 := mG HB hg; replace HB := mS HB hb; clear hb hbox hg) | ((with_reducible refine gate_dst (N := 4) rfl ?_); (try (refine gate_guard (by rfl) ?_; dsimp only)); refine bE #[.int .i64 0, .slice none 0 0, .slice none 0 0, .int .i64 0] 53 ?_; intro gb155 hg w64 hbox hb; have BK155 := qS.mk (hbox); have GW155 := mG HB hg; have GE155 := mG HB hg; have NB154_155 := mN BK154 hg; have NB155_154 := mM BK154 hg; replace BK154 := mB BK154 hb; replace HB := mS HB hb; clear hb hbox hg; have hnb65 := NB154_155.out; have hnc65 := NB155_154.out; obtain ⟨hcz66_0, hcz66_1, hcz66_2, hfz66_0, hfz66_1, hfz66_2⟩ := bx3 BK154) | ((with_reducible refine gate_callee (f := 26) rfl ?_); refine gL (some 10) Try.func26 #[.agg #[.slice A0_0 l0_0.length c0_0, .slice A0_1 l0_1.length c0_1, .int .i64 a0_2]] ?_; (with_reducible refine (zI.calls k _ _ l0_0 _ _ l0_1 a0_2 true _ (cS (Kd.qW HR0_0.out HB.out)) HC0_0.out (cS (Kd.qW HR0_1.out HB.out)) HC0_1.out A3.out).mono ?_); rintro e w67 ⟨rfl, hb⟩; refine ⟨_, rfl, ?_⟩; replace BK154 := mB BK154 hb; replace BK155 := mB BK155 hb; replace HB := mS HB hb; (try clear hb); (try clear hb2); (try clear hk); (try clear hi); obtain ⟨hcz68_0, hcz68_1, hcz68_2, hfz68_0, hfz68_1, hfz68_2⟩ := bx3 BK154; obtain ⟨hcz69_0, hcz69_1, hcz69_2, hcz69_3, hfz69_0, hfz69_1, hfz69_2, hfz69_3⟩ := bx4 BK155))
   refine bodyPost_ret (rC gb155 53 #[.int .i64 5, .slice none 0 0, .slice none 0 0, .int .i64 0] (bQ BK155) Try.underlying53) rfl ?_
   exact ⟨_, _, rg, rN, rN, lS HB⟩
 ·replace c4 := Bool.eq_false_iff.mpr c4
  subst c4
  rw [if_neg (show ¬ (false = true) by decide)] at H
  simp only [Option.some.injEq, Prod.mk.injEq] at H
  obtain ⟨rfl, rfl, rfl, rfl⟩ := H
  go_enter Try.func50, Try.ntmps50
  go_wp2_with (first | ((with_reducible refine gate_dst (N := 2) rfl ?_); (try (refine gate_guard (by rfl) ?_; dsimp only)); refine bE #[.slice A0_0 l0_0.length c0_0, .slice A0_1 l0_1.length c0_1, .int .i64 a0_2] 32 ?_; intro gb154 hg w70 hbox hb; have BK154 := qS.mk (hbox); have GW154 := mG HB hg; have GE154 := mG HB hg; replace HB := mS HB hb; clear hb hbox hg) | ((with_reducible refine gate_dst (N := 4) rfl ?_); (try (refine gate_guard (by rfl) ?_; dsimp only)); refine bE #[.int .i64 0, .slice none 0 0, .slice none 0 0, .int .i64 0] 53 ?_; intro gb155 hg w71 hbox hb; have BK155 := qS.mk (hbox); have GW155 := mG HB hg; have GE155 := mG HB hg; have NB154_155 := mN BK154 hg; have NB155_154 := mM BK154 hg; replace BK154 := mB BK154 hb; replace HB := mS HB hb; clear hb hbox hg; have hnb72 := NB154_155.out; have hnc72 := NB155_154.out; obtain ⟨hcz73_0, hcz73_1, hcz73_2, hfz73_0, hfz73_1, hfz73_2⟩ := bx3 BK154) | ((with_reducible refine gate_callee (f := 26) rfl ?_); refine gL (some 10) Try.func26 #[.agg #[.slice A0_0 l0_0.length c0_0, .slice A0_1 l0_1.length c0_1, .int .i64 a0_2]] ?_; (with_reducible refine (zI.calls k _ _ l0_0 _ _ l0_1 a0_2 false _ (cS (Kd.qW HR0_0.out HB.out)) HC0_0.out (cS (Kd.qW HR0_1.out HB.out)) HC0_1.out A3.out).mono ?_); rintro e w74 ⟨rfl, hb⟩; refine ⟨_, rfl, ?_⟩; replace BK154 := mB BK154 hb; replace BK155 := mB BK155 hb; replace HB := mS HB hb; (try clear hb); (try clear hb2); (try clear hk); (try clear hi); obtain ⟨hcz75_0, hcz75_1, hcz75_2, hcz75_3, hfz75_0, hfz75_1, hfz75_2, hfz75_3⟩ := bx4 BK155))
  refine bodyPost_ret (rC gb155 53 #[.int .i64 12, .slice none 0 0, .slice none 0 0, .int .i64 0] (bQ BK155) Try.underlying53) rfl ?_
  exact ⟨_, _, rg, rN, rN, lS HB⟩

end Go.Proofs.Ytpmdgmnpkdoamaa.DFnViews
