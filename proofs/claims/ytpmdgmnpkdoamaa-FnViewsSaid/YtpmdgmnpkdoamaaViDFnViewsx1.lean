/- Proved here: what the functions answer that the law on  comes to (the lines were written by a program). Conditions: those that stand ahead in each theorem. -/
import Derived.Test.YtpmdgmnpkdoamaaViWSq
import Derived.Test.YtpmdgmnpkdoamaaViDFnViewsx0
namespace Go.Proofs.Ytpmdgmnpkdoamaa.DFnViews
open Go.RowKit Go.Proofs.YtpmdgmnpkdoamaaW.PrintWords Go.Proofs.YtpmdgmnpkdoamaaW.PrintLast Go.Proofs.YtpmdgmnpkdoamaaW.PrintMore
attribute [local go_sem] max2_int min2_int max_two min_two max_three min_three max_four min_four   -- for this text's walks alone
set_option linter.unusedVariables false
set_option linter.unusedSimpArgs false

def zL.l0 : Nat → List Int → Int → Int → Option (Int)
 | 0, _, _, _ => none
 | k + 1, x0, x3, x4 => if x4 < (x0.length : Int) then (if 0 ≤ x4 then (if (rd x0 x4) < 0 then (some (-1)) else (if (rd x0 x4) > 4096 then (some (-1)) else (zL.l0 k x0 (wrap64 (x3 * (rd x0 x4))) (wrap64 (x4 + 1))))) else (none)) else (if x3 > 4096 then (some (-1)) else (some x3))
def zL.f (k : Nat) (l0 : List Int) : Option (Int) := if (l0.length : Int) > 4 then (some (-1)) else (zL.l0 k l0 1 0)
theorem zL.mono_l : ∀ k, (∀ y0 y1 y2, LeO (zL.l0 k y0 y1 y2) (zL.l0 (k + 1) y0 y1 y2))
 | 0 => fun _ _ _ r h => by simp [zL.l0] at h
 | k + 1 => by
  have ih0 := zL.mono_l k
  ·intro y0 y1 y2
   unfold zL.l0
   repeat' first
   | (with_reducible exact ih0 _ _ _)
   | (with_reducible exact LeO.refl _)
   | (with_reducible exact LeO.none _)
   | (with_reducible refine LeO.ite ?_ ?_)
   | (with_reducible refine LeO.bind ?_ (fun _ => ?_))
   | exact ih0 _ _ _
   | exact LeO.none _
   | refine LeO.ite ?_ ?_
   | refine LeO.bind ?_ (fun _ => ?_)
theorem zL.mono : ∀ a0 k, LeO (zL.f k a0) (zL.f (k + 1) a0) := by
 intro a0 k
 have ih0 := zL.mono_l k
 unfold zL.f
 repeat' first
   | (with_reducible exact ih0 _ _ _)
   | (with_reducible exact LeO.refl _)
   | (with_reducible exact LeO.none _)
   | (with_reducible refine LeO.ite ?_ ?_)
   | (with_reducible refine LeO.bind ?_ (fun _ => ?_))
   | exact ih0 _ _ _
   | exact LeO.none _
   | refine LeO.ite ?_ ?_
   | refine LeO.bind ?_ (fun _ => ?_)
set_option maxHeartbeats 8000000 in
set_option maxRecDepth 100000 in
theorem zL.calls (k : Nat) (A0 : Option Addr) (c0 : Nat) (l0 : List Int) (r : Int) (w : World) (hr0 : Kd.C (Kd.int .i64) w A0 l0.length l0) (hc0 : l0.length ≤ c0) (h : zL.f k l0 = some r) :
  Calls Try.prog 78 #[.slice A0 l0.length c0] w fun e w' => e = .returned (.int .i64 r) ∧ zA w w' := by
 have HR0 := qS.mk hr0
 have HC0 := qS.mk hc0
 clear hr0 hc0
 have H : (if (l0.length : Int) > 4 then (some (-1)) else (zL.l0 k l0 1 0)) = some r := h
 clear h
 by_cases c2 : (l0.length : Int) > 4
 ·rw [if_pos c2] at H
  have c2b0 : decide (4 < (l0.length : Int)) = true := decide_eq_true c2
  have c2b1 : decide (4 < l0.length) = true := decide_eq_true (by omega)
  clear c2
  obtain rfl := Option.some.inj H
  go_enter Try.func78, Try.ntmps78
  go_wp2
  go_ret
  exact ⟨rf, dn⟩
 ·rw [if_neg c2] at H
  have c2b0 : decide (4 < (l0.length : Int)) = false := decide_eq_false c2
  have c2b1 : decide (4 < l0.length) = false := decide_eq_false (by omega)
  clear c2
  have H' := qS.mk H
  clear H
  go_enter Try.func78, Try.ntmps78
  go_wp2
  go_loopg [3, 4] k (fun kq v3 v4 w' => ∃ (x3_1 : Int) (x4_1 : Int), v3 = .int .i64 x3_1 ∧ v4 = .int .i64 x4_1 ∧ qS (zL.l0 kq l0 x3_1 x4_1 = some r) ∧ qS (kq ≤ k) ∧ zA w w')
  case atStart => exact ⟨(1), (0), rf, rf, H', ⟨Nat.le_refl _⟩, dn⟩
  case round =>
   clear H'
   (try clear c2); (try clear c2b0); (try clear c2b1)
   obtain ⟨x3_1, x4_1, rfl, rfl, HA, HK1, ⟨m1, rfl⟩⟩ := hrel
   cases gk with
   | zero => exact absurd HA.out (by simp [zL.l0])
   | succ k1 =>
    have H := HA.out
    clear HA
    simp only [zL.l0] at H
    by_cases c3 : x4_1 < (l0.length : Int)
    ·rw [if_pos c3] at H
     have c3b0 : decide (x4_1 < (l0.length : Int)) = true := decide_eq_true c3
     clear c3
     replace H := gN H
     obtain ⟨c4, H⟩ := H
     have c4b0 : decide (0 ≤ x4_1) = true := decide_eq_true c4
     clear c4
     by_cases c5 : (rd l0 x4_1) < 0
     ·rw [if_pos c5] at H
      have c5b0 : decide ((rd l0 x4_1) < 0) = true := decide_eq_true c5
      clear c5
      obtain rfl := Option.some.inj H
      obtain ⟨ad101, e101, hx101_0, p101, q101⟩ := aJ HR0 x4_1
      cases e101
      go_wp2
      go_ret
      exact ⟨rf, dn⟩
     ·rw [if_neg c5] at H
      have c5b0 : decide ((rd l0 x4_1) < 0) = false := decide_eq_false c5
      clear c5
      by_cases c6 : (rd l0 x4_1) > 4096
      ·rw [if_pos c6] at H
       have c6b0 : decide (4096 < (rd l0 x4_1)) = true := decide_eq_true c6
       clear c6
       obtain rfl := Option.some.inj H
       obtain ⟨ad101, e101, hx101_0, p101, q101⟩ := aJ HR0 x4_1
       cases e101
       obtain ⟨ad102, e102, hx102_0, p102, q102⟩ := aJ HR0 x4_1
       obtain rfl : ad101 = ad102 := (by injection e102)
       go_wp2
       go_ret
       exact ⟨rf, dn⟩
      ·rw [if_neg c6] at H
       have c6b0 : decide (4096 < (rd l0 x4_1)) = false := decide_eq_false c6
       clear c6
       have H' := qS.mk H
       clear H
       obtain ⟨ad101, e101, hx101_0, p101, q101⟩ := aJ HR0 x4_1
       cases e101
       obtain ⟨ad102, e102, hx102_0, p102, q102⟩ := aJ HR0 x4_1
       obtain rfl : ad101 = ad102 := (by injection e102)
       obtain ⟨ad103, e103, hx103_0, p103, q103⟩ := aJ HR0 x4_1
       obtain rfl : ad101 = ad103 := (by injection e103)
       go_wp2
       go_roundg k1
       case measure => have := HK1.out; omega
       case rel => exact ⟨(wrap64 (x3_1 * (rd l0 x4_1))), (wrap64 (x4_1 + 1)), rf, rf, H', ⟨by have := HK1.out; omega⟩, dn⟩
    ·rw [if_neg c3] at H
     have c3b0 : decide (x4_1 < (l0.length : Int)) = false := decide_eq_false c3
     clear c3
     by_cases c7 : x3_1 > 4096
     ·rw [if_pos c7] at H
      have c7b0 : decide (4096 < x3_1) = true := decide_eq_true c7
      clear c7
      obtain rfl := Option.some.inj H
      go_wp2
      go_ret
      exact ⟨rf, dn⟩
     ·rw [if_neg c7] at H
      have c7b0 : decide (4096 < x3_1) = false := decide_eq_false c7
      clear c7
      obtain rfl := Option.some.inj H
      go_wp2
      go_ret
      exact ⟨rf, dn⟩

mutual
def zJ.l0 : Nat → Int → Int → List Int → Int → List Int → List Int → Int → Option (List Int)
 | 0, _, _, _, _, _, _, _ => none
 | k + 1, x1, x2, x7, x8, x105000, x105001, x105002 => if 0 ≤ x1 then (if x1 < (x105000.length : Int) then (if x8 < (rd x105000 x1) then (if x1 < (x105001.length : Int) then ((zJ.f k x105000 x105001 x105002 (wrap64 (x1 + 1)) (wrap64 (x2 + (wrap64 (x8 * (rd x105001 x1)))))).bind fun t113 => (if x7.length + t113.length < 17592186044416 then (zJ.l0 k x1 x2 (x7 ++ t113) (wrap64 (x8 + 1)) x105000 x105001 x105002) else (none))) else (none)) else (some x7)) else (none)) else (none)
def zJ.f : Nat → List Int → List Int → Int → Int → Int → Option (List Int)
 | 0, _, _, _, _, _ => none
 | k + 1, l0_0, l0_1, a0_2, a1, a2 => if a1 = (l0_0.length : Int) then (some (([a2] : List Int))) else (zJ.l0 k a1 a2 (([] : List Int)) 0 l0_0 l0_1 a0_2)
end
theorem zJ.mono_l : ∀ k, (∀ y0 y1 y2 y3 y4, LeO (zJ.f k y0 y1 y2 y3 y4) (zJ.f (k + 1) y0 y1 y2 y3 y4)) ∧ (∀ y0 y1 y2 y3 y4 y5 y6, LeO (zJ.l0 k y0 y1 y2 y3 y4 y5 y6) (zJ.l0 (k + 1) y0 y1 y2 y3 y4 y5 y6))
 | 0 => ⟨fun _ _ _ _ _ r h => by simp [zJ.f] at h, fun _ _ _ _ _ _ _ r h => by simp [zJ.l0] at h⟩
 | k + 1 => by
  obtain ⟨ih0, ih1⟩ := zJ.mono_l k
  refine ⟨?_, ?_⟩
  ·intro y0 y1 y2 y3 y4
   unfold zJ.f
   repeat' first
   | (with_reducible exact ih0 _ _ _ _ _)
   | (with_reducible exact ih1 _ _ _ _ _ _ _)
   | (with_reducible exact LeO.refl _)
   | (with_reducible exact LeO.none _)
   | (with_reducible refine LeO.ite ?_ ?_)
   | (with_reducible refine LeO.bind ?_ (fun _ => ?_))
   | exact ih0 _ _ _ _ _
   | exact ih1 _ _ _ _ _ _ _
   | exact LeO.none _
   | refine LeO.ite ?_ ?_
   | refine LeO.bind ?_ (fun _ => ?_)
  ·intro y0 y1 y2 y3 y4 y5 y6
   unfold zJ.l0
   repeat' first
   | (with_reducible exact ih0 _ _ _ _ _)
   | (with_reducible exact ih1 _ _ _ _ _ _ _)
   | (with_reducible exact LeO.refl _)
   | (with_reducible exact LeO.none _)
   | (with_reducible refine LeO.ite ?_ ?_)
   | (with_reducible refine LeO.bind ?_ (fun _ => ?_))
   | exact ih0 _ _ _ _ _
   | exact ih1 _ _ _ _ _ _ _
   | exact LeO.none _
   | refine LeO.ite ?_ ?_
   | refine LeO.bind ?_ (fun _ => ?_)
theorem zJ.mono : ∀ a0 a1 a2 a3 a4 k, LeO (zJ.f k a0 a1 a2 a3 a4) (zJ.f (k + 1) a0 a1 a2 a3 a4) := by
 intro a0 a1 a2 a3 a4 k
 obtain ⟨ih0, ih1⟩ := zJ.mono_l k
 exact ih0 a0 a1 a2 a3 a4
def zJ.T7 : Bool × List (List Nat × List Nat) := (true, [([], []), ([], []), ([], []), ([2], [2]), ([], []), ([], []), ([], []), ([6], [6]), ([], []), ([7, 8], [7, 8]), ([9], [9]), ([5, 10], [5, 10]), ([4, 11], [4, 11]), ([1, 3, 12], [1, 3, 12]), ([0, 13, 13], [0, 13]), ([14, 14, 0, 1, 2, 3, 4, 5, 6, 7, 8, 9, 10, 11, 12, 13, 14], [0, 14])])
def zJ.B7 : List Nat := [0, 0, 0, 4, 0, 0, 0, 64, 0, 448, 960, 2016, 4080, 8190, 16383, 32767]
theorem zJ.tab7 : rtab .any (opsOf Try.f79 7) = zJ.T7 := by kernel_rfl
theorem zJ.bits7 : waitsOk zJ.T7.2 zJ.B7 = true := by kernel_rfl
set_option maxHeartbeats 8000000 in
set_option maxRecDepth 100000 in
theorem zJ.calls (k : Nat) : ∀ (A0_0 : Option Addr) (c0_0 : Nat) (l0_0 : List Int) (A0_1 : Option Addr) (c0_1 : Nat) (l0_1 : List Int) (a0_2 : Int) (a1 : Int) (a2 : Int) (r : List Int) (w : World) (hr0_0 : Kd.C (Kd.int .i64) w A0_0 l0_0.length l0_0) (hc0_0 : l0_0.length ≤ c0_0) (hr0_1 : Kd.C (Kd.int .i64) w A0_1 l0_1.length l0_1) (hc0_1 : l0_1.length ≤ c0_1) (h : zJ.f k l0_0 l0_1 a0_2 a1 a2 = some r),
  Calls Try.prog 79 #[.agg #[.slice A0_0 l0_0.length c0_0, .slice A0_1 l0_1.length c0_1, .int .i64 a0_2], .int .i64 a1, .int .i64 a2] w fun e w' => ∃ v0_ : Value, e = .returned (v0_) ∧ Kd.R (Kd.int .i64) 2 w' w.heap.size (fun _ => True) v0_ r ∧ Below w.heap.size w w' := by
 induction k using Nat.strongRecOn with
 | _ k ih =>
 intro A0_0 c0_0 l0_0 A0_1 c0_1 l0_1 a0_2 a1 a2 r w hr0_0 hc0_0 hr0_1 hc0_1 h
 cases k with
 | zero => exact absurd h (by simp [zJ.f])
 | succ k =>
 simp only [zJ.f] at h
 have hu32 := Try.underlying32
 have HR0_0 := qS.mk hr0_0
 have HC0_0 := qS.mk hc0_0
 clear hr0_0 hc0_0
 have HR0_1 := qS.mk hr0_1
 have HC0_1 := qS.mk hc0_1
 clear hr0_1 hc0_1
 have HB := qS.mk (Below.refl w.heap.size w)
 have H : (if a1 = (l0_0.length : Int) then (some (([a2] : List Int))) else (zJ.l0 k a1 a2 (([] : List Int)) 0 l0_0 l0_1 a0_2)) = some r := h
 clear h
 by_cases c4 : a1 = (l0_0.length : Int)
 ·rw [if_pos c4] at H
  have c4b0 : (a1 == (l0_0.length : Int)) = true := beq_iff_eq.mpr c4
  have c4b1 : (a1 != (l0_0.length : Int)) = false := bne_eq_false_iff_eq.mpr c4
  clear c4
  obtain ⟨y105, hy105⟩ : ∃ y_ : List Int, y_ = (([a2] : List Int)) := ⟨_, rfl⟩
  replace H : (some y105) = some r := by first | (rw [hy105]; with_reducible exact H) | (have H2_ := (Option.bind_some _ _).symm.trans H; rw [hy105]; with_reducible exact H2_) | (have H2_ := (Option.bind_some _ _).symm.trans H; with_reducible exact H2_) | with_reducible exact H | (rw [hy105]; exact H) | exact H
  have Ny105 := qS.mk hy105
  clear hy105
  obtain rfl := Option.some.inj H
  go_enter Try.func79, Try.ntmps79
  go_wp2_with (first | ((with_reducible refine gate_dst (N := 3) rfl ?_); refine bE #[.slice A0_0 l0_0.length c0_0, .slice A0_1 l0_1.length c0_1, .int .i64 a0_2] 32 ?_; intro gb104 hg w5 hbox hb; have BK104 := qS.mk (hbox); have GW104 := mG HB hg; have GE104 := mG HB hg; replace HB := mS HB hb; clear hb hbox hg; obtain ⟨hcz6_0, hcz6_1, hcz6_2, hfz6_0, hfz6_1, hfz6_2⟩ := bx3 BK104) | ((with_reducible refine gate_dst (N := 15) rfl ?_); refine Kd.R_lit (Kd.int .i64) _ 2 ?hg (N := 15) ?hd (xs := ([a2] : List Int)) (inner := [.int .i64 a2]) (ok := fun _ => True) (okp := fun _ => True) ?hr ?hp (fun _ hk => hk) trivial (Below.refl _ _) (Nat.le_refl _) (by simp) ?_; (case hd => rfl); (case hg => rfl); (case hr => first | (go_simp; done) | (go_simp; rfl)); (case hp => exact (Reps.one (show Kd.M (Kd.int .i64) _ _ _ a2 [.int .i64 a2] from rfl) (Reps.none _ _))); intro v106 w7 ho8 hb hg_ hnew_; clear hg_ hnew_; (first | rw [← Ny105.out] at ho8 | (simp only [Int.reduceToNat] at ho8; rw [← Ny105.out] at ho8)); have HO107 := qS.mk (Kd.R_lower ho8 (qF (lS HB))); replace BK104 := mB BK104 hb; replace HB := mS HB hb; clear hb ho8))
  go_ret
  exact ⟨_, rg, rS HO107, lS HB⟩
 ·rw [if_neg c4] at H
  have c4b0 : (a1 == (l0_0.length : Int)) = false := beq_eq_false_iff_ne.mpr c4
  have c4b1 : (a1 != (l0_0.length : Int)) = true := bne_iff_ne.mpr c4
  obtain ⟨y108, hy108⟩ : ∃ y_ : List Int, y_ = (([] : List Int)) := ⟨_, rfl⟩
  replace H : (zJ.l0 k a1 a2 y108 0 l0_0 l0_1 a0_2) = some r := by first | (rw [hy108]; with_reducible exact H) | (have H2_ := (Option.bind_some _ _).symm.trans H; rw [hy108]; with_reducible exact H2_) | (have H2_ := (Option.bind_some _ _).symm.trans H; with_reducible exact H2_) | with_reducible exact H | (rw [hy108]; exact H) | exact H
  have Ny108 := qS.mk hy108
  clear hy108
  have H' := qS.mk H
  clear H
  go_enter Try.func79, Try.ntmps79
  go_wp2_with (first | ((with_reducible refine gate_dst (N := 3) rfl ?_); refine bE #[.slice A0_0 l0_0.length c0_0, .slice A0_1 l0_1.length c0_1, .int .i64 a0_2] 32 ?_; intro gb104 hg w9 hbox hb; have BK104 := qS.mk (hbox); have GW104 := mG HB hg; have GE104 := mG HB hg; replace HB := mS HB hb; clear hb hbox hg; obtain ⟨hcz10_0, hcz10_1, hcz10_2, hfz10_0, hfz10_1, hfz10_2⟩ := bx3 BK104) | ((with_reducible refine gate_dst (N := 16) rfl ?_); refine Kd.R_lit (Kd.int .i64) _ 2 ?hg (N := 16) ?hd (xs := ([] : List Int)) (inner := []) (ok := fun _ => True) (okp := fun _ => True) ?hr ?hp (fun _ hk => hk) trivial (Below.refl _ _) (Nat.le_refl _) (by simp) ?_; (case hd => rfl); (case hg => rfl); (case hr => first | (go_simp; done) | (go_simp; rfl)); (case hp => exact (Reps.none _ _)); intro v109 w11 ho12 hb hg_ hnew_; clear hg_ hnew_; (first | rw [← Ny108.out] at ho12 | (simp only [Int.reduceToNat] at ho12; rw [← Ny108.out] at ho12)); have HO110 := qS.mk (Kd.R_lower ho12 (qF (lS HB))); replace BK104 := mB BK104 hb; replace HB := mS HB hb; clear hb ho12))
  go_loopg [7, 8] k (fun kq v7 v8 w' => ∃ (x7_1 : List Int) (x8_1 : Int), v8 = .int .i64 x8_1 ∧ qS (zJ.l0 kq a1 a2 x7_1 x8_1 l0_0 l0_1 a0_2 = some r) ∧ qS (kq ≤ k) ∧ qS (Kd.R (Kd.int .i64) 2 w' w.heap.size (fun _ => True) v7 x7_1) ∧ qS (w'.heap[gb104]? = some (.cells #[(.slice A0_0 l0_0.length c0_0), (.slice A0_1 l0_1.length c0_1), .int .i64 a0_2] 32 (0, 0))) ∧ qS (Below w.heap.size w w'))
  case atStart => exact ⟨(y108), (0), rf, H', ⟨Nat.le_refl _⟩, ⟨rS HO110⟩, ⟨bS BK104⟩, ⟨lS HB⟩⟩
  case round =>
   clear H'
   (try clear c4); (try clear c4b0); (try clear c4b1); (try clear hcz10_0); (try clear hcz10_1); (try clear hcz10_2); (try clear hfz10_0); (try clear hfz10_1); (try clear hfz10_2)
   obtain ⟨x7_1, x8_1, rfl, HA, HK1, HO_7, BK104, HB⟩ := hrel
   cases gk with
   | zero => exact absurd HA.out (by simp [zJ.l0])
   | succ k1 =>
    have H := HA.out
    clear HA
    simp only [zJ.l0] at H
    by_cases c13 : 0 ≤ a1
    ·rw [if_pos c13] at H
     have c13b0 : decide (0 ≤ a1) = true := decide_eq_true c13
     clear c13
     replace H := gN H
     obtain ⟨c14, H⟩ := H
     have c14b0 : decide (a1 < (l0_0.length : Int)) = true := decide_eq_true c14
     clear c14
     by_cases c15 : x8_1 < (rd l0_0 a1)
     ·rw [if_pos c15] at H
      have c15b0 : decide (x8_1 < (rd l0_0 a1)) = true := decide_eq_true c15
      clear c15
      replace H := gN H
      obtain ⟨c16, H⟩ := H
      have c16b0 : decide (a1 < (l0_1.length : Int)) = true := decide_eq_true c16
      clear c16
      replace H := Option.bind_eq_some_iff.mp H
      obtain ⟨t113, A170, H⟩ := H
      try dsimp only at H
      have A17 := qS.mk A170
      clear A170
      replace H := gN H
      obtain ⟨c18, H⟩ := H
      have LMc18 := qS.mk c18
      clear c18
      obtain ⟨y116, hy116⟩ : ∃ y_ : List Int, y_ = (x7_1 ++ t113) := ⟨_, rfl⟩
      replace H : (zJ.l0 k1 a1 a2 y116 (wrap64 (x8_1 + 1)) l0_0 l0_1 a0_2) = some r := by first | (rw [hy116]; with_reducible exact H) | (have H2_ := (Option.bind_some _ _).symm.trans H; rw [hy116]; with_reducible exact H2_) | (have H2_ := (Option.bind_some _ _).symm.trans H; with_reducible exact H2_) | with_reducible exact H | (rw [hy116]; exact H) | exact H
      have Ny116 := qS.mk hy116
      clear hy116
      have H' := qS.mk H
      clear H
      obtain ⟨hcz19_0, hcz19_1, hcz19_2, hfz19_0, hfz19_1, hfz19_2⟩ := bx3 BK104
      obtain ⟨ad111, e111, hx111_0, -, p111, q111⟩ := aI HR0_0 HB a1
      cases e111
      try go_wp2
      replace HO_7 := rD HO_7; replace BK104 := bD BK104; replace HB := lD HB
      obtain ⟨ad112, e112, hx112_0, hw112_0, p112, q112⟩ := aI HR0_1 HB a1
      cases e112
      refine start_ (n := 16) (S := fun w' => w'.cell? ⟨gb104, 0, none⟩ = some (.slice (some ad111) l0_0.length c0_0) ∧ w'.cell? ⟨gb104, 1, none⟩ = some (.slice (some ad112) l0_1.length c0_1) ∧ w'.cell? ⟨gb104, 2, none⟩ = some (.int .i64 a0_2) ∧ w'.cell? (ad112.add (a1).toNat) = some (.int .i64 (rd l0_1 a1))) (ds := []) (bs 16 0) (by kernel_rfl) rfl rfl ⟨(qJ BK104.out 0).trans rfl, (qJ BK104.out 1).trans rfl, (qJ BK104.out 2).trans rfl, (cU HB hw112_0)⟩ (fun hHeld => ?_); refine with_tabW zJ.tab7 zJ.bits7 (fun HT_ HW_ => ?_)
      generalize wr.drew = w20 at HO_7 BK104 HB hx112_0 hHeld ⊢
      refine pS 0 26 (bs 16 1) HT_ ?_
      refine pS 2 28 (bs 16 5) HT_ ?_
      refine pS 3 29 (bs 16 13) HT_ ?_
      refine pS 4 30 (bs 16 29) HT_ ?_
      refine pS 5 31 (bs 16 61) HT_ ?_
      refine pS 6 32 (bs 16 125) HT_ ?_
      refine pS 8 34 (bs 16 381) HT_ ?_
      refine tS 1 27 (bs 16 383) HT_ HW_ hHeld ?_
      refine tS 7 33 (bs 16 511) HT_ HW_ hHeld ?_
      refine pS 9 35 (bs 16 1023) HT_ ?_
      refine tS 10 36 (bs 16 2047) HT_ HW_ hHeld ?_
      refine pS 11 37 (bs 16 4095) HT_ ?_
      refine pS 12 38 (bs 16 8191) HT_ ?_
      refine one_ (i := 13) (N := some 39) (bs 16 16383) rfl rfl (one_of HT_.out (by kernel_rfl)) (by decide) (fun K hK => ?_)
      refine goes_ Try.func79 (by kernel_rfl) rfl #[.agg #[.slice (some ad111) l0_0.length c0_0, .slice (some ad112) l0_1.length c0_1, .int .i64 a0_2], .int .i64 (wrap64 (a1 + 1)), .int .i64 (wrap64 (a2 + (wrap64 (x8_1 * (rd l0_1 a1)))))] (by rfl) rfl rfl (by (try simp only [List.map_toArray, List.map_cons, List.map_nil]); first | done | rfl) ?_
      with_reducible refine (ih k1 (by have := HK1.out; omega) _ _ l0_0 _ _ l0_1 a0_2 (wrap64 (a1 + 1)) (wrap64 (a2 + (wrap64 (x8_1 * (rd l0_1 a1))))) t113 _ ?side1 ?side2 ?side3 ?side4 A17.out).mono ?_
      (case side1 => repeat (first | exact (Kd.qW HR0_0.out HB.out) | (with_reducible refine Kd.qP ?_ _) | (with_reducible refine Kd.qQ ?_ _) | (with_reducible refine Kd.qR ?_)))
      (case side2 => exact HC0_0.out)
      (case side3 => repeat (first | exact (Kd.qW HR0_1.out HB.out) | (with_reducible refine Kd.qP ?_ _) | (with_reducible refine Kd.qQ ?_ _) | (with_reducible refine Kd.qR ?_)))
      (case side4 => exact HC0_1.out)
      rintro e w21 ⟨v114, rfl, ho0, hb⟩
      refine ⟨_, rfl, ?_⟩
      have HO115 := qS.mk (Kd.R_lower (Kd.R_new' ho0 (Kd.R_lt (rS HO_7))) (qF (lS HB))); replace HO_7 := qS.mk (Kd.R_elder' (rS HO_7) (Kd.R_base ho0) hb); replace BK104 := mB BK104 hb; replace HB := mS HB hb
      (try clear hb)
      (try clear hk)
      (try clear ho0)
      obtain ⟨Ao23, co23, eo23⟩ := Kd.qX HO115.out
      (first | subst eo23 | (injection eo23 with f1_ f2_ f3_; have f4_ := f1_.symm; have f5_ := f3_.symm; clear f1_ f2_ f3_; subst f4_; subst f5_))
      refine hK.out _ _ ⟨(qJ BK104.out 0).trans rfl, (qJ BK104.out 1).trans rfl, (qJ BK104.out 2).trans rfl, (cU HB hw112_0)⟩ (fun hHeld => ?_)
      clear hK K
      refine norm_ (a' := ?_) ?_ ?_
      rotate_left
      ·show Act.put _ (some 39) _ = _
       simp only [Act.put, List.setIfInBounds_toArray, List.set_cons_zero, List.set_cons_succ, i64_w, i32_w]
       rfl
      refine one_ (i := 14) (N := some 40) (bs 16 32767) rfl rfl (one_of HT_.out (by kernel_rfl)) (by decide) (fun K hK => ?_)
      refine Kd.R_append_rows_step (Kd.int .i64) (w0 := w) w.heap.size (by rfl) (.tmp 26) (.tmp 39) 27 2 (.int .i64 0) 8 rfl Try.underlying27 info2 rfl (by decide) (by omega) u7 x7_1 t113 _ _ _ (fun k_ => some k_ ≠ (.slice Ao23 t113.length co23 : Value).ownBlock) (fun _ => False) rfl rfl ?aO ?aR (fun _ _ h => h) (fun _ h => h.elim) ?aF ?aB ?aS ?aL ?_
      (case aR => repeat (first | exact (Kd.qY HO115.out).2.2 | (with_reducible refine Kd.qP ?_ _) | (with_reducible refine Kd.qQ ?_ _) | (with_reducible refine Kd.qR ?_)))
      (case aB => exact (lS HB))
      (case aF => exact (fun k_ hk => Kd.fresh' (Kd.R_lt (rS HO115)) k_ hk))
      (case aO => exact (rT (Kd.qZ HO_7.out (fun _ hk => hk.2))))
      (case aS => exact (qF (lS HB)))
      (case aL => have := LMc18.out; omega)
      intro v117 w22 ho hb hg hat
      rw [← Ny116.out] at ho
      have HO118 := qS.mk (ho); replace BK104 := gB BK104 hg (Kd.R_ne HO_7.out BK104.out (by decide)); replace HO115 := qS.mk (Kd.R_after (ok := (fun _ => True)) (rS HO115) hg hat); replace HB := qS.mk (hb); clear HO_7
      clear ho hb hg hat
      refine hK.out _ _ ⟨(qJ BK104.out 0).trans rfl, (qJ BK104.out 1).trans rfl, (qJ BK104.out 2).trans rfl, (cU HB hw112_0)⟩ (fun hHeld => ?_)
      clear hK K
      refine norm_ (a' := ?_) ?_ ?_
      rotate_left
      ·show Act.put _ (some 40) _ = _
       simp only [Act.put, List.setIfInBounds_toArray, List.set_cons_zero, List.set_cons_succ, i64_w, i32_w]
       rfl
      refine pS 15 7 (bs 16 65535) HT_ ?_
      refine done_ (done_of HT_.out (by kernel_rfl)) ?_
      try go_wp2
      go_roundg k1
      case measure => have := HK1.out; omega
      case rel => exact ⟨(y116), (wrap64 (x8_1 + 1)), rf, H', ⟨by have := HK1.out; omega⟩, ⟨rT (Kd.qZ HO118.out (fun _ hk => trivial))⟩, ⟨bS BK104⟩, ⟨lS HB⟩⟩
     ·rw [if_neg c15] at H
      have c15b0 : decide (x8_1 < (rd l0_0 a1)) = false := decide_eq_false c15
      clear c15
      obtain rfl := Option.some.inj H
      obtain ⟨hcz24_0, hcz24_1, hcz24_2, hfz24_0, hfz24_1, hfz24_2⟩ := bx3 BK104
      obtain ⟨ad111, e111, hx111_0, -, p111, q111⟩ := aI HR0_0 HB a1
      cases e111
      go_wp2
      go_ret
      exact ⟨_, rg, rS HO_7, lS HB⟩
    ·rw [if_neg c13] at H
     exact absurd H (by simp)

end Go.Proofs.Ytpmdgmnpkdoamaa.DFnViews
