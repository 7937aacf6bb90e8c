/- Proved here: what the functions answer that the law on  comes to (the lines were written by a program). Conditions: those that stand ahead in each theorem. -/
import Derived.Test.YtpmdgmnpkdoamaaViWSq
import Derived.Test.YtpmdgmnpkdoamaaViDFnViewsx0
namespace Go.Proofs.Ytpmdgmnpkdoamaa.DFnViews
open Go.RowKit Go.Proofs.YtpmdgmnpkdoamaaW.PrintWords Go.Proofs.YtpmdgmnpkdoamaaW.PrintLast Go.Proofs.YtpmdgmnpkdoamaaW.PrintMore
attribute [local go_sem] max2_int min2_int max_two min_two max_three min_three max_four min_four   -- for this text's walks alone
set_option linter.unusedVariables false
set_option linter.unusedSimpArgs false

def spec_l2Right.f (a0 : Int) (a1 : Int) (a2 : Int) (a3 : Int) : Option (Int) := if a0 < 0 then (if (wrap64 (a0 + a1)) < a2 then (some a2) else (some (wrap64 (a0 + a1)))) else (if a0 > a3 then (some a3) else (some a0))
set_option maxHeartbeats 8000000 in
set_option maxRecDepth 100000 in
theorem spec_l2Right.calls (a0 : Int) (a1 : Int) (a2 : Int) (a3 : Int) (r : Int) (w : World) (h : spec_l2Right.f a0 a1 a2 a3 = some r) :
  Calls Try.prog 100 #[.int .i64 a0, .int .i64 a1, .int .i64 a2, .int .i64 a3] w fun e w' => e = .returned (.int .i64 r) ∧ zA w w' := by
 have H : (if a0 < 0 then (if (wrap64 (a0 + a1)) < a2 then (some a2) else (some (wrap64 (a0 + a1)))) else (if a0 > a3 then (some a3) else (some a0))) = some r := h
 clear h
 by_cases c5 : a0 < 0
 ·rw [if_pos c5] at H
  have c5b0 : decide (a0 < 0) = true := decide_eq_true c5
  clear c5
  by_cases c6 : (wrap64 (a0 + a1)) < a2
  ·rw [if_pos c6] at H
   have c6b0 : decide ((wrap64 (a0 + a1)) < a2) = true := decide_eq_true c6
   clear c6
   obtain rfl := Option.some.inj H
   go_enter Try.func100, Try.ntmps100
   go_wp2
   go_ret
   exact ⟨rf, dn⟩
  ·rw [if_neg c6] at H
   have c6b0 : decide ((wrap64 (a0 + a1)) < a2) = false := decide_eq_false c6
   clear c6
   obtain rfl := Option.some.inj H
   go_enter Try.func100, Try.ntmps100
   go_wp2
   go_ret
   exact ⟨rf, dn⟩
 ·rw [if_neg c5] at H
  have c5b0 : decide (a0 < 0) = false := decide_eq_false c5
  clear c5
  by_cases c7 : a0 > a3
  ·rw [if_pos c7] at H
   have c7b0 : decide (a3 < a0) = true := decide_eq_true c7
   clear c7
   obtain rfl := Option.some.inj H
   go_enter Try.func100, Try.ntmps100
   go_wp2
   go_ret
   exact ⟨rf, dn⟩
  ·rw [if_neg c7] at H
   have c7b0 : decide (a3 < a0) = false := decide_eq_false c7
   clear c7
   obtain rfl := Option.some.inj H
   go_enter Try.func100, Try.ntmps100
   go_wp2
   go_ret
   exact ⟨rf, dn⟩

def spec_l2CopyList.l0 : Nat → List Int → List Int → Int → Option (List Int)
 | 0, _, _, _ => none
 | k + 1, x0, x3, x4 => if x4 < (x0.length : Int) then (if 0 ≤ x4 then (if x3.length < 17592186044416 then (spec_l2CopyList.l0 k x0 (x3 ++ [rd x0 x4]) (wrap64 (x4 + 1))) else (none)) else (none)) else (some x3)
def spec_l2CopyList.f (k : Nat) (l0 : List Int) : Option (List Int) := spec_l2CopyList.l0 k l0 (([] : List Int)) 0
theorem spec_l2CopyList.mono_l : ∀ k, (∀ y0 y1 y2, LeO (spec_l2CopyList.l0 k y0 y1 y2) (spec_l2CopyList.l0 (k + 1) y0 y1 y2))
 | 0 => fun _ _ _ r h => by simp [spec_l2CopyList.l0] at h
 | k + 1 => by
  have ih0 := spec_l2CopyList.mono_l k
  ·intro y0 y1 y2
   unfold spec_l2CopyList.l0
   repeat' first
   | (with_reducible exact ih0 _ _ _)
   | (with_reducible exact LeO.refl _)
   | (with_reducible exact LeO.none _)
   | (with_reducible refine LeO.ite ?_ ?_)
   | (with_reducible refine LeO.bind ?_ (fun _ => ?_))
   | exact ih0 _ _ _
   | exact LeO.none _
   | refine LeO.ite ?_ ?_
   | refine LeO.bind ?_ (fun _ => ?_)
theorem spec_l2CopyList.mono : ∀ a0 k, LeO (spec_l2CopyList.f k a0) (spec_l2CopyList.f (k + 1) a0) := by
 intro a0 k
 have ih0 := spec_l2CopyList.mono_l k
 unfold spec_l2CopyList.f
 repeat' first
   | (with_reducible exact ih0 _ _ _)
   | (with_reducible exact LeO.refl _)
   | (with_reducible exact LeO.none _)
   | (with_reducible refine LeO.ite ?_ ?_)
   | (with_reducible refine LeO.bind ?_ (fun _ => ?_))
   | exact ih0 _ _ _
   | exact LeO.none _
   | refine LeO.ite ?_ ?_
   | refine LeO.bind ?_ (fun _ => ?_)
set_option maxHeartbeats 8000000 in
set_option maxRecDepth 100000 in
theorem spec_l2CopyList.calls (k : Nat) (A0 : Option Addr) (c0 : Nat) (l0 : List Int) (r : List Int) (w : World) (hr0 : Kd.C (Kd.int .i64) w A0 l0.length l0) (hc0 : l0.length ≤ c0) (h : spec_l2CopyList.f k l0 = some r) :
  Calls Try.prog 108 #[.slice A0 l0.length c0] w fun e w' => ∃ v0_ : Value, e = .returned (v0_) ∧ Kd.R (Kd.int .i64) 2 w' w.heap.size (fun _ => True) v0_ r ∧ Below w.heap.size w w' := by
 have HR0 := qS.mk hr0
 have HC0 := qS.mk hc0
 clear hr0 hc0
 have HB := qS.mk (Below.refl w.heap.size w)
 have H : (spec_l2CopyList.l0 k l0 (([] : List Int)) 0) = some r := h
 clear h
 obtain ⟨y222, hy222⟩ : ∃ y_ : List Int, y_ = (([] : List Int)) := ⟨_, rfl⟩
 replace H : (spec_l2CopyList.l0 k l0 y222 0) = some r := by first | (rw [hy222]; with_reducible exact H) | (have H2_ := (Option.bind_some _ _).symm.trans H; rw [hy222]; with_reducible exact H2_) | (have H2_ := (Option.bind_some _ _).symm.trans H; with_reducible exact H2_) | with_reducible exact H | (rw [hy222]; exact H) | exact H
 have Ny222 := qS.mk hy222
 clear hy222
 have H' := qS.mk H
 clear H
 go_enter Try.func108, Try.ntmps108
 go_wp2_with (first | ((with_reducible refine gate_dst (N := 5) rfl ?_); refine Kd.R_lit (Kd.int .i64) _ 2 ?hg (N := 5) ?hd (xs := ([] : List Int)) (inner := []) (ok := fun _ => True) (okp := fun _ => True) ?hr ?hp (fun _ hk => hk) trivial (Below.refl _ _) (Nat.le_refl _) (by simp) ?_; (case hd => rfl); (case hg => rfl); (case hr => first | (go_simp; done) | (go_simp; rfl)); (case hp => exact (Reps.none _ _)); intro v223 w2 ho3 hb hg_ hnew_; clear hg_ hnew_; (first | rw [← Ny222.out] at ho3 | (simp only [Int.reduceToNat] at ho3; rw [← Ny222.out] at ho3)); have HO224 := qS.mk (Kd.R_lower ho3 (qF (lS HB))); replace HB := mS HB hb; clear hb ho3))
 go_loopg [3, 4] k (fun kq v3 v4 w' => ∃ (x3_1 : List Int) (x4_1 : Int), v4 = .int .i64 x4_1 ∧ qS (spec_l2CopyList.l0 kq l0 x3_1 x4_1 = some r) ∧ qS (kq ≤ k) ∧ qS (Kd.R (Kd.int .i64) 2 w' w.heap.size (fun _ => True) v3 x3_1) ∧ qS (Below w.heap.size w w'))
 case atStart => exact ⟨(y222), (0), rf, H', ⟨Nat.le_refl _⟩, ⟨rS HO224⟩, ⟨lS HB⟩⟩
 case round =>
  clear H'
  obtain ⟨x3_1, x4_1, rfl, HA, HK1, HO_3, HB⟩ := hrel
  cases gk with
  | zero => exact absurd HA.out (by simp [spec_l2CopyList.l0])
  | succ k1 =>
   have H := HA.out
   clear HA
   simp only [spec_l2CopyList.l0] at H
   by_cases c4 : x4_1 < (l0.length : Int)
   ·rw [if_pos c4] at H
    have c4b0 : decide (x4_1 < (l0.length : Int)) = true := decide_eq_true c4
    clear c4
    replace H := gN H
    obtain ⟨c5, H⟩ := H
    have c5b0 : decide (0 ≤ x4_1) = true := decide_eq_true c5
    clear c5
    replace H := gN H
    obtain ⟨c6, H⟩ := H
    have LMc6 := qS.mk c6
    clear c6
    obtain ⟨y226, hy226⟩ : ∃ y_ : List Int, y_ = (x3_1 ++ [rd l0 x4_1]) := ⟨_, rfl⟩
    replace H : (spec_l2CopyList.l0 k1 l0 y226 (wrap64 (x4_1 + 1))) = some r := by first | (rw [hy226]; with_reducible exact H) | (have H2_ := (Option.bind_some _ _).symm.trans H; rw [hy226]; with_reducible exact H2_) | (have H2_ := (Option.bind_some _ _).symm.trans H; with_reducible exact H2_) | with_reducible exact H | (rw [hy226]; exact H) | exact H
    have Ny226 := qS.mk hy226
    clear hy226
    have H' := qS.mk H
    clear H
    obtain ⟨ad225, e225, hx225_0, -, p225, q225⟩ := aI HR0 HB x4_1
    cases e225
    go_wp2_with (first | ((with_reducible refine gate_builtin (b := .append) (xs := #[.tmp 12, .tmp 17]) rfl ?_); at_builtin; refine Kd.R_append (Kd.int .i64) (w0 := w) w.heap.size rfl (.tmp 12) (.tmp 17) 27 2 (.int .i64 0) 8 rfl Try.underlying27 info2 rfl (by decide) (by omega) u3 x3_1 (rd l0 x4_1) [.int .i64 (rd l0 x4_1)] (fun _ => True) (fun _ => False) rfl rfl ?aP (fun _ hk => hk.elim) ?aF ?aO ?aB ?aS ?aL ?_; (case aP => exact rfl); (case aB => exact (lS HB)); (case aF => exact (fun _ _ => trivial)); (case aO => exact (rS HO_3)); (case aS => exact (qF (lS HB))); (case aL => have := LMc6.out; omega); intro v227 w7 ho hb hg hat; rw [← Ny226.out] at ho; have HO228 := qS.mk (ho); replace HB := qS.mk (hb); clear HO_3; clear ho hb hg hat))
    go_roundg k1
    case measure => have := HK1.out; omega
    case rel => exact ⟨(y226), (wrap64 (x4_1 + 1)), rf, H', ⟨by have := HK1.out; omega⟩, ⟨rS HO228⟩, ⟨lS HB⟩⟩
   ·rw [if_neg c4] at H
    have c4b0 : decide (x4_1 < (l0.length : Int)) = false := decide_eq_false c4
    clear c4
    obtain rfl := Option.some.inj H
    go_wp2
    go_ret
    exact ⟨_, rg, rS HO_3, lS HB⟩

def spec_l2CopyView.f (k : Nat) (l0_0 : List Int) (l0_1 : List Int) (a0_2 : Int) : Option (List Int × List Int × Int) := (spec_l2CopyList.f k l0_0).bind fun t231 => ((spec_l2CopyList.f k l0_1).bind fun t234 => (some (t231, t234, a0_2)))
theorem spec_l2CopyView.mono : ∀ a0 a1 a2 k, LeO (spec_l2CopyView.f k a0 a1 a2) (spec_l2CopyView.f (k + 1) a0 a1 a2) := by
 intro a0 a1 a2 k
 unfold spec_l2CopyView.f
 repeat' first
   | (with_reducible exact spec_l2CopyList.mono _ _)
   | (with_reducible exact LeO.refl _)
   | (with_reducible exact LeO.none _)
   | (with_reducible refine LeO.ite ?_ ?_)
   | (with_reducible refine LeO.bind ?_ (fun _ => ?_))
   | exact spec_l2CopyList.mono _ _
   | exact LeO.none _
   | refine LeO.ite ?_ ?_
   | refine LeO.bind ?_ (fun _ => ?_)
def spec_l2CopyView.T1 : Bool × List (List Nat × List Nat) := (true, [([], []), ([0], [0]), ([1], [1]), ([], []), ([3], [3]), ([4, 2], [4]), ([], []), ([6], [6]), ([2, 5, 7], [2, 5, 7]), ([8, 5, 0, 1, 2, 3, 4, 5, 6, 7, 8], [8])])
def spec_l2CopyView.B1 : List Nat := [0, 1, 3, 0, 8, 31, 0, 64, 255, 511]
theorem spec_l2CopyView.tab1 : rtab .any (opsOf Try.f101 1) = spec_l2CopyView.T1 := by kernel_rfl
theorem spec_l2CopyView.bits1 : waitsOk spec_l2CopyView.T1.2 spec_l2CopyView.B1 = true := by kernel_rfl
set_option maxHeartbeats 8000000 in
set_option maxRecDepth 100000 in
theorem spec_l2CopyView.calls (k : Nat) (A0_0 : Option Addr) (c0_0 : Nat) (l0_0 : List Int) (A0_1 : Option Addr) (c0_1 : Nat) (l0_1 : List Int) (a0_2 : Int) (r1 : List Int) (r2 : List Int) (r3 : Int) (w : World) (hr0_0 : Kd.C (Kd.int .i64) w A0_0 l0_0.length l0_0) (hc0_0 : l0_0.length ≤ c0_0) (hr0_1 : Kd.C (Kd.int .i64) w A0_1 l0_1.length l0_1) (hc0_1 : l0_1.length ≤ c0_1) (h : spec_l2CopyView.f k l0_0 l0_1 a0_2 = some (r1, r2, r3)) :
  Calls Try.prog 101 #[.agg #[.slice A0_0 l0_0.length c0_0, .slice A0_1 l0_1.length c0_1, .int .i64 a0_2]] w fun e w' => ∃ v0_ v1_ : Value, e = .returned (.agg #[v0_, v1_, .int .i64 r3]) ∧ Kd.R (Kd.int .i64) 2 w' w.heap.size (fun k_ => some k_ ≠ (v1_ : Value).ownBlock) v0_ r1 ∧ Kd.R (Kd.int .i64) 2 w' w.heap.size (fun k_ => some k_ ≠ (v0_ : Value).ownBlock) v1_ r2 ∧ Below w.heap.size w w' := by
 have hu32 := Try.underlying32
 have HR0_0 := qS.mk hr0_0
 have HC0_0 := qS.mk hc0_0
 clear hr0_0 hc0_0
 have HR0_1 := qS.mk hr0_1
 have HC0_1 := qS.mk hc0_1
 clear hr0_1 hc0_1
 have HB := qS.mk (Below.refl w.heap.size w)
 have H : ((spec_l2CopyList.f k l0_0).bind fun t231 => ((spec_l2CopyList.f k l0_1).bind fun t234 => (some (t231, t234, a0_2)))) = some (r1, r2, r3) := h
 clear h
 replace H := Option.bind_eq_some_iff.mp H
 obtain ⟨t231, A20, H⟩ := H
 try dsimp only at H
 have A2 := qS.mk A20
 clear A20
 replace H := Option.bind_eq_some_iff.mp H
 obtain ⟨t234, A30, H⟩ := H
 try dsimp only at H
 have A3 := qS.mk A30
 clear A30
 simp only [Option.some.injEq, Prod.mk.injEq] at H
 obtain ⟨rfl, rfl, rfl⟩ := H
 go_enter Try.func101, Try.ntmps101
 try go_wp2_with (first | ((with_reducible refine gate_dst (N := 1) rfl ?_); refine bE #[.slice A0_0 l0_0.length c0_0, .slice A0_1 l0_1.length c0_1, .int .i64 a0_2] 32 ?_; intro gb229 hg w4 hbox hb; have BK229 := qS.mk (hbox); have GW229 := mG HB hg; have GE229 := mG HB hg; replace HB := mS HB hb; clear hb hbox hg) | ((with_reducible refine gate_dst (N := 2) rfl ?_); refine bE #[.slice none 0 0, .slice none 0 0, .int .i64 0] 32 ?_; intro gb230 hg w5 hbox hb; have BK230 := qS.mk (hbox); have GW230 := mG HB hg; have GE230 := mG HB hg; have NB229_230 := mN BK229 hg; have NB230_229 := mM BK229 hg; replace BK229 := mB BK229 hb; replace HB := mS HB hb; clear hb hbox hg))
 replace BK229 := bD BK229; replace BK230 := bD BK230; replace HB := lD HB
 refine start_ (n := 10) (S := fun w' => w'.cell? ⟨gb229, 0, none⟩ = some (.slice A0_0 l0_0.length c0_0) ∧ w'.cell? ⟨gb229, 1, none⟩ = some (.slice A0_1 l0_1.length c0_1) ∧ w'.cell? ⟨gb229, 2, none⟩ = some (.int .i64 a0_2)) (ds := []) (bs 10 0) (by kernel_rfl) rfl rfl ⟨(qJ BK229.out 0).trans rfl, (qJ BK229.out 1).trans rfl, (qJ BK229.out 2).trans rfl⟩ (fun hHeld => ?_); refine with_tabW spec_l2CopyView.tab1 spec_l2CopyView.bits1 (fun HT_ HW_ => ?_)
 generalize w5.drew = w6 at BK229 BK230 HB hHeld ⊢
 refine pS 0 3 (bs 10 1) HT_ ?_
 refine pS 3 6 (bs 10 9) HT_ ?_
 refine pS 6 9 (bs 10 73) HT_ ?_
 refine tS 1 4 (bs 10 75) HT_ HW_ hHeld ?_
 refine tS 4 7 (bs 10 91) HT_ HW_ hHeld ?_
 refine tS 7 10 (bs 10 219) HT_ HW_ hHeld ?_
 refine one_ (i := 2) (N := some 5) (bs 10 223) rfl rfl (one_of HT_.out (by kernel_rfl)) (by decide) (fun K hK => ?_)
 refine goes_ Try.func108 (by kernel_rfl) rfl #[.slice A0_0 l0_0.length c0_0] (by rfl) rfl rfl (by (try simp only [List.map_toArray, List.map_cons, List.map_nil]); first | done | rfl) ?_
 with_reducible refine (spec_l2CopyList.calls k _ _ l0_0 t231 _ ?side1 ?side2 A2.out).mono ?_
 (case side1 => repeat (first | exact (Kd.qW HR0_0.out HB.out) | (with_reducible refine Kd.qP ?_ _) | (with_reducible refine Kd.qQ ?_ _) | (with_reducible refine Kd.qR ?_)))
 (case side2 => exact HC0_0.out)
 rintro e w7 ⟨v232, rfl, ho0, hb⟩
 refine ⟨_, rfl, ?_⟩
 have HO233 := qS.mk (Kd.R_lower ho0 (qF (lS HB))); replace BK229 := mB BK229 hb; replace BK230 := mB BK230 hb; replace HB := mS HB hb
 (try clear hb)
 (try clear ho0)
 refine hK.out _ _ ⟨(qJ BK229.out 0).trans rfl, (qJ BK229.out 1).trans rfl, (qJ BK229.out 2).trans rfl⟩ (fun hHeld => ?_)
 clear hK K
 refine norm_ (a' := ?_) ?_ ?_
 rotate_left
 ·show Act.put _ (some 5) _ = _
  simp only [Act.put, List.setIfInBounds_toArray, List.set_cons_zero, List.set_cons_succ, i64_w, i32_w]
  rfl
 refine one_ (i := 5) (N := some 8) (bs 10 255) rfl rfl (one_of HT_.out (by kernel_rfl)) (by decide) (fun K hK => ?_)
 refine goes_ Try.func108 (by kernel_rfl) rfl #[.slice A0_1 l0_1.length c0_1] (by rfl) rfl rfl (by (try simp only [List.map_toArray, List.map_cons, List.map_nil]); first | done | rfl) ?_
 with_reducible refine (spec_l2CopyList.calls k _ _ l0_1 t234 _ ?side1 ?side2 A3.out).mono ?_
 (case side1 => repeat (first | exact (Kd.qW HR0_1.out HB.out) | (with_reducible refine Kd.qP ?_ _) | (with_reducible refine Kd.qQ ?_ _) | (with_reducible refine Kd.qR ?_)))
 (case side2 => exact HC0_1.out)
 rintro e w8 ⟨v235, rfl, ho0, hb⟩
 refine ⟨_, rfl, ?_⟩
 have HO236 := qS.mk (Kd.R_lower (Kd.R_new' ho0 (Kd.R_lt (rS HO233))) (qF (lS HB))); replace HO233 := qS.mk (Kd.R_elder' (rS HO233) (Kd.R_base ho0) hb); replace BK229 := mB BK229 hb; replace BK230 := mB BK230 hb; replace HB := mS HB hb
 (try clear hb)
 (try clear ho0)
 obtain ⟨Ao9, co9, eo9⟩ := Kd.qX HO236.out
 (first | subst eo9 | (injection eo9 with f1_ f2_ f3_; have f4_ := f1_.symm; have f5_ := f3_.symm; clear f1_ f2_ f3_; subst f4_; subst f5_))
 obtain ⟨Ao10, co10, eo10⟩ := Kd.qX HO233.out
 (first | subst eo10 | (injection eo10 with f1_ f2_ f3_; have f4_ := f1_.symm; have f5_ := f3_.symm; clear f1_ f2_ f3_; subst f4_; subst f5_))
 refine hK.out _ _ ⟨(qJ BK229.out 0).trans rfl, (qJ BK229.out 1).trans rfl, (qJ BK229.out 2).trans rfl⟩ (fun hHeld => ?_)
 clear hK K
 refine norm_ (a' := ?_) ?_ ?_
 rotate_left
 ·show Act.put _ (some 8) _ = _
  simp only [Act.put, List.setIfInBounds_toArray, List.set_cons_zero, List.set_cons_succ, i64_w, i32_w]
  rfl
 refine pS 8 11 (bs 10 511) HT_ ?_
 refine one_ (i := 9) (N := none) (bs 10 1023) rfl rfl (one_of HT_.out (by kernel_rfl)) (by decide) (fun K hK => ?_)
 have hs11 : w8.cell? ⟨gb230, 0, none⟩ = some (.slice none 0 0) := (qJ BK230.out 0).trans rfl
 have hfs11 := qK BK230.out 0
 have hns11_0 := NB229_230.out
 have hms11_0 := NB230_229.out
 have hs12 : w8.cell? ⟨gb230, 1, none⟩ = some (.slice none 0 0) := (qJ BK230.out 1).trans rfl
 have hfs12 := qK BK230.out 1
 have hns12_0 := NB229_230.out
 have hms12_0 := NB230_229.out
 have hs13 : w8.cell? ⟨gb230, 2, none⟩ = some (.int .i64 0) := (qJ BK230.out 2).trans rfl
 have hfs13 := qK BK230.out 2
 have hns13_0 := NB229_230.out
 have hms13_0 := NB230_229.out
 refine skip_ (w1 := ?_) (by rfl) rfl ?_ ?_
 rotate_left
 ·go_simp
  rfl
 refine hK.out _ _ ⟨((cell_far (p := ⟨gb230, _, none⟩) NB229_230.out _).trans (((cell_far (p := ⟨gb230, _, none⟩) NB229_230.out _).trans (((cell_far (p := ⟨gb230, _, none⟩) NB229_230.out _).trans (hHeld.1)))))), ((cell_far (p := ⟨gb230, _, none⟩) NB229_230.out _).trans (((cell_far (p := ⟨gb230, _, none⟩) NB229_230.out _).trans (((cell_far (p := ⟨gb230, _, none⟩) NB229_230.out _).trans (hHeld.2.1)))))), ((cell_far (p := ⟨gb230, _, none⟩) NB229_230.out _).trans (((cell_far (p := ⟨gb230, _, none⟩) NB229_230.out _).trans (((cell_far (p := ⟨gb230, _, none⟩) NB229_230.out _).trans (hHeld.2.2))))))⟩ (fun hHeld => ?_)
 clear hK K
 refine done_ (done_of HT_.out (by kernel_rfl)) ?_
 try go_wp2
 refine bodyPost_ret (rC gb230 32 #[.slice Ao10 t231.length co10, .slice Ao9 t234.length co9, .int .i64 a0_2] (bQ BK230) Try.underlying32) rfl ?_
 exact ⟨_, _, rg, rF HO233 BK230, rF HO236 BK230, lS HB⟩

end Go.Proofs.Ytpmdgmnpkdoamaa.DFnViews
