/- Proved here: what the functions answer that the law on  comes to (the lines were written by a program). Conditions: those that stand ahead in each theorem. -/
import Derived.Test.YtpmdgmnpkdoamaaViWSq
import Derived.Test.YtpmdgmnpkdoamaaViDFnViewsx0
namespace Go.Proofs.Ytpmdgmnpkdoamaa.DFnViews
open Go.RowKit Go.Proofs.YtpmdgmnpkdoamaaW.PrintWords Go.Proofs.YtpmdgmnpkdoamaaW.PrintLast Go.Proofs.YtpmdgmnpkdoamaaW.PrintMore
attribute [local go_sem] max2_int min2_int max_two min_two max_three min_three max_four min_four   -- for this text's walks alone
set_option linter.unusedVariables false
set_option linter.unusedSimpArgs false

def zM.l0 : Nat → Int → List Int → Int → Int → Option (Int)
 | 0, _, _, _, _ => none
 | k + 1, x3, x6, x7, x8 => if x8 < x7 then (if 0 ≤ x8 then (if x8 < (x6.length : Int) then (zM.l0 k (wrap64 (x3 * (rd x6 x8))) x6 x7 (wrap64 (x8 + 1))) else (none)) else (none)) else (some x3)
def zM.f (k : Nat) (l0 : List Int) : Option (Int) := zM.l0 k 1 l0 (l0.length : Int) 0
theorem zM.mono_l : ∀ k, (∀ y0 y1 y2 y3, LeO (zM.l0 k y0 y1 y2 y3) (zM.l0 (k + 1) y0 y1 y2 y3))
 | 0 => fun _ _ _ _ r h => by simp [zM.l0] at h
 | k + 1 => by
  have ih0 := zM.mono_l k
  ·intro y0 y1 y2 y3
   unfold zM.l0
   repeat' first
   | (with_reducible exact ih0 _ _ _ _)
   | (with_reducible exact LeO.refl _)
   | (with_reducible exact LeO.none _)
   | (with_reducible refine LeO.ite ?_ ?_)
   | (with_reducible refine LeO.bind ?_ (fun _ => ?_))
   | exact ih0 _ _ _ _
   | exact LeO.none _
   | refine LeO.ite ?_ ?_
   | refine LeO.bind ?_ (fun _ => ?_)
theorem zM.mono : ∀ a0 k, LeO (zM.f k a0) (zM.f (k + 1) a0) := by
 intro a0 k
 have ih0 := zM.mono_l k
 unfold zM.f
 repeat' first
   | (with_reducible exact ih0 _ _ _ _)
   | (with_reducible exact LeO.refl _)
   | (with_reducible exact LeO.none _)
   | (with_reducible refine LeO.ite ?_ ?_)
   | (with_reducible refine LeO.bind ?_ (fun _ => ?_))
   | exact ih0 _ _ _ _
   | exact LeO.none _
   | refine LeO.ite ?_ ?_
   | refine LeO.bind ?_ (fun _ => ?_)
set_option maxHeartbeats 8000000 in
set_option maxRecDepth 100000 in
theorem zM.calls (k : Nat) (A0 : Option Addr) (c0 : Nat) (l0 : List Int) (r : Int) (w : World) (hr0 : Kd.C (Kd.int .i64) w A0 l0.length l0) (hc0 : l0.length ≤ c0) (h : zM.f k l0 = some r) :
  Calls Try.prog 81 #[.slice A0 l0.length c0] w fun e w' => e = .returned (.int .i64 r) ∧ zA w w' := by
 have HR0 := qS.mk hr0
 have HC0 := qS.mk hc0
 clear hr0 hc0
 have H : (zM.l0 k 1 l0 (l0.length : Int) 0) = some r := h
 clear h
 have H' := qS.mk H
 clear H
 go_enter Try.func81, Try.ntmps81
 go_wp2
 go_loopg [3, 8] k (fun kq v3 v8 w' => ∃ (x3_1 : Int) (x8_1 : Int), v3 = .int .i64 x3_1 ∧ v8 = .int .i64 x8_1 ∧ qS (zM.l0 kq x3_1 l0 (l0.length : Int) x8_1 = some r) ∧ qS (kq ≤ k) ∧ zA w w')
 case atStart => exact ⟨(1), (0), rf, rf, H', ⟨Nat.le_refl _⟩, dn⟩
 case round =>
  clear H'
  obtain ⟨x3_1, x8_1, rfl, rfl, HA, HK1, ⟨m1, rfl⟩⟩ := hrel
  cases gk with
  | zero => exact absurd HA.out (by simp [zM.l0])
  | succ k1 =>
   have H := HA.out
   clear HA
   simp only [zM.l0] at H
   by_cases c2 : x8_1 < (l0.length : Int)
   ·rw [if_pos c2] at H
    have c2b0 : decide (x8_1 < (l0.length : Int)) = true := decide_eq_true c2
    clear c2
    replace H := gN H
    obtain ⟨c3, H⟩ := H
    have c3b0 : decide (0 ≤ x8_1) = true := decide_eq_true c3
    clear c3
    replace H := gN H
    obtain ⟨c4, H⟩ := H
    have c4b0 : decide (x8_1 < (l0.length : Int)) = true := decide_eq_true c4
    clear c4
    have H' := qS.mk H
    clear H
    obtain ⟨ad146, e146, hx146_0, p146, q146⟩ := aJ HR0 x8_1
    cases e146
    go_wp2
    go_roundg k1
    case measure => have := HK1.out; omega
    case rel => exact ⟨(wrap64 (x3_1 * (rd l0 x8_1))), (wrap64 (x8_1 + 1)), rf, rf, H', ⟨by have := HK1.out; omega⟩, dn⟩
   ·rw [if_neg c2] at H
    have c2b0 : decide (x8_1 < (l0.length : Int)) = false := decide_eq_false c2
    clear c2
    obtain rfl := Option.some.inj H
    go_wp2
    go_ret
    exact ⟨rf, dn⟩

def zK.l0 : Nat → List Int → List Int → Int → Int → Option (Bool)
 | 0, _, _, _, _ => none
 | k + 1, x0, x8, x9, x10 => if x10 < x9 then (if 0 ≤ x10 then (if x10 < (x8.length : Int) then (if (rd x8 x10) < 0 then (some false) else (if (rd x8 x10) > 4096 then (some false) else (zK.l0 k x0 x8 x9 (wrap64 (x10 + 1))))) else (none)) else (none)) else ((zM.f k x0).bind fun t148 => (some (decide (t148 ≤ 4096))))
def zK.f (k : Nat) (l0 : List Int) : Option (Bool) := if (l0.length : Int) > 4 then (some false) else (zK.l0 k l0 l0 (l0.length : Int) 0)
theorem zK.mono_l : ∀ k, (∀ y0 y1 y2 y3, LeO (zK.l0 k y0 y1 y2 y3) (zK.l0 (k + 1) y0 y1 y2 y3))
 | 0 => fun _ _ _ _ r h => by simp [zK.l0] at h
 | k + 1 => by
  have ih0 := zK.mono_l k
  ·intro y0 y1 y2 y3
   unfold zK.l0
   repeat' first
   | (with_reducible exact ih0 _ _ _ _)
   | (with_reducible exact zM.mono _ _)
   | (with_reducible exact LeO.refl _)
   | (with_reducible exact LeO.none _)
   | (with_reducible refine LeO.ite ?_ ?_)
   | (with_reducible refine LeO.bind ?_ (fun _ => ?_))
   | exact ih0 _ _ _ _
   | exact zM.mono _ _
   | exact LeO.none _
   | refine LeO.ite ?_ ?_
   | refine LeO.bind ?_ (fun _ => ?_)
theorem zK.mono : ∀ a0 k, LeO (zK.f k a0) (zK.f (k + 1) a0) := by
 intro a0 k
 have ih0 := zK.mono_l k
 unfold zK.f
 repeat' first
   | (with_reducible exact ih0 _ _ _ _)
   | (with_reducible exact zM.mono _ _)
   | (with_reducible exact LeO.refl _)
   | (with_reducible exact LeO.none _)
   | (with_reducible refine LeO.ite ?_ ?_)
   | (with_reducible refine LeO.bind ?_ (fun _ => ?_))
   | exact ih0 _ _ _ _
   | exact zM.mono _ _
   | exact LeO.none _
   | refine LeO.ite ?_ ?_
   | refine LeO.bind ?_ (fun _ => ?_)
set_option maxHeartbeats 8000000 in
set_option maxRecDepth 100000 in
theorem zK.calls (k : Nat) (A0 : Option Addr) (c0 : Nat) (l0 : List Int) (r : Bool) (w : World) (hr0 : Kd.C (Kd.int .i64) w A0 l0.length l0) (hc0 : l0.length ≤ c0) (h : zK.f k l0 = some r) :
  Calls Try.prog 80 #[.slice A0 l0.length c0] w fun e w' => e = .returned (.bool r) ∧ zA w w' := by
 have HR0 := qS.mk hr0
 have HC0 := qS.mk hc0
 clear hr0 hc0
 have H : (if (l0.length : Int) > 4 then (some false) else (zK.l0 k l0 l0 (l0.length : Int) 0)) = some r := h
 clear h
 by_cases c2 : (l0.length : Int) > 4
 ·rw [if_pos c2] at H
  have c2b0 : decide (4 < (l0.length : Int)) = true := decide_eq_true c2
  have c2b1 : decide (4 < l0.length) = true := decide_eq_true (by omega)
  clear c2
  obtain rfl := Option.some.inj H
  go_enter Try.func80, Try.ntmps80
  go_wp2
  go_ret
  exact ⟨rf, dn⟩
 ·rw [if_neg c2] at H
  have c2b0 : decide (4 < (l0.length : Int)) = false := decide_eq_false c2
  have c2b1 : decide (4 < l0.length) = false := decide_eq_false (by omega)
  clear c2
  have H' := qS.mk H
  clear H
  go_enter Try.func80, Try.ntmps80
  go_wp2
  go_loopg [10] k (fun kq v10 w' => ∃ (x10_1 : Int), v10 = .int .i64 x10_1 ∧ qS (zK.l0 kq l0 l0 (l0.length : Int) x10_1 = some r) ∧ qS (kq ≤ k) ∧ zA w w')
  case atStart => exact ⟨(0), rf, H', ⟨Nat.le_refl _⟩, dn⟩
  case round =>
   clear H'
   (try clear c2); (try clear c2b0); (try clear c2b1)
   obtain ⟨x10_1, rfl, HA, HK1, ⟨m1, rfl⟩⟩ := hrel
   cases gk with
   | zero => exact absurd HA.out (by simp [zK.l0])
   | succ k1 =>
    have H := HA.out
    clear HA
    simp only [zK.l0] at H
    by_cases c3 : x10_1 < (l0.length : Int)
    ·rw [if_pos c3] at H
     have c3b0 : decide (x10_1 < (l0.length : Int)) = true := decide_eq_true c3
     clear c3
     replace H := gN H
     obtain ⟨c4, H⟩ := H
     have c4b0 : decide (0 ≤ x10_1) = true := decide_eq_true c4
     clear c4
     replace H := gN H
     obtain ⟨c5, H⟩ := H
     have c5b0 : decide (x10_1 < (l0.length : Int)) = true := decide_eq_true c5
     clear c5
     by_cases c6 : (rd l0 x10_1) < 0
     ·rw [if_pos c6] at H
      have c6b0 : decide ((rd l0 x10_1) < 0) = true := decide_eq_true c6
      clear c6
      obtain rfl := Option.some.inj H
      obtain ⟨ad147, e147, hx147_0, p147, q147⟩ := aJ HR0 x10_1
      cases e147
      go_wp2
      go_ret
      exact ⟨rf, dn⟩
     ·rw [if_neg c6] at H
      have c6b0 : decide ((rd l0 x10_1) < 0) = false := decide_eq_false c6
      clear c6
      by_cases c7 : (rd l0 x10_1) > 4096
      ·rw [if_pos c7] at H
       have c7b0 : decide (4096 < (rd l0 x10_1)) = true := decide_eq_true c7
       clear c7
       obtain rfl := Option.some.inj H
       obtain ⟨ad147, e147, hx147_0, p147, q147⟩ := aJ HR0 x10_1
       cases e147
       go_wp2
       go_ret
       exact ⟨rf, dn⟩
      ·rw [if_neg c7] at H
       have c7b0 : decide (4096 < (rd l0 x10_1)) = false := decide_eq_false c7
       clear c7
       have H' := qS.mk H
       clear H
       obtain ⟨ad147, e147, hx147_0, p147, q147⟩ := aJ HR0 x10_1
       cases e147
       go_wp2
       go_roundg k1
       case measure => have := HK1.out; omega
       case rel => exact ⟨(wrap64 (x10_1 + 1)), rf, H', ⟨by have := HK1.out; omega⟩, dn⟩
    ·rw [if_neg c3] at H
     have c3b0 : decide (x10_1 < (l0.length : Int)) = false := decide_eq_false c3
     clear c3
     replace H := Option.bind_eq_some_iff.mp H
     obtain ⟨t148, A80, H⟩ := H
     try dsimp only at H
     have A8 := qS.mk A80
     clear A80
     obtain rfl := Option.some.inj H
     go_wp2_with (first | ((with_reducible refine gate_callee (f := 81) rfl ?_); refine gL (some 22) Try.func81 #[.slice A0 l0.length c0] ?_; (with_reducible refine (zM.calls k1 _ _ l0 t148 _ (cS HR0.out) HC0.out A8.out).mono ?_); rintro e w' ⟨rfl, ⟨nd, rfl⟩⟩; refine ⟨_, rfl, ?_⟩))
     go_ret
     exact ⟨rf, dn⟩

mutual
def zI.j0 : Nat → Bool → List Int → List Int → Int → Option (Bool)
 | 0, _, _, _, _ => none
 | k + 1, x30, x150000, x150001, x150002 => if x30 = true then (some false) else (zI.l0 k x150002 x150002 x150001 (x150001.length : Int) 0 x150000 x150001 x150002)
def zI.l0 : Nat → Int → Int → List Int → Int → Int → List Int → List Int → Int → Option (Bool)
 | 0, _, _, _, _, _, _, _, _ => none
 | k + 1, x3, x4, x36, x37, x38, x150000, x150001, x150002 => if x38 < x37 then (if 0 ≤ x38 then (if x38 < (x36.length : Int) then (if (rd x36 x38) < (-4096) then (some false) else (if (rd x36 x38) > 4096 then (some false) else (if x38 < (x150000.length : Int) then (zI.l0 k (wrap64 (x3 + (mn (wrap64 ((rd x36 x38) * (wrap64 ((rd x150000 x38) - 1)))) 0))) (wrap64 (x4 + (mx (wrap64 ((rd x36 x38) * (wrap64 ((rd x150000 x38) - 1)))) 0))) x36 x37 (wrap64 (x38 + 1)) x150000 x150001 x150002) else (none)))) else (none)) else (none)) else ((zM.f k x150000).bind fun t153 => (if t153 = 0 then (some true) else (if x3 ≥ 0 then (some (decide (x4 < 4096))) else (some false))))
end
def zI.f (k : Nat) (l0_0 : List Int) (l0_1 : List Int) (a0_2 : Int) : Option (Bool) := (zK.f k l0_0).bind fun t150 => (if t150 = true then (if (l0_1.length : Int) = (l0_0.length : Int) then (if a0_2 < 0 then (zI.j0 k true l0_0 l0_1 a0_2) else (zI.j0 k (decide (a0_2 > 4096)) l0_0 l0_1 a0_2)) else (zI.j0 k true l0_0 l0_1 a0_2)) else (zI.j0 k true l0_0 l0_1 a0_2))
theorem zI.mono_l : ∀ k, (∀ y0 y1 y2 y3, LeO (zI.j0 k y0 y1 y2 y3) (zI.j0 (k + 1) y0 y1 y2 y3)) ∧ (∀ y0 y1 y2 y3 y4 y5 y6 y7, LeO (zI.l0 k y0 y1 y2 y3 y4 y5 y6 y7) (zI.l0 (k + 1) y0 y1 y2 y3 y4 y5 y6 y7))
 | 0 => ⟨fun _ _ _ _ r h => by simp [zI.j0] at h, fun _ _ _ _ _ _ _ _ r h => by simp [zI.l0] at h⟩
 | k + 1 => by
  obtain ⟨ih0, ih1⟩ := zI.mono_l k
  refine ⟨?_, ?_⟩
  ·intro y0 y1 y2 y3
   unfold zI.j0
   repeat' first
   | (with_reducible exact ih0 _ _ _ _)
   | (with_reducible exact ih1 _ _ _ _ _ _ _ _)
   | (with_reducible exact zM.mono _ _)
   | (with_reducible exact zK.mono _ _)
   | (with_reducible exact LeO.refl _)
   | (with_reducible exact LeO.none _)
   | (with_reducible refine LeO.ite ?_ ?_)
   | (with_reducible refine LeO.bind ?_ (fun _ => ?_))
   | exact ih0 _ _ _ _
   | exact ih1 _ _ _ _ _ _ _ _
   | exact zM.mono _ _
   | exact zK.mono _ _
   | exact LeO.none _
   | refine LeO.ite ?_ ?_
   | refine LeO.bind ?_ (fun _ => ?_)
  ·intro y0 y1 y2 y3 y4 y5 y6 y7
   unfold zI.l0
   repeat' first
   | (with_reducible exact ih0 _ _ _ _)
   | (with_reducible exact ih1 _ _ _ _ _ _ _ _)
   | (with_reducible exact zM.mono _ _)
   | (with_reducible exact zK.mono _ _)
   | (with_reducible exact LeO.refl _)
   | (with_reducible exact LeO.none _)
   | (with_reducible refine LeO.ite ?_ ?_)
   | (with_reducible refine LeO.bind ?_ (fun _ => ?_))
   | exact ih0 _ _ _ _
   | exact ih1 _ _ _ _ _ _ _ _
   | exact zM.mono _ _
   | exact zK.mono _ _
   | exact LeO.none _
   | refine LeO.ite ?_ ?_
   | refine LeO.bind ?_ (fun _ => ?_)
theorem zI.mono : ∀ a0 a1 a2 k, LeO (zI.f k a0 a1 a2) (zI.f (k + 1) a0 a1 a2) := by
 intro a0 a1 a2 k
 obtain ⟨ih0, ih1⟩ := zI.mono_l k
 unfold zI.f
 repeat' first
   | (with_reducible exact ih0 _ _ _ _)
   | (with_reducible exact ih1 _ _ _ _ _ _ _ _)
   | (with_reducible exact zM.mono _ _)
   | (with_reducible exact zK.mono _ _)
   | (with_reducible exact LeO.refl _)
   | (with_reducible exact LeO.none _)
   | (with_reducible refine LeO.ite ?_ ?_)
   | (with_reducible refine LeO.bind ?_ (fun _ => ?_))
   | exact ih0 _ _ _ _
   | exact ih1 _ _ _ _ _ _ _ _
   | exact zM.mono _ _
   | exact zK.mono _ _
   | exact LeO.none _
   | refine LeO.ite ?_ ?_
   | refine LeO.bind ?_ (fun _ => ?_)
set_option maxHeartbeats 8000000 in
set_option maxRecDepth 100000 in
theorem zI.calls (k : Nat) (A0_0 : Option Addr) (c0_0 : Nat) (l0_0 : List Int) (A0_1 : Option Addr) (c0_1 : Nat) (l0_1 : List Int) (a0_2 : Int) (r : Bool) (w : World) (hr0_0 : Kd.C (Kd.int .i64) w A0_0 l0_0.length l0_0) (hc0_0 : l0_0.length ≤ c0_0) (hr0_1 : Kd.C (Kd.int .i64) w A0_1 l0_1.length l0_1) (hc0_1 : l0_1.length ≤ c0_1) (h : zI.f k l0_0 l0_1 a0_2 = some r) :
  Calls Try.prog 26 #[.agg #[.slice A0_0 l0_0.length c0_0, .slice A0_1 l0_1.length c0_1, .int .i64 a0_2]] w fun e w' => e = .returned (.bool r) ∧ Below w.heap.size w w' := by
 have hu32 := Try.underlying32
 have HR0_0 := qS.mk hr0_0
 have HC0_0 := qS.mk hc0_0
 clear hr0_0 hc0_0
 have HR0_1 := qS.mk hr0_1
 have HC0_1 := qS.mk hc0_1
 clear hr0_1 hc0_1
 have HB := qS.mk (Below.refl w.heap.size w)
 have H : ((zK.f k l0_0).bind fun t150 => (if t150 = true then (if (l0_1.length : Int) = (l0_0.length : Int) then (if a0_2 < 0 then (zI.j0 k true l0_0 l0_1 a0_2) else (zI.j0 k (decide (a0_2 > 4096)) l0_0 l0_1 a0_2)) else (zI.j0 k true l0_0 l0_1 a0_2)) else (zI.j0 k true l0_0 l0_1 a0_2))) = some r := h
 clear h
 have HC2 := qS.mk H
 clear H
 go_enter Try.func26, Try.ntmps26
 go_upto_region 1 with (first | ((with_reducible refine gate_dst (N := 1) rfl ?_); (try (refine gate_guard (by rfl) ?_; dsimp only)); refine bE #[.slice A0_0 l0_0.length c0_0, .slice A0_1 l0_1.length c0_1, .int .i64 a0_2] 32 ?_; intro gb149 hg w3 hbox hb; have BK149 := qS.mk (hbox); have GW149 := mG HB hg; have GE149 := mG HB hg; replace HB := mS HB hb; clear hb hbox hg))
 repeat (go_quiet (first | ((with_reducible refine gate_dst (N := 1) rfl ?_); (try (refine gate_guard (by rfl) ?_; dsimp only)); refine bE #[.slice A0_0 l0_0.length c0_0, .slice A0_1 l0_1.length c0_1, .int .i64 a0_2] 32 ?_; intro gb149 hg w3 hbox hb; have BK149 := qS.mk (hbox); have GW149 := mG HB hg; have GE149 := mG HB hg; replace HB := mS HB hb; clear hb hbox hg)); go_upto_region 1 with (first | ((with_reducible refine gate_dst (N := 1) rfl ?_); (try (refine gate_guard (by rfl) ?_; dsimp only)); refine bE #[.slice A0_0 l0_0.length c0_0, .slice A0_1 l0_1.length c0_1, .int .i64 a0_2] 32 ?_; intro gb149 hg w3 hbox hb; have BK149 := qS.mk (hbox); have GW149 := mG HB hg; have GE149 := mG HB hg; replace HB := mS HB hb; clear hb hbox hg)))
 (try simp only [Act.put, List.setIfInBounds_toArray, List.set_cons_zero, List.set_cons_succ])
 go_cut [30] (fun v30 wc => ∃ (kq : Nat) (x30_1 : Bool), v30 = .bool x30_1 ∧ qS (zI.j0 kq x30_1 l0_0 l0_1 a0_2 = some r) ∧ qS (kq ≤ k) ∧ qS (wc.heap[gb149]? = some (.cells #[(.slice A0_0 l0_0.length c0_0), (.slice A0_1 l0_1.length c0_1), .int .i64 a0_2] 32 (0, 0))) ∧ qS (Below w.heap.size w wc))
 case first =>
  have H := HC2.out
  clear HC2
  replace H := Option.bind_eq_some_iff.mp H
  obtain ⟨t150, A40, H⟩ := H
  try dsimp only at H
  have A4 := qS.mk A40
  clear A40
  by_cases c5 : t150 = true
  ·subst c5
   rw [if_pos rfl] at H
   by_cases c6 : (l0_1.length : Int) = (l0_0.length : Int)
   ·rw [if_pos c6] at H
    have c6b0 : ((l0_1.length : Int) == (l0_0.length : Int)) = true := beq_iff_eq.mpr c6
    have c6b1 : ((l0_1.length : Int) != (l0_0.length : Int)) = false := bne_eq_false_iff_eq.mpr c6
    have c6b2 : (l0_1.length == l0_0.length) = true := by first | simpa using c6 | (simp at c6 ⊢; omega)
    clear c6
    (first | rw [c6b0] | (simp only [i64_w, i32_w]; rw [c6b0]) | skip)
    by_cases c7 : a0_2 < 0
    ·rw [if_pos c7] at H
     have c7b0 : decide (a0_2 < 0) = true := decide_eq_true c7
     clear c7
     have H' := qS.mk H
     clear H
     obtain ⟨hcz8_0, hcz8_1, hcz8_2, hfz8_0, hfz8_1, hfz8_2⟩ := bx3 BK149
     go_wp2_with (first | (go_at_call 80; (with_reducible refine (zK.calls k _ _ l0_0 true _ (cS (Kd.qW HR0_0.out HB.out)) HC0_0.out A4.out).mono ?_); rintro e w' ⟨rfl, ⟨nd, rfl⟩⟩; (try first | exact ⟨rfl, _, World.drewN_drewN _ _ _⟩ | exact ⟨rfl, _, Eq.trans (World.drewN_drewN _ _ _) (congrArg (World.drewN _) (Nat.add_assoc _ _ _))⟩)))
     repeat (go_quiet (first | (go_at_call 80; (with_reducible refine (zK.calls k _ _ l0_0 true _ (cS (Kd.qW HR0_0.out HB.out)) HC0_0.out A4.out).mono ?_); rintro e w' ⟨rfl, ⟨nd, rfl⟩⟩; (try first | exact ⟨rfl, _, World.drewN_drewN _ _ _⟩ | exact ⟨rfl, _, Eq.trans (World.drewN_drewN _ _ _) (congrArg (World.drewN _) (Nat.add_assoc _ _ _))⟩))); try go_wp2_with (first | (go_at_call 80; (with_reducible refine (zK.calls k _ _ l0_0 true _ (cS (Kd.qW HR0_0.out HB.out)) HC0_0.out A4.out).mono ?_); rintro e w' ⟨rfl, ⟨nd, rfl⟩⟩; (try first | exact ⟨rfl, _, World.drewN_drewN _ _ _⟩ | exact ⟨rfl, _, Eq.trans (World.drewN_drewN _ _ _) (congrArg (World.drewN _) (Nat.add_assoc _ _ _))⟩))))
     go_meet
     case rel => exact ⟨_, (true), rf, H', ⟨by first | omega | exact Nat.le_refl _⟩, ⟨bS BK149⟩, ⟨lS HB⟩⟩
    ·rw [if_neg c7] at H
     have c7b0 : decide (a0_2 < 0) = false := decide_eq_false c7
     clear c7
     have H' := qS.mk H
     clear H
     obtain ⟨hcz9_0, hcz9_1, hcz9_2, hfz9_0, hfz9_1, hfz9_2⟩ := bx3 BK149
     go_wp2_with (first | (go_at_call 80; (with_reducible refine (zK.calls k _ _ l0_0 true _ (cS (Kd.qW HR0_0.out HB.out)) HC0_0.out A4.out).mono ?_); rintro e w' ⟨rfl, ⟨nd, rfl⟩⟩; (try first | exact ⟨rfl, _, World.drewN_drewN _ _ _⟩ | exact ⟨rfl, _, Eq.trans (World.drewN_drewN _ _ _) (congrArg (World.drewN _) (Nat.add_assoc _ _ _))⟩)))
     repeat (go_quiet (first | (go_at_call 80; (with_reducible refine (zK.calls k _ _ l0_0 true _ (cS (Kd.qW HR0_0.out HB.out)) HC0_0.out A4.out).mono ?_); rintro e w' ⟨rfl, ⟨nd, rfl⟩⟩; (try first | exact ⟨rfl, _, World.drewN_drewN _ _ _⟩ | exact ⟨rfl, _, Eq.trans (World.drewN_drewN _ _ _) (congrArg (World.drewN _) (Nat.add_assoc _ _ _))⟩))); try go_wp2_with (first | (go_at_call 80; (with_reducible refine (zK.calls k _ _ l0_0 true _ (cS (Kd.qW HR0_0.out HB.out)) HC0_0.out A4.out).mono ?_); rintro e w' ⟨rfl, ⟨nd, rfl⟩⟩; (try first | exact ⟨rfl, _, World.drewN_drewN _ _ _⟩ | exact ⟨rfl, _, Eq.trans (World.drewN_drewN _ _ _) (congrArg (World.drewN _) (Nat.add_assoc _ _ _))⟩))))
     go_meet
     case rel => exact ⟨_, (decide (a0_2 > 4096)), rf, H', ⟨by first | omega | exact Nat.le_refl _⟩, ⟨bS BK149⟩, ⟨lS HB⟩⟩
   ·rw [if_neg c6] at H
    have c6b0 : ((l0_1.length : Int) == (l0_0.length : Int)) = false := beq_eq_false_iff_ne.mpr c6
    have c6b1 : ((l0_1.length : Int) != (l0_0.length : Int)) = true := bne_iff_ne.mpr c6
    have c6b2 : (l0_1.length == l0_0.length) = false := by first | simpa using c6 | (simp at c6 ⊢; omega)
    (first | rw [c6b0] | (simp only [i64_w, i32_w]; rw [c6b0]) | skip)
    have H' := qS.mk H
    clear H
    obtain ⟨hcz10_0, hcz10_1, hcz10_2, hfz10_0, hfz10_1, hfz10_2⟩ := bx3 BK149
    go_wp2_with (first | (go_at_call 80; (with_reducible refine (zK.calls k _ _ l0_0 true _ (cS (Kd.qW HR0_0.out HB.out)) HC0_0.out A4.out).mono ?_); rintro e w' ⟨rfl, ⟨nd, rfl⟩⟩; (try first | exact ⟨rfl, _, World.drewN_drewN _ _ _⟩ | exact ⟨rfl, _, Eq.trans (World.drewN_drewN _ _ _) (congrArg (World.drewN _) (Nat.add_assoc _ _ _))⟩)))
    repeat (go_quiet (first | (go_at_call 80; (with_reducible refine (zK.calls k _ _ l0_0 true _ (cS (Kd.qW HR0_0.out HB.out)) HC0_0.out A4.out).mono ?_); rintro e w' ⟨rfl, ⟨nd, rfl⟩⟩; (try first | exact ⟨rfl, _, World.drewN_drewN _ _ _⟩ | exact ⟨rfl, _, Eq.trans (World.drewN_drewN _ _ _) (congrArg (World.drewN _) (Nat.add_assoc _ _ _))⟩))); try go_wp2_with (first | (go_at_call 80; (with_reducible refine (zK.calls k _ _ l0_0 true _ (cS (Kd.qW HR0_0.out HB.out)) HC0_0.out A4.out).mono ?_); rintro e w' ⟨rfl, ⟨nd, rfl⟩⟩; (try first | exact ⟨rfl, _, World.drewN_drewN _ _ _⟩ | exact ⟨rfl, _, Eq.trans (World.drewN_drewN _ _ _) (congrArg (World.drewN _) (Nat.add_assoc _ _ _))⟩))))
    go_meet
    case rel => exact ⟨_, (true), rf, H', ⟨by first | omega | exact Nat.le_refl _⟩, ⟨bS BK149⟩, ⟨lS HB⟩⟩
  ·replace c5 := Bool.eq_false_iff.mpr c5
   subst c5
   rw [if_neg (show ¬ (false = true) by decide)] at H
   have H' := qS.mk H
   clear H
   obtain ⟨hcz11_0, hcz11_1, hcz11_2, hfz11_0, hfz11_1, hfz11_2⟩ := bx3 BK149
   go_wp2_with (first | (go_at_call 80; (with_reducible refine (zK.calls k _ _ l0_0 false _ (cS (Kd.qW HR0_0.out HB.out)) HC0_0.out A4.out).mono ?_); rintro e w' ⟨rfl, ⟨nd, rfl⟩⟩; (try first | exact ⟨rfl, _, World.drewN_drewN _ _ _⟩ | exact ⟨rfl, _, Eq.trans (World.drewN_drewN _ _ _) (congrArg (World.drewN _) (Nat.add_assoc _ _ _))⟩)))
   repeat (go_quiet (first | (go_at_call 80; (with_reducible refine (zK.calls k _ _ l0_0 false _ (cS (Kd.qW HR0_0.out HB.out)) HC0_0.out A4.out).mono ?_); rintro e w' ⟨rfl, ⟨nd, rfl⟩⟩; (try first | exact ⟨rfl, _, World.drewN_drewN _ _ _⟩ | exact ⟨rfl, _, Eq.trans (World.drewN_drewN _ _ _) (congrArg (World.drewN _) (Nat.add_assoc _ _ _))⟩))); try go_wp2_with (first | (go_at_call 80; (with_reducible refine (zK.calls k _ _ l0_0 false _ (cS (Kd.qW HR0_0.out HB.out)) HC0_0.out A4.out).mono ?_); rintro e w' ⟨rfl, ⟨nd, rfl⟩⟩; (try first | exact ⟨rfl, _, World.drewN_drewN _ _ _⟩ | exact ⟨rfl, _, Eq.trans (World.drewN_drewN _ _ _) (congrArg (World.drewN _) (Nat.add_assoc _ _ _))⟩))))
   go_meet
   case rel => exact ⟨_, (true), rf, H', ⟨by first | omega | exact Nat.le_refl _⟩, ⟨bS BK149⟩, ⟨lS HB⟩⟩
 case rest =>
  clear HC2
  obtain ⟨kq, x30_1, rfl, HA, HJ1, BK149, HB⟩ := hcut
  cases kq with
  | zero => exact absurd HA.out (by simp [zI.j0])
  | succ kj1 =>
   have H := HA.out
   clear HA
   simp only [zI.j0] at H
   by_cases c12 : x30_1 = true
   ·subst c12
    rw [if_pos rfl] at H
    obtain rfl := Option.some.inj H
    go_wp2
    repeat (go_quiet (fail); try go_wp2)
    go_ret
    exact ⟨rg, lS HB⟩
   ·replace c12 := Bool.eq_false_iff.mpr c12
    subst c12
    rw [if_neg (show ¬ (false = true) by decide)] at H
    have H' := qS.mk H
    clear H
    obtain ⟨hcz13_0, hcz13_1, hcz13_2, hfz13_0, hfz13_1, hfz13_2⟩ := bx3 BK149
    go_wp2
    repeat (go_quiet (fail); try go_wp2)
    go_loopg [3, 4, 38] kj1 (fun kq v3 v4 v38 w' => ∃ (x3_2 : Int) (x4_2 : Int) (x38_2 : Int), v3 = .int .i64 x3_2 ∧ v4 = .int .i64 x4_2 ∧ v38 = .int .i64 x38_2 ∧ qS (zI.l0 kq x3_2 x4_2 l0_1 (l0_1.length : Int) x38_2 l0_0 l0_1 a0_2 = some r) ∧ qS (kq ≤ kj1) ∧ qS (w'.heap[gb149]? = some (.cells #[(.slice A0_0 l0_0.length c0_0), (.slice A0_1 l0_1.length c0_1), .int .i64 a0_2] 32 (0, 0))) ∧ qS (Below w.heap.size w w'))
    case atStart => exact ⟨(a0_2), (a0_2), (0), rf, rf, rf, H', ⟨Nat.le_refl _⟩, ⟨bS BK149⟩, ⟨lS HB⟩⟩
    case round =>
     clear H'
     (try clear c12); (try clear hcz13_0); (try clear hcz13_1); (try clear hcz13_2); (try clear hfz13_0); (try clear hfz13_1); (try clear hfz13_2)
     obtain ⟨x3_2, x4_2, x38_2, rfl, rfl, rfl, HA, HK2, BK149, HB⟩ := hrel
     cases gk with
     | zero => exact absurd HA.out (by simp [zI.l0])
     | succ k2 =>
      have H := HA.out
      clear HA
      simp only [zI.l0] at H
      by_cases c14 : x38_2 < (l0_1.length : Int)
      ·rw [if_pos c14] at H
       have c14b0 : decide (x38_2 < (l0_1.length : Int)) = true := decide_eq_true c14
       clear c14
       replace H := gN H
       obtain ⟨c15, H⟩ := H
       have c15b0 : decide (0 ≤ x38_2) = true := decide_eq_true c15
       clear c15
       replace H := gN H
       obtain ⟨c16, H⟩ := H
       have c16b0 : decide (x38_2 < (l0_1.length : Int)) = true := decide_eq_true c16
       clear c16
       by_cases c17 : (rd l0_1 x38_2) < (-4096)
       ·rw [if_pos c17] at H
        have c17b0 : decide ((rd l0_1 x38_2) < (-4096)) = true := decide_eq_true c17
        clear c17
        obtain rfl := Option.some.inj H
        obtain ⟨ad151, e151, hx151_0, -, p151, q151⟩ := aI HR0_1 HB x38_2
        cases e151
        go_wp2
        repeat (go_quiet (fail); try go_wp2)
        go_ret
        exact ⟨rg, lS HB⟩
       ·rw [if_neg c17] at H
        have c17b0 : decide ((rd l0_1 x38_2) < (-4096)) = false := decide_eq_false c17
        clear c17
        by_cases c18 : (rd l0_1 x38_2) > 4096
        ·rw [if_pos c18] at H
         have c18b0 : decide (4096 < (rd l0_1 x38_2)) = true := decide_eq_true c18
         clear c18
         obtain rfl := Option.some.inj H
         obtain ⟨ad151, e151, hx151_0, -, p151, q151⟩ := aI HR0_1 HB x38_2
         cases e151
         go_wp2
         repeat (go_quiet (fail); try go_wp2)
         go_ret
         exact ⟨rg, lS HB⟩
        ·rw [if_neg c18] at H
         have c18b0 : decide (4096 < (rd l0_1 x38_2)) = false := decide_eq_false c18
         clear c18
         replace H := gN H
         obtain ⟨c19, H⟩ := H
         have c19b0 : decide (x38_2 < (l0_0.length : Int)) = true := decide_eq_true c19
         clear c19
         obtain ⟨ji20, hji20⟩ : ∃ j_ : Int, (mn (wrap64 ((rd l0_1 x38_2) * (wrap64 ((rd l0_0 x38_2) - 1)))) 0) = j_ := ⟨_, rfl⟩
         replace H : (zI.l0 k2 (wrap64 (x3_2 + (ji20))) (wrap64 (x4_2 + (mx (wrap64 ((rd l0_1 x38_2) * (wrap64 ((rd l0_0 x38_2) - 1)))) 0))) l0_1 (l0_1.length : Int) (wrap64 (x38_2 + 1)) l0_0 l0_1 a0_2) = some r := by first | (rw [hji20] at H; exact H) | (simp only [hji20] at H ⊢; exact H)
         have hji20_ : (if 0 < (wrap64 ((rd l0_1 x38_2) * (wrap64 ((rd l0_0 x38_2) - 1)))) then 0 else (wrap64 ((rd l0_1 x38_2) * (wrap64 ((rd l0_0 x38_2) - 1))))) = ji20 := hji20
         obtain ⟨ji21, hji21⟩ : ∃ j_ : Int, (mx (wrap64 ((rd l0_1 x38_2) * (wrap64 ((rd l0_0 x38_2) - 1)))) 0) = j_ := ⟨_, rfl⟩
         replace H : (zI.l0 k2 (wrap64 (x3_2 + (ji20))) (wrap64 (x4_2 + (ji21))) l0_1 (l0_1.length : Int) (wrap64 (x38_2 + 1)) l0_0 l0_1 a0_2) = some r := by first | (rw [hji21] at H; exact H) | (simp only [hji21] at H ⊢; exact H)
         have hji21_ : (if (wrap64 ((rd l0_1 x38_2) * (wrap64 ((rd l0_0 x38_2) - 1)))) < 0 then 0 else (wrap64 ((rd l0_1 x38_2) * (wrap64 ((rd l0_0 x38_2) - 1))))) = ji21 := hji21
         have H' := qS.mk H
         clear H
         obtain ⟨ad151, e151, hx151_0, -, p151, q151⟩ := aI HR0_1 HB x38_2
         cases e151
         obtain ⟨hcz22_0, hcz22_1, hcz22_2, hfz22_0, hfz22_1, hfz22_2⟩ := bx3 BK149
         obtain ⟨ad152, e152, hx152_0, -, p152, q152⟩ := aI HR0_0 HB x38_2
         cases e152
         go_wp2
         repeat (go_quiet (fail); try go_wp2)
         go_roundg k2
         case measure => have := HJ1.out; have := HK2.out; omega
         case rel => exact ⟨(wrap64 (x3_2 + (ji20))), (wrap64 (x4_2 + (ji21))), (wrap64 (x38_2 + 1)), (by first | rfl | (simp; done) | (simp only [← hji20] <;> (first | rfl | simp)) | (simp [*]; done)), (by first | rfl | (simp; done) | (simp only [← hji21] <;> (first | rfl | simp)) | (simp [*]; done)), rf, H', ⟨by have := HJ1.out; have := HK2.out; omega⟩, ⟨bS BK149⟩, ⟨lS HB⟩⟩
      ·rw [if_neg c14] at H
       have c14b0 : decide (x38_2 < (l0_1.length : Int)) = false := decide_eq_false c14
       clear c14
       replace H := Option.bind_eq_some_iff.mp H
       obtain ⟨t153, A230, H⟩ := H
       try dsimp only at H
       have A23 := qS.mk A230
       clear A230
       by_cases c24 : t153 = 0
       ·rw [if_pos c24] at H
        have c24b0 : (t153 == 0) = true := beq_iff_eq.mpr c24
        have c24b1 : (t153 != 0) = false := bne_eq_false_iff_eq.mpr c24
        clear c24
        obtain rfl := Option.some.inj H
        obtain ⟨hcz25_0, hcz25_1, hcz25_2, hfz25_0, hfz25_1, hfz25_2⟩ := bx3 BK149
        go_wp2_with (first | (go_at_call 81; (with_reducible refine (zM.calls k2 _ _ l0_0 t153 _ (cS (Kd.qW HR0_0.out HB.out)) HC0_0.out A23.out).mono ?_); rintro e w' ⟨rfl, ⟨nd, rfl⟩⟩; (try first | exact ⟨rfl, _, World.drewN_drewN _ _ _⟩ | exact ⟨rfl, _, Eq.trans (World.drewN_drewN _ _ _) (congrArg (World.drewN _) (Nat.add_assoc _ _ _))⟩)))
        repeat (go_quiet (first | (go_at_call 81; (with_reducible refine (zM.calls k2 _ _ l0_0 t153 _ (cS (Kd.qW HR0_0.out HB.out)) HC0_0.out A23.out).mono ?_); rintro e w' ⟨rfl, ⟨nd, rfl⟩⟩; (try first | exact ⟨rfl, _, World.drewN_drewN _ _ _⟩ | exact ⟨rfl, _, Eq.trans (World.drewN_drewN _ _ _) (congrArg (World.drewN _) (Nat.add_assoc _ _ _))⟩))); try go_wp2_with (first | (go_at_call 81; (with_reducible refine (zM.calls k2 _ _ l0_0 t153 _ (cS (Kd.qW HR0_0.out HB.out)) HC0_0.out A23.out).mono ?_); rintro e w' ⟨rfl, ⟨nd, rfl⟩⟩; (try first | exact ⟨rfl, _, World.drewN_drewN _ _ _⟩ | exact ⟨rfl, _, Eq.trans (World.drewN_drewN _ _ _) (congrArg (World.drewN _) (Nat.add_assoc _ _ _))⟩))))
        go_ret
        exact ⟨rg, lS HB⟩
       ·rw [if_neg c24] at H
        have c24b0 : (t153 == 0) = false := beq_eq_false_iff_ne.mpr c24
        have c24b1 : (t153 != 0) = true := bne_iff_ne.mpr c24
        by_cases c26 : x3_2 ≥ 0
        ·rw [if_pos c26] at H
         have c26b0 : decide (0 ≤ x3_2) = true := decide_eq_true c26
         clear c26
         obtain rfl := Option.some.inj H
         obtain ⟨hcz27_0, hcz27_1, hcz27_2, hfz27_0, hfz27_1, hfz27_2⟩ := bx3 BK149
         go_wp2_with (first | (go_at_call 81; (with_reducible refine (zM.calls k2 _ _ l0_0 t153 _ (cS (Kd.qW HR0_0.out HB.out)) HC0_0.out A23.out).mono ?_); rintro e w' ⟨rfl, ⟨nd, rfl⟩⟩; (try first | exact ⟨rfl, _, World.drewN_drewN _ _ _⟩ | exact ⟨rfl, _, Eq.trans (World.drewN_drewN _ _ _) (congrArg (World.drewN _) (Nat.add_assoc _ _ _))⟩)))
         repeat (go_quiet (first | (go_at_call 81; (with_reducible refine (zM.calls k2 _ _ l0_0 t153 _ (cS (Kd.qW HR0_0.out HB.out)) HC0_0.out A23.out).mono ?_); rintro e w' ⟨rfl, ⟨nd, rfl⟩⟩; (try first | exact ⟨rfl, _, World.drewN_drewN _ _ _⟩ | exact ⟨rfl, _, Eq.trans (World.drewN_drewN _ _ _) (congrArg (World.drewN _) (Nat.add_assoc _ _ _))⟩))); try go_wp2_with (first | (go_at_call 81; (with_reducible refine (zM.calls k2 _ _ l0_0 t153 _ (cS (Kd.qW HR0_0.out HB.out)) HC0_0.out A23.out).mono ?_); rintro e w' ⟨rfl, ⟨nd, rfl⟩⟩; (try first | exact ⟨rfl, _, World.drewN_drewN _ _ _⟩ | exact ⟨rfl, _, Eq.trans (World.drewN_drewN _ _ _) (congrArg (World.drewN _) (Nat.add_assoc _ _ _))⟩))))
         go_ret
         exact ⟨rg, lS HB⟩
        ·rw [if_neg c26] at H
         have c26b0 : decide (0 ≤ x3_2) = false := decide_eq_false c26
         clear c26
         obtain rfl := Option.some.inj H
         obtain ⟨hcz28_0, hcz28_1, hcz28_2, hfz28_0, hfz28_1, hfz28_2⟩ := bx3 BK149
         go_wp2_with (first | (go_at_call 81; (with_reducible refine (zM.calls k2 _ _ l0_0 t153 _ (cS (Kd.qW HR0_0.out HB.out)) HC0_0.out A23.out).mono ?_); rintro e w' ⟨rfl, ⟨nd, rfl⟩⟩; (try first | exact ⟨rfl, _, World.drewN_drewN _ _ _⟩ | exact ⟨rfl, _, Eq.trans (World.drewN_drewN _ _ _) (congrArg (World.drewN _) (Nat.add_assoc _ _ _))⟩)))
         repeat (go_quiet (first | (go_at_call 81; (with_reducible refine (zM.calls k2 _ _ l0_0 t153 _ (cS (Kd.qW HR0_0.out HB.out)) HC0_0.out A23.out).mono ?_); rintro e w' ⟨rfl, ⟨nd, rfl⟩⟩; (try first | exact ⟨rfl, _, World.drewN_drewN _ _ _⟩ | exact ⟨rfl, _, Eq.trans (World.drewN_drewN _ _ _) (congrArg (World.drewN _) (Nat.add_assoc _ _ _))⟩))); try go_wp2_with (first | (go_at_call 81; (with_reducible refine (zM.calls k2 _ _ l0_0 t153 _ (cS (Kd.qW HR0_0.out HB.out)) HC0_0.out A23.out).mono ?_); rintro e w' ⟨rfl, ⟨nd, rfl⟩⟩; (try first | exact ⟨rfl, _, World.drewN_drewN _ _ _⟩ | exact ⟨rfl, _, Eq.trans (World.drewN_drewN _ _ _) (congrArg (World.drewN _) (Nat.add_assoc _ _ _))⟩))))
         go_ret
         exact ⟨rg, lS HB⟩

end Go.Proofs.Ytpmdgmnpkdoamaa.DFnViews
