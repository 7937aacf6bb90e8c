/- Proved here: what the functions answer that the law on  comes to (the lines were written by a program). Conditions: those that stand ahead in each theorem. -/
import Derived.Test.YtpmdgmnpkdoamaaViWSq
import Derived.Test.YtpmdgmnpkdoamaaViDFnViewsx0
import Derived.Test.YtpmdgmnpkdoamaaViDFnViewsx1
namespace Go.Proofs.Ytpmdgmnpkdoamaa.DFnViews
open Go.RowKit Go.Proofs.YtpmdgmnpkdoamaaW.PrintWords Go.Proofs.YtpmdgmnpkdoamaaW.PrintLast Go.Proofs.YtpmdgmnpkdoamaaW.PrintMore
attribute [local go_sem] max2_int min2_int max_two min_two max_three min_three max_four min_four   -- for this text's walks alone
set_option linter.unusedVariables false
set_option linter.unusedSimpArgs false

mutual
def zH.j0 : Nat → Int → Bool → List Int → List Int → Int → Option (Bool)
 | 0, _, _, _, _, _ => none
 | k + 1, x3, x30, x120000, x120001, x120002 => if x30 = true then (some false) else (zH.l0 k x3 0 x120000 x120001 x120002)
def zH.l0 : Nat → Int → Int → List Int → List Int → Int → Option (Bool)
 | 0, _, _, _, _, _ => none
 | k + 1, x3, x4, x120000, x120001, x120002 => if x4 < (x120001.length : Int) then (if 0 ≤ x4 then (if (rd x120001 x4) < (-4096) then (some false) else (if (rd x120001 x4) > 4096 then (some false) else (zH.l0 k x3 (wrap64 (x4 + 1)) x120000 x120001 x120002))) else (none)) else (if x3 = 0 then (some true) else ((zJ.f k x120000 x120001 x120002 0 x120002).bind fun t123 => (zH.l1 k t123 0)))
def zH.l1 : Nat → List Int → Int → Option (Bool)
 | 0, _, _ => none
 | k + 1, x5, x6 => if x6 < (x5.length : Int) then (if 0 ≤ x6 then (if (rd x5 x6) < 0 then (some false) else (if (rd x5 x6) ≥ 4096 then (some false) else (zH.l1 k x5 (wrap64 (x6 + 1))))) else (none)) else (some true)
end
def zH.f (k : Nat) (l0_0 : List Int) (l0_1 : List Int) (a0_2 : Int) : Option (Bool) := (zL.f k l0_0).bind fun t120 => (if t120 < 0 then (zH.j0 k t120 true l0_0 l0_1 a0_2) else (if (l0_1.length : Int) = (l0_0.length : Int) then (if a0_2 < 0 then (zH.j0 k t120 true l0_0 l0_1 a0_2) else (zH.j0 k t120 (decide (a0_2 > 4096)) l0_0 l0_1 a0_2)) else (zH.j0 k t120 true l0_0 l0_1 a0_2)))
theorem zH.mono_l : ∀ k, (∀ y0 y1 y2 y3 y4, LeO (zH.j0 k y0 y1 y2 y3 y4) (zH.j0 (k + 1) y0 y1 y2 y3 y4)) ∧ (∀ y0 y1 y2 y3 y4, LeO (zH.l0 k y0 y1 y2 y3 y4) (zH.l0 (k + 1) y0 y1 y2 y3 y4)) ∧ (∀ y0 y1, LeO (zH.l1 k y0 y1) (zH.l1 (k + 1) y0 y1))
 | 0 => ⟨fun _ _ _ _ _ r h => by simp [zH.j0] at h, fun _ _ _ _ _ r h => by simp [zH.l0] at h, fun _ _ r h => by simp [zH.l1] at h⟩
 | k + 1 => by
  obtain ⟨ih0, ih1, ih2⟩ := zH.mono_l k
  refine ⟨?_, ?_, ?_⟩
  ·intro y0 y1 y2 y3 y4
   unfold zH.j0
   repeat' first
   | (with_reducible exact ih0 _ _ _ _ _)
   | (with_reducible exact ih1 _ _ _ _ _)
   | (with_reducible exact ih2 _ _)
   | (with_reducible exact zL.mono _ _)
   | (with_reducible exact zJ.mono _ _ _ _ _ _)
   | (with_reducible exact LeO.refl _)
   | (with_reducible exact LeO.none _)
   | (with_reducible refine LeO.ite ?_ ?_)
   | (with_reducible refine LeO.bind ?_ (fun _ => ?_))
   | exact ih0 _ _ _ _ _
   | exact ih1 _ _ _ _ _
   | exact ih2 _ _
   | exact zL.mono _ _
   | exact zJ.mono _ _ _ _ _ _
   | exact LeO.none _
   | refine LeO.ite ?_ ?_
   | refine LeO.bind ?_ (fun _ => ?_)
  ·intro y0 y1 y2 y3 y4
   unfold zH.l0
   repeat' first
   | (with_reducible exact ih0 _ _ _ _ _)
   | (with_reducible exact ih1 _ _ _ _ _)
   | (with_reducible exact ih2 _ _)
   | (with_reducible exact zL.mono _ _)
   | (with_reducible exact zJ.mono _ _ _ _ _ _)
   | (with_reducible exact LeO.refl _)
   | (with_reducible exact LeO.none _)
   | (with_reducible refine LeO.ite ?_ ?_)
   | (with_reducible refine LeO.bind ?_ (fun _ => ?_))
   | exact ih0 _ _ _ _ _
   | exact ih1 _ _ _ _ _
   | exact ih2 _ _
   | exact zL.mono _ _
   | exact zJ.mono _ _ _ _ _ _
   | exact LeO.none _
   | refine LeO.ite ?_ ?_
   | refine LeO.bind ?_ (fun _ => ?_)
  ·intro y0 y1
   unfold zH.l1
   repeat' first
   | (with_reducible exact ih0 _ _ _ _ _)
   | (with_reducible exact ih1 _ _ _ _ _)
   | (with_reducible exact ih2 _ _)
   | (with_reducible exact zL.mono _ _)
   | (with_reducible exact zJ.mono _ _ _ _ _ _)
   | (with_reducible exact LeO.refl _)
   | (with_reducible exact LeO.none _)
   | (with_reducible refine LeO.ite ?_ ?_)
   | (with_reducible refine LeO.bind ?_ (fun _ => ?_))
   | exact ih0 _ _ _ _ _
   | exact ih1 _ _ _ _ _
   | exact ih2 _ _
   | exact zL.mono _ _
   | exact zJ.mono _ _ _ _ _ _
   | exact LeO.none _
   | refine LeO.ite ?_ ?_
   | refine LeO.bind ?_ (fun _ => ?_)
theorem zH.mono : ∀ a0 a1 a2 k, LeO (zH.f k a0 a1 a2) (zH.f (k + 1) a0 a1 a2) := by
 intro a0 a1 a2 k
 obtain ⟨ih0, ih1, ih2⟩ := zH.mono_l k
 unfold zH.f
 repeat' first
   | (with_reducible exact ih0 _ _ _ _ _)
   | (with_reducible exact ih1 _ _ _ _ _)
   | (with_reducible exact ih2 _ _)
   | (with_reducible exact zL.mono _ _)
   | (with_reducible exact zJ.mono _ _ _ _ _ _)
   | (with_reducible exact LeO.refl _)
   | (with_reducible exact LeO.none _)
   | (with_reducible refine LeO.ite ?_ ?_)
   | (with_reducible refine LeO.bind ?_ (fun _ => ?_))
   | exact ih0 _ _ _ _ _
   | exact ih1 _ _ _ _ _
   | exact ih2 _ _
   | exact zL.mono _ _
   | exact zJ.mono _ _ _ _ _ _
   | exact LeO.none _
   | refine LeO.ite ?_ ?_
   | refine LeO.bind ?_ (fun _ => ?_)
set_option maxHeartbeats 8000000 in
set_option maxRecDepth 100000 in
theorem zH.calls (k : Nat) (A0_0 : Option Addr) (c0_0 : Nat) (l0_0 : List Int) (A0_1 : Option Addr) (c0_1 : Nat) (l0_1 : List Int) (a0_2 : Int) (r : Bool) (w : World) (hr0_0 : Kd.C (Kd.int .i64) w A0_0 l0_0.length l0_0) (hc0_0 : l0_0.length ≤ c0_0) (hr0_1 : Kd.C (Kd.int .i64) w A0_1 l0_1.length l0_1) (hc0_1 : l0_1.length ≤ c0_1) (h : zH.f k l0_0 l0_1 a0_2 = some r) :
  Calls Try.prog 24 #[.agg #[.slice A0_0 l0_0.length c0_0, .slice A0_1 l0_1.length c0_1, .int .i64 a0_2]] w fun e w' => e = .returned (.bool r) ∧ Below w.heap.size w w' := by
 have hu32 := Try.underlying32
 have HR0_0 := qS.mk hr0_0
 have HC0_0 := qS.mk hc0_0
 clear hr0_0 hc0_0
 have HR0_1 := qS.mk hr0_1
 have HC0_1 := qS.mk hc0_1
 clear hr0_1 hc0_1
 have HB := qS.mk (Below.refl w.heap.size w)
 have H : ((zL.f k l0_0).bind fun t120 => (if t120 < 0 then (zH.j0 k t120 true l0_0 l0_1 a0_2) else (if (l0_1.length : Int) = (l0_0.length : Int) then (if a0_2 < 0 then (zH.j0 k t120 true l0_0 l0_1 a0_2) else (zH.j0 k t120 (decide (a0_2 > 4096)) l0_0 l0_1 a0_2)) else (zH.j0 k t120 true l0_0 l0_1 a0_2)))) = some r := h
 clear h
 replace H := Option.bind_eq_some_iff.mp H
 obtain ⟨t120, A20, H⟩ := H
 try dsimp only at H
 have A2 := qS.mk A20
 clear A20
 have HC3 := qS.mk H
 clear H
 go_enter Try.func24, Try.ntmps24
 go_upto_region 2 with (first | ((with_reducible refine gate_dst (N := 1) rfl ?_); (try (refine gate_guard (by rfl) ?_; dsimp only)); refine bE #[.slice A0_0 l0_0.length c0_0, .slice A0_1 l0_1.length c0_1, .int .i64 a0_2] 32 ?_; intro gb119 hg w4 hbox hb; have BK119 := qS.mk (hbox); have GW119 := mG HB hg; have GE119 := mG HB hg; replace HB := mS HB hb; clear hb hbox hg; obtain ⟨hcz5_0, hcz5_1, hcz5_2, hfz5_0, hfz5_1, hfz5_2⟩ := bx3 BK119) | ((with_reducible refine gate_callee (f := 78) rfl ?_); refine gL (some 9) Try.func78 #[.slice A0_0 l0_0.length c0_0] ?_; (with_reducible refine (zL.calls k _ _ l0_0 t120 _ (cS (Kd.qW HR0_0.out HB.out)) HC0_0.out A2.out).mono ?_); rintro e w' ⟨rfl, ⟨nd, rfl⟩⟩; refine ⟨_, rfl, ?_⟩))
 (try simp only [Act.put, List.setIfInBounds_toArray, List.set_cons_zero, List.set_cons_succ])
 go_cut [30] (fun v30 wc => ∃ (kq : Nat) (x30_2 : Bool), v30 = .bool x30_2 ∧ qS (zH.j0 kq t120 x30_2 l0_0 l0_1 a0_2 = some r) ∧ qS (kq ≤ k) ∧ qS (wc.heap[gb119]? = some (.cells #[(.slice A0_0 l0_0.length c0_0), (.slice A0_1 l0_1.length c0_1), .int .i64 a0_2] 32 (0, 0))) ∧ qS (Below w.heap.size w wc))
 case first =>
  have H := HC3.out
  clear HC3
  by_cases c6 : t120 < 0
  ·rw [if_pos c6] at H
   have c6b0 : decide (t120 < 0) = true := decide_eq_true c6
   clear c6
   (first | rw [c6b0] | (simp only [i64_w, i32_w]; rw [c6b0]) | skip)
   have H' := qS.mk H
   clear H
   go_wp2
   go_meet
   case rel => exact ⟨_, (true), rf, H', ⟨by first | omega | exact Nat.le_refl _⟩, ⟨bS BK119⟩, ⟨lS HB⟩⟩
  ·rw [if_neg c6] at H
   have c6b0 : decide (t120 < 0) = false := decide_eq_false c6
   clear c6
   (first | rw [c6b0] | (simp only [i64_w, i32_w]; rw [c6b0]) | skip)
   by_cases c7 : (l0_1.length : Int) = (l0_0.length : Int)
   ·rw [if_pos c7] at H
    have c7b0 : ((l0_1.length : Int) == (l0_0.length : Int)) = true := beq_iff_eq.mpr c7
    have c7b1 : ((l0_1.length : Int) != (l0_0.length : Int)) = false := bne_eq_false_iff_eq.mpr c7
    have c7b2 : (l0_1.length == l0_0.length) = true := by first | simpa using c7 | (simp at c7 ⊢; omega)
    clear c7
    by_cases c8 : a0_2 < 0
    ·rw [if_pos c8] at H
     have c8b0 : decide (a0_2 < 0) = true := decide_eq_true c8
     clear c8
     have H' := qS.mk H
     clear H
     obtain ⟨hcz9_0, hcz9_1, hcz9_2, hfz9_0, hfz9_1, hfz9_2⟩ := bx3 BK119
     go_wp2
     go_meet
     case rel => exact ⟨_, (true), rf, H', ⟨by first | omega | exact Nat.le_refl _⟩, ⟨bS BK119⟩, ⟨lS HB⟩⟩
    ·rw [if_neg c8] at H
     have c8b0 : decide (a0_2 < 0) = false := decide_eq_false c8
     clear c8
     have H' := qS.mk H
     clear H
     obtain ⟨hcz10_0, hcz10_1, hcz10_2, hfz10_0, hfz10_1, hfz10_2⟩ := bx3 BK119
     go_wp2
     go_meet
     case rel => exact ⟨_, (decide (a0_2 > 4096)), rf, H', ⟨by first | omega | exact Nat.le_refl _⟩, ⟨bS BK119⟩, ⟨lS HB⟩⟩
   ·rw [if_neg c7] at H
    have c7b0 : ((l0_1.length : Int) == (l0_0.length : Int)) = false := beq_eq_false_iff_ne.mpr c7
    have c7b1 : ((l0_1.length : Int) != (l0_0.length : Int)) = true := bne_iff_ne.mpr c7
    have c7b2 : (l0_1.length == l0_0.length) = false := by first | simpa using c7 | (simp at c7 ⊢; omega)
    have H' := qS.mk H
    clear H
    obtain ⟨hcz11_0, hcz11_1, hcz11_2, hfz11_0, hfz11_1, hfz11_2⟩ := bx3 BK119
    go_wp2
    go_meet
    case rel => exact ⟨_, (true), rf, H', ⟨by first | omega | exact Nat.le_refl _⟩, ⟨bS BK119⟩, ⟨lS HB⟩⟩
 case rest =>
  clear HC3
  (try clear hcz5_0); (try clear hcz5_1); (try clear hcz5_2); (try clear hfz5_0); (try clear hfz5_1); (try clear hfz5_2)
  obtain ⟨kq, x30_2, rfl, HA, HJ2, BK119, HB⟩ := hcut
  cases kq with
  | zero => exact absurd HA.out (by simp [zH.j0])
  | succ kj2 =>
   have H := HA.out
   clear HA
   simp only [zH.j0] at H
   by_cases c12 : x30_2 = true
   ·subst c12
    rw [if_pos rfl] at H
    obtain rfl := Option.some.inj H
    go_wp2
    go_ret
    exact ⟨rg, lS HB⟩
   ·replace c12 := Bool.eq_false_iff.mpr c12
    subst c12
    rw [if_neg (show ¬ (false = true) by decide)] at H
    have H' := qS.mk H
    clear H
    go_wp2
    go_loopg [4] kj2 (fun kq v4 w' => ∃ (x4_2 : Int), v4 = .int .i64 x4_2 ∧ qS (zH.l0 kq t120 x4_2 l0_0 l0_1 a0_2 = some r) ∧ qS (kq ≤ kj2) ∧ qS (w'.heap[gb119]? = some (.cells #[(.slice A0_0 l0_0.length c0_0), (.slice A0_1 l0_1.length c0_1), .int .i64 a0_2] 32 (0, 0))) ∧ qS (Below w.heap.size w w'))
    case atStart => exact ⟨(0), rf, H', ⟨Nat.le_refl _⟩, ⟨bS BK119⟩, ⟨lS HB⟩⟩
    case round =>
     clear H'
     (try clear c12); (try clear hcz5_0); (try clear hcz5_1); (try clear hcz5_2); (try clear hfz5_0); (try clear hfz5_1); (try clear hfz5_2)
     obtain ⟨x4_2, rfl, HA, HK2, BK119, HB⟩ := hrel
     cases gk with
     | zero => exact absurd HA.out (by simp [zH.l0])
     | succ k2 =>
      have H := HA.out
      clear HA
      simp only [zH.l0] at H
      by_cases c13 : x4_2 < (l0_1.length : Int)
      ·rw [if_pos c13] at H
       have c13b0 : decide (x4_2 < (l0_1.length : Int)) = true := decide_eq_true c13
       clear c13
       replace H := gN H
       obtain ⟨c14, H⟩ := H
       have c14b0 : decide (0 ≤ x4_2) = true := decide_eq_true c14
       clear c14
       by_cases c15 : (rd l0_1 x4_2) < (-4096)
       ·rw [if_pos c15] at H
        have c15b0 : decide ((rd l0_1 x4_2) < (-4096)) = true := decide_eq_true c15
        clear c15
        obtain rfl := Option.some.inj H
        obtain ⟨hcz16_0, hcz16_1, hcz16_2, hfz16_0, hfz16_1, hfz16_2⟩ := bx3 BK119
        obtain ⟨ad121, e121, hx121_0, -, p121, q121⟩ := aI HR0_1 HB x4_2
        cases e121
        go_wp2
        go_ret
        exact ⟨rg, lS HB⟩
       ·rw [if_neg c15] at H
        have c15b0 : decide ((rd l0_1 x4_2) < (-4096)) = false := decide_eq_false c15
        clear c15
        by_cases c17 : (rd l0_1 x4_2) > 4096
        ·rw [if_pos c17] at H
         have c17b0 : decide (4096 < (rd l0_1 x4_2)) = true := decide_eq_true c17
         clear c17
         obtain rfl := Option.some.inj H
         obtain ⟨hcz18_0, hcz18_1, hcz18_2, hfz18_0, hfz18_1, hfz18_2⟩ := bx3 BK119
         obtain ⟨ad121, e121, hx121_0, -, p121, q121⟩ := aI HR0_1 HB x4_2
         cases e121
         obtain ⟨ad122, e122, hx122_0, -, p122, q122⟩ := aI HR0_1 HB x4_2
         obtain rfl : ad121 = ad122 := (by injection e122)
         go_wp2
         go_ret
         exact ⟨rg, lS HB⟩
        ·rw [if_neg c17] at H
         have c17b0 : decide (4096 < (rd l0_1 x4_2)) = false := decide_eq_false c17
         clear c17
         have H' := qS.mk H
         clear H
         obtain ⟨hcz19_0, hcz19_1, hcz19_2, hfz19_0, hfz19_1, hfz19_2⟩ := bx3 BK119
         obtain ⟨ad121, e121, hx121_0, -, p121, q121⟩ := aI HR0_1 HB x4_2
         cases e121
         obtain ⟨ad122, e122, hx122_0, -, p122, q122⟩ := aI HR0_1 HB x4_2
         obtain rfl : ad121 = ad122 := (by injection e122)
         go_wp2
         go_roundg k2
         case measure => have := HJ2.out; have := HK2.out; omega
         case rel => exact ⟨(wrap64 (x4_2 + 1)), rf, H', ⟨by have := HJ2.out; have := HK2.out; omega⟩, ⟨bS BK119⟩, ⟨lS HB⟩⟩
      ·rw [if_neg c13] at H
       have c13b0 : decide (x4_2 < (l0_1.length : Int)) = false := decide_eq_false c13
       clear c13
       by_cases c20 : t120 = 0
       ·rw [if_pos c20] at H
        have c20b0 : (t120 == 0) = true := beq_iff_eq.mpr c20
        have c20b1 : (t120 != 0) = false := bne_eq_false_iff_eq.mpr c20
        clear c20
        obtain rfl := Option.some.inj H
        obtain ⟨hcz21_0, hcz21_1, hcz21_2, hfz21_0, hfz21_1, hfz21_2⟩ := bx3 BK119
        go_wp2
        go_ret
        exact ⟨rg, lS HB⟩
       ·rw [if_neg c20] at H
        have c20b0 : (t120 == 0) = false := beq_eq_false_iff_ne.mpr c20
        have c20b1 : (t120 != 0) = true := bne_iff_ne.mpr c20
        replace H := Option.bind_eq_some_iff.mp H
        obtain ⟨t123, A220, H⟩ := H
        try dsimp only at H
        have A22 := qS.mk A220
        clear A220
        have H' := qS.mk H
        clear H
        obtain ⟨hcz23_0, hcz23_1, hcz23_2, hfz23_0, hfz23_1, hfz23_2⟩ := bx3 BK119
        go_wp2_with (first | ((with_reducible refine gate_callee (f := 79) rfl ?_); refine gL (some 57) Try.func79 #[.agg #[.slice A0_0 l0_0.length c0_0, .slice A0_1 l0_1.length c0_1, .int .i64 a0_2], .int .i64 0, .int .i64 a0_2] ?_; (with_reducible refine (zJ.calls k2 _ _ l0_0 _ _ l0_1 a0_2 0 a0_2 t123 _ (cS (Kd.qW HR0_0.out HB.out)) HC0_0.out (cS (Kd.qW HR0_1.out HB.out)) HC0_1.out A22.out).mono ?_); rintro e w24 ⟨v124, rfl, ho0, hb⟩; refine ⟨_, rfl, ?_⟩; have HO125 := qS.mk (Kd.R_lower ho0 (qF (lS HB))); replace BK119 := mB BK119 hb; replace HB := mS HB hb; (try clear hb); (try clear hb2); (try clear hk); (try clear hi); (try clear ho0)))
        go_loopg [6] k2 (fun kq v6 w' => ∃ (x6_3 : Int), v6 = .int .i64 x6_3 ∧ qS (zH.l1 kq t123 x6_3 = some r) ∧ qS (kq ≤ k2) ∧ qS (Kd.R (Kd.int .i64) 2 w' w.heap.size (fun _ => True) v124 t123) ∧ qS (w'.heap[gb119]? = some (.cells #[(.slice A0_0 l0_0.length c0_0), (.slice A0_1 l0_1.length c0_1), .int .i64 a0_2] 32 (0, 0))) ∧ qS (Below w.heap.size w w'))
        case atStart => exact ⟨(0), rf, H', ⟨Nat.le_refl _⟩, ⟨rS HO125⟩, ⟨bS BK119⟩, ⟨lS HB⟩⟩
        case round =>
         clear H'
         (try clear c12); (try clear c13); (try clear c13b0); (try clear c20); (try clear c20b0); (try clear c20b1); (try clear hcz23_0); (try clear hcz23_1); (try clear hcz23_2); (try clear hcz5_0); (try clear hcz5_1); (try clear hcz5_2); (try clear hfz23_0); (try clear hfz23_1); (try clear hfz23_2); (try clear hfz5_0); (try clear hfz5_1); (try clear hfz5_2)
         obtain ⟨x6_3, rfl, HA, HK3, HO_5, BK119, HB⟩ := hrel
         cases gk with
         | zero => exact absurd HA.out (by simp [zH.l1])
         | succ k3 =>
          have H := HA.out
          clear HA
          simp only [zH.l1] at H
          by_cases c25 : x6_3 < (t123.length : Int)
          ·rw [if_pos c25] at H
           have c25b0 : decide (x6_3 < (t123.length : Int)) = true := decide_eq_true c25
           clear c25
           replace H := gN H
           obtain ⟨c26, H⟩ := H
           have c26b0 : decide (0 ≤ x6_3) = true := decide_eq_true c26
           clear c26
           by_cases c27 : (rd t123 x6_3) < 0
           ·rw [if_pos c27] at H
            have c27b0 : decide ((rd t123 x6_3) < 0) = true := decide_eq_true c27
            clear c27
            obtain rfl := Option.some.inj H
            obtain ⟨Ao28, co28, eo28⟩ := Kd.qX HO_5.out
            subst eo28
            have p126 : 0 ≤ (x6_3 : Int) := of_decide_eq_true (by assumption)
            have q126 : x6_3 < (t123.length : Int) := of_decide_eq_true (by assumption)
            obtain ⟨ad126, e126, hx126_0⟩ := Kd.at_int (Kd.qY HO_5.out).2.2 x6_3 p126 q126
            cases e126
            replace p126 := eq_true p126
            replace q126 := eq_true q126
            go_wp2
            go_ret
            exact ⟨rg, lS HB⟩
           ·rw [if_neg c27] at H
            have c27b0 : decide ((rd t123 x6_3) < 0) = false := decide_eq_false c27
            clear c27
            by_cases c29 : (rd t123 x6_3) ≥ 4096
            ·rw [if_pos c29] at H
             have c29b0 : decide (4096 ≤ (rd t123 x6_3)) = true := decide_eq_true c29
             clear c29
             obtain rfl := Option.some.inj H
             obtain ⟨Ao30, co30, eo30⟩ := Kd.qX HO_5.out
             subst eo30
             have p126 : 0 ≤ (x6_3 : Int) := of_decide_eq_true (by assumption)
             have q126 : x6_3 < (t123.length : Int) := of_decide_eq_true (by assumption)
             obtain ⟨ad126, e126, hx126_0⟩ := Kd.at_int (Kd.qY HO_5.out).2.2 x6_3 p126 q126
             cases e126
             replace p126 := eq_true p126
             replace q126 := eq_true q126
             have p127 : 0 ≤ (x6_3 : Int) := of_decide_eq_true (by assumption)
             have q127 : x6_3 < (t123.length : Int) := of_decide_eq_true (by assumption)
             obtain ⟨ad127, e127, hx127_0⟩ := Kd.at_int (Kd.qY HO_5.out).2.2 x6_3 p127 q127
             obtain rfl : ad126 = ad127 := (by injection e127)
             replace p127 := eq_true p127
             replace q127 := eq_true q127
             go_wp2
             go_ret
             exact ⟨rg, lS HB⟩
            ·rw [if_neg c29] at H
             have c29b0 : decide (4096 ≤ (rd t123 x6_3)) = false := decide_eq_false c29
             clear c29
             have H' := qS.mk H
             clear H
             obtain ⟨Ao31, co31, eo31⟩ := Kd.qX HO_5.out
             subst eo31
             have p126 : 0 ≤ (x6_3 : Int) := of_decide_eq_true (by assumption)
             have q126 : x6_3 < (t123.length : Int) := of_decide_eq_true (by assumption)
             obtain ⟨ad126, e126, hx126_0⟩ := Kd.at_int (Kd.qY HO_5.out).2.2 x6_3 p126 q126
             cases e126
             replace p126 := eq_true p126
             replace q126 := eq_true q126
             have p127 : 0 ≤ (x6_3 : Int) := of_decide_eq_true (by assumption)
             have q127 : x6_3 < (t123.length : Int) := of_decide_eq_true (by assumption)
             obtain ⟨ad127, e127, hx127_0⟩ := Kd.at_int (Kd.qY HO_5.out).2.2 x6_3 p127 q127
             obtain rfl : ad126 = ad127 := (by injection e127)
             replace p127 := eq_true p127
             replace q127 := eq_true q127
             go_wp2
             go_roundg k3
             case measure => have := HJ2.out; have := HK2.out; have := HK3.out; omega
             case rel => exact ⟨(wrap64 (x6_3 + 1)), rf, H', ⟨by have := HJ2.out; have := HK2.out; have := HK3.out; omega⟩, ⟨rS HO_5⟩, ⟨bS BK119⟩, ⟨lS HB⟩⟩
          ·rw [if_neg c25] at H
           have c25b0 : decide (x6_3 < (t123.length : Int)) = false := decide_eq_false c25
           clear c25
           obtain rfl := Option.some.inj H
           obtain ⟨Ao32, co32, eo32⟩ := Kd.qX HO_5.out
           subst eo32
           go_wp2
           go_ret
           exact ⟨rg, lS HB⟩

end Go.Proofs.Ytpmdgmnpkdoamaa.DFnViews
