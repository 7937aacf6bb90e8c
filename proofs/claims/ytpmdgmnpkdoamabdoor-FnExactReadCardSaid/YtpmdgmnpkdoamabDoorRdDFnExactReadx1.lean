/- Proved here: what the functions answer that the law on Read comes to (the lines were written by a program). Conditions: those that stand ahead in each theorem. -/
import Derived.Test.YtpmdgmnpkdoamabDoorRdDFnExactReadx0
namespace Go.Proofs.YtpmdgmnpkdoamabDoor.DFnExactRead
open Go.RowKit Go.Proofs.YtpmdgmnpkdoamabDoorW.PrintWords Go.Proofs.YtpmdgmnpkdoamabDoorW.PrintLast Go.Proofs.YtpmdgmnpkdoamabDoorW.PrintMore
attribute [local go_sem] Vc.run_store_float' max2_int min2_int max_two min_two max_three min_three max_four min_four   -- for this text's walks alone
set_option linter.unusedVariables false
set_option linter.unusedSimpArgs false

def laws_szCellS.f (l0 : List (S25)) (a1 : Int) : Option (Int) := if (wrap64 (a1 - (l0.length : Int))) < 0 then (some (-1)) else (some (wrap64 (a1 - (l0.length : Int))))
set_option maxHeartbeats 8000000 in
set_option maxRecDepth 100000 in
theorem laws_szCellS.calls (A0 : Option Addr) (c0 : Nat) (l0 : List (S25)) (a1 : Int) (r : Int) (w : World) (hr0 : Kd.C k25 w A0 l0.length l0) (hc0 : l0.length ≤ c0) (h : laws_szCellS.f l0 a1 = some r) :
  Calls Tryd.prog 184 #[.slice A0 l0.length c0, .int .i64 a1] w fun e w' => e = .returned (.int .i64 r) ∧ zI w w' := by
 have HR0 := qV.mk hr0
 have HC0 := qV.mk hc0
 clear hr0 hc0
 have H : (if (wrap64 (a1 - (l0.length : Int))) < 0 then (some (-1)) else (some (wrap64 (a1 - (l0.length : Int))))) = some r := h
 clear h
 by_cases c3 : (wrap64 (a1 - (l0.length : Int))) < 0
 ·rw [if_pos c3] at H
  have c3b0 : decide ((wrap64 (a1 - (l0.length : Int))) < 0) = true := decide_eq_true c3
  clear c3
  obtain rfl := Option.some.inj H
  go_enter Tryd.func184, Tryd.ntmps184
  go_wp2
  go_ret
  exact ⟨by first | rfl | (simp; done) | (simp [*]; done), by repeat (first | exact zI.refl _ | apply zI.step)⟩
 ·rw [if_neg c3] at H
  have c3b0 : decide ((wrap64 (a1 - (l0.length : Int))) < 0) = false := decide_eq_false c3
  clear c3
  obtain rfl := Option.some.inj H
  go_enter Tryd.func184, Tryd.ntmps184
  go_wp2
  go_ret
  exact ⟨by first | rfl | (simp; done) | (simp [*]; done), by repeat (first | exact zI.refl _ | apply zI.step)⟩

def laws_szStore.f (a0_0 : Int) (l0_1 : List (S25)) (a1 : Int) : Option (Int) := (laws_szCellS.f l0_1 a1).bind fun t102 => (if t102 < 0 then (some (-1)) else (some t102))
set_option maxHeartbeats 8000000 in
set_option maxRecDepth 100000 in
theorem laws_szStore.calls (a0_0 : Int) (A0_1 : Option Addr) (c0_1 : Nat) (l0_1 : List (S25)) (a1 : Int) (r : Int) (w : World) (hr0_1 : Kd.C k25 w A0_1 l0_1.length l0_1) (hc0_1 : l0_1.length ≤ c0_1) (h : laws_szStore.f a0_0 l0_1 a1 = some r) :
  Calls Tryd.prog 148 #[.agg #[.int .i64 a0_0, .slice A0_1 l0_1.length c0_1], .int .i64 a1] w fun e w' => e = .returned (.int .i64 r) ∧ Below w.heap.size w w' := by
 have hu166 := Tryd.underlying166
 have HR0_1 := qV.mk hr0_1
 have HC0_1 := qV.mk hc0_1
 clear hr0_1 hc0_1
 have HB := qV.mk (Below.refl w.heap.size w)
 have H : ((laws_szCellS.f l0_1 a1).bind fun t102 => (if t102 < 0 then (some (-1)) else (some t102))) = some r := h
 clear h
 replace H := Option.bind_eq_some_iff.mp H
 obtain ⟨t102, A30, H⟩ := H
 try dsimp only at H
 have A3 := qV.mk A30
 clear A30
 by_cases c4 : t102 < 0
 ·rw [if_pos c4] at H
  have c4b0 : decide (t102 < 0) = true := decide_eq_true c4
  clear c4
  obtain rfl := Option.some.inj H
  go_enter Tryd.func148, Tryd.ntmps148
  go_wp2_with (first | ((with_reducible refine gate_dst (N := 2) rfl ?_); refine qX ?hg (N := 2) ?hd (cs := #[.int .i64 a0_0, .slice A0_1 l0_1.length c0_1]) (t := 166) ?hr ?_; (case hd => rfl); (case hg => rfl); (case hr => first | (go_simp; done) | (go_simp; rfl)); intro gb101 hg w5 hbox hb; have n0_ := qV.mk (qE (by repeat (first | (with_reducible first | exact HB.out | apply qA | apply qB | apply qC) | exact HB.out)) hb); have n1_ := qV.mk (hbox); have n2_ := qV.mk ((by rw [hg]; exact (qF (by repeat (first | (with_reducible first | exact HB.out | apply qA | apply qB | apply qC) | exact HB.out))) : w.heap.size ≤ gb101)); have n3_ := qV.mk ((by rw [hg]; exact (qF (by repeat (first | (with_reducible first | exact HB.out | apply qA | apply qB | apply qC) | exact HB.out))) : w.heap.size ≤ gb101)); clear HB; have HB := n0_; have BK101 := n1_; have GW101 := n2_; have GE101 := n3_; clear n0_ n1_ n2_ n3_ hb hbox hg; have hcz6_0 : w5.cell? ⟨gb101, 0, none⟩ = some (.int .i64 a0_0) := (qJ BK101.out 0).trans rfl; have hcz6_1 : w5.cell? ⟨gb101, 1, none⟩ = some (.slice A0_1 l0_1.length c0_1) := (qJ BK101.out 1).trans rfl; have hfz6_0 := qK BK101.out 0; have hfz6_1 := qK BK101.out 1) | ((with_reducible refine gate_callee (f := 184) rfl ?_); refine qW (some 8) rfl rfl Tryd.func184 (by kernel_rfl) rfl #[.slice A0_1 l0_1.length c0_1, .int .i64 a1] rfl (by (try simp only [List.map_toArray, List.map_cons, List.map_nil]); first | done | rfl) ?_; (with_reducible refine (laws_szCellS.calls _ _ l0_1 a1 t102 _ ?side1 ?side2 A3.out).mono ?_); (case side1 => repeat (first | exact (Kd.zA HR0_1.out HB.out) | (with_reducible refine Kd.qS ?_ _) | (with_reducible refine Kd.qT ?_ _) | (with_reducible refine Kd.qU ?_))); (case side2 => exact HC0_1.out); rintro e w' ⟨rfl, ⟨nd, rfl⟩⟩; refine ⟨_, rfl, ?_⟩))
  go_ret
  exact ⟨by first | rfl | (simp [zS, zR] <;> rfl) | (simp [*, zS, zR] <;> rfl), by repeat (first | (with_reducible first | exact HB.out | apply qA | apply qB | apply qC | refine qD ?_ GE101.out) | exact HB.out)⟩
 ·rw [if_neg c4] at H
  have c4b0 : decide (t102 < 0) = false := decide_eq_false c4
  clear c4
  obtain rfl := Option.some.inj H
  go_enter Tryd.func148, Tryd.ntmps148
  go_wp2_with (first | ((with_reducible refine gate_dst (N := 2) rfl ?_); refine qX ?hg (N := 2) ?hd (cs := #[.int .i64 a0_0, .slice A0_1 l0_1.length c0_1]) (t := 166) ?hr ?_; (case hd => rfl); (case hg => rfl); (case hr => first | (go_simp; done) | (go_simp; rfl)); intro gb101 hg w7 hbox hb; have n0_ := qV.mk (qE (by repeat (first | (with_reducible first | exact HB.out | apply qA | apply qB | apply qC) | exact HB.out)) hb); have n1_ := qV.mk (hbox); have n2_ := qV.mk ((by rw [hg]; exact (qF (by repeat (first | (with_reducible first | exact HB.out | apply qA | apply qB | apply qC) | exact HB.out))) : w.heap.size ≤ gb101)); have n3_ := qV.mk ((by rw [hg]; exact (qF (by repeat (first | (with_reducible first | exact HB.out | apply qA | apply qB | apply qC) | exact HB.out))) : w.heap.size ≤ gb101)); clear HB; have HB := n0_; have BK101 := n1_; have GW101 := n2_; have GE101 := n3_; clear n0_ n1_ n2_ n3_ hb hbox hg; have hcz8_0 : w7.cell? ⟨gb101, 0, none⟩ = some (.int .i64 a0_0) := (qJ BK101.out 0).trans rfl; have hcz8_1 : w7.cell? ⟨gb101, 1, none⟩ = some (.slice A0_1 l0_1.length c0_1) := (qJ BK101.out 1).trans rfl; have hfz8_0 := qK BK101.out 0; have hfz8_1 := qK BK101.out 1) | ((with_reducible refine gate_callee (f := 184) rfl ?_); refine qW (some 8) rfl rfl Tryd.func184 (by kernel_rfl) rfl #[.slice A0_1 l0_1.length c0_1, .int .i64 a1] rfl (by (try simp only [List.map_toArray, List.map_cons, List.map_nil]); first | done | rfl) ?_; (with_reducible refine (laws_szCellS.calls _ _ l0_1 a1 t102 _ ?side1 ?side2 A3.out).mono ?_); (case side1 => repeat (first | exact (Kd.zA HR0_1.out HB.out) | (with_reducible refine Kd.qS ?_ _) | (with_reducible refine Kd.qT ?_ _) | (with_reducible refine Kd.qU ?_))); (case side2 => exact HC0_1.out); rintro e w' ⟨rfl, ⟨nd, rfl⟩⟩; refine ⟨_, rfl, ?_⟩))
  go_ret
  exact ⟨by first | rfl | (simp [zS, zR] <;> rfl) | (simp [*, zS, zR] <;> rfl), by repeat (first | (with_reducible first | exact HB.out | apply qA | apply qB | apply qC | refine qD ?_ GE101.out) | exact HB.out)⟩

def jI.l0 : Nat → List (S166) → Int → Int → Option (Int)
 | 0, _, _, _ => none
 | k + 1, x0, x1, x5 => if x5 < (x0.length : Int) then (if 0 ≤ x5 then ((laws_szStore.f ((rd_T166 x0 x5).f0) ((rd_T166 x0 x5).f1) x1).bind fun t104 => (if t104 < 0 then (some (-1)) else (jI.l0 k x0 t104 (wrap64 (x5 + 1))))) else (none)) else (some x1)
def jI.f (k : Nat) (l0 : List (S166)) (a1 : Int) : Option (Int) := if (wrap64 (a1 - (l0.length : Int))) < 0 then (some (-1)) else (jI.l0 k l0 (wrap64 (a1 - (l0.length : Int))) 0)
theorem jI.mono_l : ∀ k, (∀ y0 y1 y2, LeO (jI.l0 k y0 y1 y2) (jI.l0 (k + 1) y0 y1 y2))
 | 0 => fun _ _ _ r h => by simp [jI.l0] at h
 | k + 1 => by
  have ih0 := jI.mono_l k
  ·intro y0 y1 y2
   unfold jI.l0
   repeat' first
   | (with_reducible exact ih0 _ _ _)
   | (with_reducible exact LeO.refl _)
   | (with_reducible exact LeO.none _)
   | (with_reducible refine LeO.ite ?_ ?_)
   | (with_reducible refine LeO.bind ?_ (fun _ => ?_))
   | exact ih0 _ _ _
   | exact LeO.none _
   | refine LeO.ite ?_ ?_
   | refine LeO.bind ?_ (fun _ => ?_)
theorem jI.mono : ∀ a0 a1 k, LeO (jI.f k a0 a1) (jI.f (k + 1) a0 a1) := by
 intro a0 a1 k
 have ih0 := jI.mono_l k
 unfold jI.f
 repeat' first
   | (with_reducible exact ih0 _ _ _)
   | (with_reducible exact LeO.refl _)
   | (with_reducible exact LeO.none _)
   | (with_reducible refine LeO.ite ?_ ?_)
   | (with_reducible refine LeO.bind ?_ (fun _ => ?_))
   | exact ih0 _ _ _
   | exact LeO.none _
   | refine LeO.ite ?_ ?_
   | refine LeO.bind ?_ (fun _ => ?_)
set_option maxHeartbeats 8000000 in
set_option maxRecDepth 100000 in
theorem jI.calls (k : Nat) (A0 : Option Addr) (c0 : Nat) (l0 : List (S166)) (a1 : Int) (r : Int) (w : World) (hr0 : Kd.C k166 w A0 l0.length l0) (hc0 : l0.length ≤ c0) (h : jI.f k l0 a1 = some r) :
  Calls Tryd.prog 77 #[.slice A0 l0.length c0, .int .i64 a1] w fun e w' => e = .returned (.int .i64 r) ∧ Below w.heap.size w w' := by
 have hu166 := Tryd.underlying166
 have HR0 := qV.mk hr0
 have HC0 := qV.mk hc0
 clear hr0 hc0
 have HB := qV.mk (Below.refl w.heap.size w)
 have H : (if (wrap64 (a1 - (l0.length : Int))) < 0 then (some (-1)) else (jI.l0 k l0 (wrap64 (a1 - (l0.length : Int))) 0)) = some r := h
 clear h
 by_cases c3 : (wrap64 (a1 - (l0.length : Int))) < 0
 ·rw [if_pos c3] at H
  have c3b0 : decide ((wrap64 (a1 - (l0.length : Int))) < 0) = true := decide_eq_true c3
  clear c3
  obtain rfl := Option.some.inj H
  go_enter Tryd.func77, Tryd.ntmps77
  go_wp2
  go_ret
  exact ⟨by first | rfl | (simp [zS, zR] <;> rfl) | (simp [*, zS, zR] <;> rfl), by repeat (first | (with_reducible first | exact HB.out | apply qA | apply qB | apply qC) | exact HB.out)⟩
 ·rw [if_neg c3] at H
  have c3b0 : decide ((wrap64 (a1 - (l0.length : Int))) < 0) = false := decide_eq_false c3
  clear c3
  have H' := qV.mk H
  clear H
  go_enter Tryd.func77, Tryd.ntmps77
  go_wp2
  go_loopg [1, 5] k (fun kq v1 v5 w' => ∃ (x1_1 : Int) (x5_1 : Int), v1 = .int .i64 x1_1 ∧ v5 = .int .i64 x5_1 ∧ qV (jI.l0 kq l0 x1_1 x5_1 = some r) ∧ qV (kq ≤ k) ∧ qV (Below w.heap.size w w'))
  case atStart => exact ⟨(wrap64 (a1 - (l0.length : Int))), (0), (by first | rfl | (simp; done) | (simp [*]; done)), (by first | rfl | (simp; done) | (simp [*]; done)), H', ⟨Nat.le_refl _⟩, ⟨by repeat (first | (with_reducible first | exact HB.out | apply qA | apply qB | apply qC) | exact HB.out)⟩⟩
  case round =>
   clear H'
   try clear p2
   try clear c3
   try clear c3b0
   obtain ⟨x1_1, x5_1, rfl, rfl, HA, HK1, HB⟩ := hrel
   cases gk with
   | zero => exact absurd HA.out (by simp [jI.l0])
   | succ k1 =>
    have H := HA.out
    clear HA
    simp only [jI.l0] at H
    by_cases c4 : x5_1 < (l0.length : Int)
    ·rw [if_pos c4] at H
     have c4b0 : decide (x5_1 < (l0.length : Int)) = true := decide_eq_true c4
     clear c4
     by_cases c5 : 0 ≤ x5_1
     ·rw [if_pos c5] at H
      have c5b0 : decide (0 ≤ x5_1) = true := decide_eq_true c5
      clear c5
      replace H := Option.bind_eq_some_iff.mp H
      obtain ⟨t104, A60, H⟩ := H
      try dsimp only at H
      have A6 := qV.mk A60
      clear A60
      by_cases c7 : t104 < 0
      ·rw [if_pos c7] at H
       have c7b0 : decide (t104 < 0) = true := decide_eq_true c7
       clear c7
       obtain rfl := Option.some.inj H
       have p103 : 0 ≤ (x5_1 : Int) := of_decide_eq_true (by assumption)
       have q103 : x5_1 < (l0.length : Int) := of_decide_eq_true (by assumption)
       obtain ⟨ad103, A103_1, c103_1, e103, hx103_0, hx103_1, hl103_1, hi103_1⟩ := at_T166 HR0.out x5_1 p103 q103
       cases e103
       replace hx103_0 := (HB.out.cell (World.block_lt_of_cell? w _ hx103_0)).trans hx103_0
       replace hx103_1 := (HB.out.cell (World.block_lt_of_cell? w _ hx103_1)).trans hx103_1
       have HR103_1 := qV.mk hi103_1
       have HC103_1 := qV.mk hl103_1
       clear hi103_1 hl103_1
       replace p103 := eq_true p103
       replace q103 := eq_true q103
       go_wp2_with (first | ((with_reducible refine gate_callee (f := 148) rfl ?_); refine qW (some 23) rfl rfl Tryd.func148 (by kernel_rfl) rfl #[.agg #[.int .i64 ((rd_T166 l0 x5_1).f0), .slice A103_1 ((rd_T166 l0 x5_1).f1).length c103_1], .int .i64 x1_1] rfl (by (try simp only [List.map_toArray, List.map_cons, List.map_nil]); first | done | rfl) ?_; (with_reducible refine (laws_szStore.calls ((rd_T166 l0 x5_1).f0) _ _ ((rd_T166 l0 x5_1).f1) x1_1 t104 _ ?side1 ?side2 A6.out).mono ?_); (case side1 => repeat (first | exact (Kd.zA HR103_1.out HB.out) | (with_reducible refine Kd.qS ?_ _) | (with_reducible refine Kd.qT ?_ _) | (with_reducible refine Kd.qU ?_))); (case side2 => exact HC103_1.out); rintro e w8 ⟨rfl, hb⟩; refine ⟨_, rfl, ?_⟩; have n0_ := qV.mk (qE (by repeat (first | (with_reducible first | exact HB.out | apply qA | apply qB | apply qC) | exact HB.out)) hb); clear HB; have HB := n0_; clear n0_; (try clear hb); (try clear hb2); (try clear hk); (try clear hi)))
       go_ret
       exact ⟨by first | rfl | (simp [zS, zR] <;> rfl) | (simp [*, zS, zR] <;> rfl), by repeat (first | (with_reducible first | exact HB.out | apply qA | apply qB | apply qC) | exact HB.out)⟩
      ·rw [if_neg c7] at H
       have c7b0 : decide (t104 < 0) = false := decide_eq_false c7
       clear c7
       have H' := qV.mk H
       clear H
       have p103 : 0 ≤ (x5_1 : Int) := of_decide_eq_true (by assumption)
       have q103 : x5_1 < (l0.length : Int) := of_decide_eq_true (by assumption)
       obtain ⟨ad103, A103_1, c103_1, e103, hx103_0, hx103_1, hl103_1, hi103_1⟩ := at_T166 HR0.out x5_1 p103 q103
       cases e103
       replace hx103_0 := (HB.out.cell (World.block_lt_of_cell? w _ hx103_0)).trans hx103_0
       replace hx103_1 := (HB.out.cell (World.block_lt_of_cell? w _ hx103_1)).trans hx103_1
       have HR103_1 := qV.mk hi103_1
       have HC103_1 := qV.mk hl103_1
       clear hi103_1 hl103_1
       replace p103 := eq_true p103
       replace q103 := eq_true q103
       go_wp2_with (first | ((with_reducible refine gate_callee (f := 148) rfl ?_); refine qW (some 23) rfl rfl Tryd.func148 (by kernel_rfl) rfl #[.agg #[.int .i64 ((rd_T166 l0 x5_1).f0), .slice A103_1 ((rd_T166 l0 x5_1).f1).length c103_1], .int .i64 x1_1] rfl (by (try simp only [List.map_toArray, List.map_cons, List.map_nil]); first | done | rfl) ?_; (with_reducible refine (laws_szStore.calls ((rd_T166 l0 x5_1).f0) _ _ ((rd_T166 l0 x5_1).f1) x1_1 t104 _ ?side1 ?side2 A6.out).mono ?_); (case side1 => repeat (first | exact (Kd.zA HR103_1.out HB.out) | (with_reducible refine Kd.qS ?_ _) | (with_reducible refine Kd.qT ?_ _) | (with_reducible refine Kd.qU ?_))); (case side2 => exact HC103_1.out); rintro e w9 ⟨rfl, hb⟩; refine ⟨_, rfl, ?_⟩; have n0_ := qV.mk (qE (by repeat (first | (with_reducible first | exact HB.out | apply qA | apply qB | apply qC) | exact HB.out)) hb); clear HB; have HB := n0_; clear n0_; (try clear hb); (try clear hb2); (try clear hk); (try clear hi)))
       go_roundg k1
       case measure => have := HK1.out; omega
       case rel => exact ⟨(t104), (wrap64 (x5_1 + 1)), (by first | rfl | (simp; done) | (simp [*]; done)), (by first | rfl | (simp; done) | (simp [*]; done)), H', ⟨by have := HK1.out; omega⟩, ⟨by repeat (first | (with_reducible first | exact HB.out | apply qA | apply qB | apply qC) | exact HB.out)⟩⟩
     ·rw [if_neg c5] at H
      exact absurd H (by simp)
    ·rw [if_neg c4] at H
     have c4b0 : decide (x5_1 < (l0.length : Int)) = false := decide_eq_false c4
     clear c4
     obtain rfl := Option.some.inj H
     go_wp2
     go_ret
     exact ⟨by first | rfl | (simp [zS, zR] <;> rfl) | (simp [*, zS, zR] <;> rfl), by repeat (first | (with_reducible first | exact HB.out | apply qA | apply qB | apply qC) | exact HB.out)⟩

def laws_szHeap.f (k : Nat) (l0_0 : List (S166)) (a1 : Int) : Option (Int) := (jI.f k l0_0 a1).bind fun t106 => (if t106 < 0 then (some (-1)) else (some t106))
theorem laws_szHeap.mono : ∀ a0 a1 k, LeO (laws_szHeap.f k a0 a1) (laws_szHeap.f (k + 1) a0 a1) := by
 intro a0 a1 k
 unfold laws_szHeap.f
 repeat' first
   | (with_reducible exact jI.mono _ _ _)
   | (with_reducible exact LeO.refl _)
   | (with_reducible exact LeO.none _)
   | (with_reducible refine LeO.ite ?_ ?_)
   | (with_reducible refine LeO.bind ?_ (fun _ => ?_))
   | exact jI.mono _ _ _
   | exact LeO.none _
   | refine LeO.ite ?_ ?_
   | refine LeO.bind ?_ (fun _ => ?_)
set_option maxHeartbeats 8000000 in
set_option maxRecDepth 100000 in
theorem laws_szHeap.calls (k : Nat) (A0_0 : Option Addr) (c0_0 : Nat) (l0_0 : List (S166)) (a1 : Int) (r : Int) (w : World) (hr0_0 : Kd.C k166 w A0_0 l0_0.length l0_0) (hc0_0 : l0_0.length ≤ c0_0) (h : laws_szHeap.f k l0_0 a1 = some r) :
  Calls Tryd.prog 22 #[.agg #[.slice A0_0 l0_0.length c0_0], .int .i64 a1] w fun e w' => e = .returned (.int .i64 r) ∧ Below w.heap.size w w' := by
 have hu34 := Tryd.underlying34
 have HR0_0 := qV.mk hr0_0
 have HC0_0 := qV.mk hc0_0
 clear hr0_0 hc0_0
 have HB := qV.mk (Below.refl w.heap.size w)
 have H : ((jI.f k l0_0 a1).bind fun t106 => (if t106 < 0 then (some (-1)) else (some t106))) = some r := h
 clear h
 replace H := Option.bind_eq_some_iff.mp H
 obtain ⟨t106, A30, H⟩ := H
 try dsimp only at H
 have A3 := qV.mk A30
 clear A30
 by_cases c4 : t106 < 0
 ·rw [if_pos c4] at H
  have c4b0 : decide (t106 < 0) = true := decide_eq_true c4
  clear c4
  obtain rfl := Option.some.inj H
  go_enter Tryd.func22, Tryd.ntmps22
  go_wp2_with (first | ((with_reducible refine gate_dst (N := 2) rfl ?_); refine qX ?hg (N := 2) ?hd (cs := #[.slice A0_0 l0_0.length c0_0]) (t := 34) ?hr ?_; (case hd => rfl); (case hg => rfl); (case hr => first | (go_simp; done) | (go_simp; rfl)); intro gb105 hg w5 hbox hb; have n0_ := qV.mk (qE (by repeat (first | (with_reducible first | exact HB.out | apply qA | apply qB | apply qC) | exact HB.out)) hb); have n1_ := qV.mk (hbox); have n2_ := qV.mk ((by rw [hg]; exact (qF (by repeat (first | (with_reducible first | exact HB.out | apply qA | apply qB | apply qC) | exact HB.out))) : w.heap.size ≤ gb105)); have n3_ := qV.mk ((by rw [hg]; exact (qF (by repeat (first | (with_reducible first | exact HB.out | apply qA | apply qB | apply qC) | exact HB.out))) : w.heap.size ≤ gb105)); clear HB; have HB := n0_; have BK105 := n1_; have GW105 := n2_; have GE105 := n3_; clear n0_ n1_ n2_ n3_ hb hbox hg; have hcz6_0 : w5.cell? ⟨gb105, 0, none⟩ = some (.slice A0_0 l0_0.length c0_0) := (qJ BK105.out 0).trans rfl; have hfz6_0 := qK BK105.out 0) | ((with_reducible refine gate_callee (f := 77) rfl ?_); refine qW (some 8) rfl rfl Tryd.func77 (by kernel_rfl) rfl #[.slice A0_0 l0_0.length c0_0, .int .i64 a1] rfl (by (try simp only [List.map_toArray, List.map_cons, List.map_nil]); first | done | rfl) ?_; (with_reducible refine (jI.calls k _ _ l0_0 a1 t106 _ ?side1 ?side2 A3.out).mono ?_); (case side1 => repeat (first | exact (Kd.zA HR0_0.out HB.out) | (with_reducible refine Kd.qS ?_ _) | (with_reducible refine Kd.qT ?_ _) | (with_reducible refine Kd.qU ?_))); (case side2 => exact HC0_0.out); rintro e w7 ⟨rfl, hb⟩; refine ⟨_, rfl, ?_⟩; have n0_ := qV.mk (qL (g := gb105) (o := .cells #[.slice A0_0 l0_0.length c0_0] 34 (0, 0)) (by (with_reducible repeat (first | refine qH ?_ _ | refine qI ?_ | refine qG ?_ _)); exact BK105.out) hb); have n1_ := qV.mk (qE (by repeat (first | (with_reducible first | exact HB.out | apply qA | apply qB | apply qC | refine qD ?_ GE105.out) | exact HB.out)) hb); clear BK105 HB; have BK105 := n0_; have HB := n1_; clear n0_ n1_; (try clear hb); (try clear hb2); (try clear hk); (try clear hi)))
  go_ret
  exact ⟨by first | rfl | (simp [zS, zR] <;> rfl) | (simp [*, zS, zR] <;> rfl), by repeat (first | (with_reducible first | exact HB.out | apply qA | apply qB | apply qC | refine qD ?_ GE105.out) | exact HB.out)⟩
 ·rw [if_neg c4] at H
  have c4b0 : decide (t106 < 0) = false := decide_eq_false c4
  clear c4
  obtain rfl := Option.some.inj H
  go_enter Tryd.func22, Tryd.ntmps22
  go_wp2_with (first | ((with_reducible refine gate_dst (N := 2) rfl ?_); refine qX ?hg (N := 2) ?hd (cs := #[.slice A0_0 l0_0.length c0_0]) (t := 34) ?hr ?_; (case hd => rfl); (case hg => rfl); (case hr => first | (go_simp; done) | (go_simp; rfl)); intro gb105 hg w8 hbox hb; have n0_ := qV.mk (qE (by repeat (first | (with_reducible first | exact HB.out | apply qA | apply qB | apply qC) | exact HB.out)) hb); have n1_ := qV.mk (hbox); have n2_ := qV.mk ((by rw [hg]; exact (qF (by repeat (first | (with_reducible first | exact HB.out | apply qA | apply qB | apply qC) | exact HB.out))) : w.heap.size ≤ gb105)); have n3_ := qV.mk ((by rw [hg]; exact (qF (by repeat (first | (with_reducible first | exact HB.out | apply qA | apply qB | apply qC) | exact HB.out))) : w.heap.size ≤ gb105)); clear HB; have HB := n0_; have BK105 := n1_; have GW105 := n2_; have GE105 := n3_; clear n0_ n1_ n2_ n3_ hb hbox hg; have hcz9_0 : w8.cell? ⟨gb105, 0, none⟩ = some (.slice A0_0 l0_0.length c0_0) := (qJ BK105.out 0).trans rfl; have hfz9_0 := qK BK105.out 0) | ((with_reducible refine gate_callee (f := 77) rfl ?_); refine qW (some 8) rfl rfl Tryd.func77 (by kernel_rfl) rfl #[.slice A0_0 l0_0.length c0_0, .int .i64 a1] rfl (by (try simp only [List.map_toArray, List.map_cons, List.map_nil]); first | done | rfl) ?_; (with_reducible refine (jI.calls k _ _ l0_0 a1 t106 _ ?side1 ?side2 A3.out).mono ?_); (case side1 => repeat (first | exact (Kd.zA HR0_0.out HB.out) | (with_reducible refine Kd.qS ?_ _) | (with_reducible refine Kd.qT ?_ _) | (with_reducible refine Kd.qU ?_))); (case side2 => exact HC0_0.out); rintro e w10 ⟨rfl, hb⟩; refine ⟨_, rfl, ?_⟩; have n0_ := qV.mk (qL (g := gb105) (o := .cells #[.slice A0_0 l0_0.length c0_0] 34 (0, 0)) (by (with_reducible repeat (first | refine qH ?_ _ | refine qI ?_ | refine qG ?_ _)); exact BK105.out) hb); have n1_ := qV.mk (qE (by repeat (first | (with_reducible first | exact HB.out | apply qA | apply qB | apply qC | refine qD ?_ GE105.out) | exact HB.out)) hb); clear BK105 HB; have BK105 := n0_; have HB := n1_; clear n0_ n1_; (try clear hb); (try clear hb2); (try clear hk); (try clear hi)))
  go_ret
  exact ⟨by first | rfl | (simp [zS, zR] <;> rfl) | (simp [*, zS, zR] <;> rfl), by repeat (first | (with_reducible first | exact HB.out | apply qA | apply qB | apply qC | refine qD ?_ GE105.out) | exact HB.out)⟩

def laws_toCell.f (a0_0 : Int) (a0_1 : Int) (a0_2 : Int) : Option (Int × Int × Int) := some (a0_0, a0_1, a0_2)
set_option maxHeartbeats 8000000 in
set_option maxRecDepth 100000 in
theorem laws_toCell.calls (a0_0 : Int) (a0_1 : Int) (a0_2 : Int) (r1 : Int) (r2 : Int) (r3 : Int) (w : World) (h : laws_toCell.f a0_0 a0_1 a0_2 = some (r1, r2, r3)) :
  Calls Tryd.prog 18 #[.agg #[.int .i64 a0_0, .float .f64 (Int.toNat a0_1), .float .f64 (Int.toNat a0_2)]] w fun e w' => e = .returned (.agg #[.int .i64 r1, .float .f64 (Int.toNat r2), .float .f64 (Int.toNat r3)]) ∧ Below w.heap.size w w' := by
 have hu25 := Tryd.underlying25
 have hu27 := Tryd.underlying27
 have HB := qV.mk (Below.refl w.heap.size w)
 have H : (some (a0_0, a0_1, a0_2)) = some (r1, r2, r3) := h
 clear h
 simp only [Option.some.injEq, Prod.mk.injEq] at H
 obtain ⟨rfl, rfl, rfl⟩ := H
 go_enter Tryd.func18, Tryd.ntmps18
 go_wp2_with (first | ((with_reducible refine gate_dst (N := 1) rfl ?_); refine qX ?hg (N := 1) ?hd (cs := #[.int .i64 a0_0, .float .f64 (Int.toNat a0_1), .float .f64 (Int.toNat a0_2)]) (t := 25) ?hr ?_; (case hd => rfl); (case hg => rfl); (case hr => first | (go_simp; done) | (go_simp; rfl)); intro gb107 hg w2 hbox hb; have n0_ := qV.mk (qE (by repeat (first | (with_reducible first | exact HB.out | apply qA | apply qB | apply qC) | exact HB.out)) hb); have n1_ := qV.mk (hbox); have n2_ := qV.mk ((by rw [hg]; exact (qF (by repeat (first | (with_reducible first | exact HB.out | apply qA | apply qB | apply qC) | exact HB.out))) : w.heap.size ≤ gb107)); have n3_ := qV.mk ((by rw [hg]; exact (qF (by repeat (first | (with_reducible first | exact HB.out | apply qA | apply qB | apply qC) | exact HB.out))) : w.heap.size ≤ gb107)); clear HB; have HB := n0_; have BK107 := n1_; have GW107 := n2_; have GE107 := n3_; clear n0_ n1_ n2_ n3_; clear hb hbox hg) | ((with_reducible refine gate_dst (N := 2) rfl ?_); refine qX ?hg (N := 2) ?hd (cs := #[.int .i64 0, .float .f64 0, .float .f64 0]) (t := 27) ?hr ?_; (case hd => rfl); (case hg => rfl); (case hr => first | (go_simp; done) | (go_simp; rfl)); intro gb108 hg w3 hbox hb; have n0_ := qV.mk (qL (g := gb107) (o := .cells #[.int .i64 a0_0, .float .f64 (Int.toNat a0_1), .float .f64 (Int.toNat a0_2)] 25 (0, 0)) (by (with_reducible repeat (first | refine qH ?_ _ | refine qI ?_ | refine qG ?_ _)); exact BK107.out) hb); have n1_ := qV.mk (qE (by repeat (first | (with_reducible first | exact HB.out | apply qA | apply qB | apply qC | refine qD ?_ GE107.out) | exact HB.out)) hb); have n2_ := qV.mk (hbox); have n3_ := qV.mk ((by rw [hg]; exact (qF (by repeat (first | (with_reducible first | exact HB.out | apply qA | apply qB | apply qC | refine qD ?_ GE107.out) | exact HB.out))) : w.heap.size ≤ gb108)); have n4_ := qV.mk ((by rw [hg]; exact (qF (by repeat (first | (with_reducible first | exact HB.out | apply qA | apply qB | apply qC | refine qD ?_ GE107.out) | exact HB.out))) : w.heap.size ≤ gb108)); have n5_ := qV.mk ((by rw [hg]; exact Nat.ne_of_lt (jR (g := gb107) (o := .cells #[.int .i64 a0_0, .float .f64 (Int.toNat a0_1), .float .f64 (Int.toNat a0_2)] 25 (0, 0)) (by (with_reducible repeat (first | refine qH ?_ _ | refine qI ?_ | refine qG ?_ _)); exact BK107.out)) : gb107 ≠ gb108)); have n6_ := qV.mk ((by rw [hg]; exact Nat.ne_of_gt (jR (g := gb107) (o := .cells #[.int .i64 a0_0, .float .f64 (Int.toNat a0_1), .float .f64 (Int.toNat a0_2)] 25 (0, 0)) (by (with_reducible repeat (first | refine qH ?_ _ | refine qI ?_ | refine qG ?_ _)); exact BK107.out)) : gb108 ≠ gb107)); clear BK107 HB; have BK107 := n0_; have HB := n1_; have BK108 := n2_; have GW108 := n3_; have GE108 := n4_; have NB107_108 := n5_; have NB108_107 := n6_; clear n0_ n1_ n2_ n3_ n4_ n5_ n6_; clear hb hbox hg) | ((with_reducible refine gate_dst (N := 3) rfl ?_); refine qX ?hg (N := 3) ?hd (cs := #[.int .i64 0, .float .f64 0, .float .f64 0]) (t := 27) ?hr ?_; (case hd => rfl); (case hg => rfl); (case hr => first | (go_simp; done) | (go_simp; rfl)); intro gb109 hg w4 hbox hb; have n0_ := qV.mk (qL (g := gb107) (o := .cells #[.int .i64 a0_0, .float .f64 (Int.toNat a0_1), .float .f64 (Int.toNat a0_2)] 25 (0, 0)) (by (with_reducible repeat (first | refine qH ?_ _ | refine qI ?_ | refine qG ?_ _)); exact BK107.out) hb); have n1_ := qV.mk (qL (g := gb108) (o := .cells #[.int .i64 0, .float .f64 0, .float .f64 0] 27 (0, 0)) (by (with_reducible repeat (first | refine qH ?_ _ | refine qI ?_ | refine qG ?_ _)); exact BK108.out) hb); have n2_ := qV.mk (qE (by repeat (first | (with_reducible first | exact HB.out | apply qA | apply qB | apply qC | refine qD ?_ GE107.out | refine qD ?_ GE108.out) | exact HB.out)) hb); have n3_ := qV.mk (hbox); have n4_ := qV.mk ((by rw [hg]; exact (qF (by repeat (first | (with_reducible first | exact HB.out | apply qA | apply qB | apply qC | refine qD ?_ GE107.out | refine qD ?_ GE108.out) | exact HB.out))) : w.heap.size ≤ gb109)); have n5_ := qV.mk ((by rw [hg]; exact (qF (by repeat (first | (with_reducible first | exact HB.out | apply qA | apply qB | apply qC | refine qD ?_ GE107.out | refine qD ?_ GE108.out) | exact HB.out))) : w.heap.size ≤ gb109)); have n6_ := qV.mk ((by rw [hg]; exact Nat.ne_of_lt (jR (g := gb107) (o := .cells #[.int .i64 a0_0, .float .f64 (Int.toNat a0_1), .float .f64 (Int.toNat a0_2)] 25 (0, 0)) (by (with_reducible repeat (first | refine qH ?_ _ | refine qI ?_ | refine qG ?_ _)); exact BK107.out)) : gb107 ≠ gb109)); have n7_ := qV.mk ((by rw [hg]; exact Nat.ne_of_gt (jR (g := gb107) (o := .cells #[.int .i64 a0_0, .float .f64 (Int.toNat a0_1), .float .f64 (Int.toNat a0_2)] 25 (0, 0)) (by (with_reducible repeat (first | refine qH ?_ _ | refine qI ?_ | refine qG ?_ _)); exact BK107.out)) : gb109 ≠ gb107)); have n8_ := qV.mk ((by rw [hg]; exact Nat.ne_of_lt (jR (g := gb108) (o := .cells #[.int .i64 0, .float .f64 0, .float .f64 0] 27 (0, 0)) (by (with_reducible repeat (first | refine qH ?_ _ | refine qI ?_ | refine qG ?_ _)); exact BK108.out)) : gb108 ≠ gb109)); have n9_ := qV.mk ((by rw [hg]; exact Nat.ne_of_gt (jR (g := gb108) (o := .cells #[.int .i64 0, .float .f64 0, .float .f64 0] 27 (0, 0)) (by (with_reducible repeat (first | refine qH ?_ _ | refine qI ?_ | refine qG ?_ _)); exact BK108.out)) : gb109 ≠ gb108)); clear BK107 BK108 HB; have BK107 := n0_; have BK108 := n1_; have HB := n2_; have BK109 := n3_; have GW109 := n4_; have GE109 := n5_; have NB107_109 := n6_; have NB109_107 := n7_; have NB108_109 := n8_; have NB109_108 := n9_; clear n0_ n1_ n2_ n3_ n4_ n5_ n6_ n7_ n8_ n9_ hb hbox hg; have hnb5 := NB107_108.out; have hnc5 := NB108_107.out; have hnb6 := NB107_109.out; have hnc6 := NB109_107.out; have hcz7_0 : w4.cell? ⟨gb107, 0, none⟩ = some (.int .i64 a0_0) := (qJ BK107.out 0).trans rfl; have hcz7_1 : w4.cell? ⟨gb107, 1, none⟩ = some (.float .f64 (Int.toNat a0_1)) := (qJ BK107.out 1).trans rfl; have hcz7_2 : w4.cell? ⟨gb107, 2, none⟩ = some (.float .f64 (Int.toNat a0_2)) := (qJ BK107.out 2).trans rfl; have hfz7_0 := qK BK107.out 0; have hfz7_1 := qK BK107.out 1; have hfz7_2 := qK BK107.out 2; have hnb8 := NB109_108.out; have hnc8 := NB108_109.out; have hcz9_0 : w4.cell? ⟨gb109, 0, none⟩ = some (.int .i64 0) := (qJ BK109.out 0).trans rfl; have hcz9_1 : w4.cell? ⟨gb109, 1, none⟩ = some (.float .f64 0) := (qJ BK109.out 1).trans rfl; have hcz9_2 : w4.cell? ⟨gb109, 2, none⟩ = some (.float .f64 0) := (qJ BK109.out 2).trans rfl; have hfz9_0 := qK BK109.out 0; have hfz9_1 := qK BK109.out 1; have hfz9_2 := qK BK109.out 2; have hcz10_0 : w4.cell? ⟨gb108, 0, none⟩ = some (.int .i64 0) := (qJ BK108.out 0).trans rfl; have hcz10_1 : w4.cell? ⟨gb108, 1, none⟩ = some (.float .f64 0) := (qJ BK108.out 1).trans rfl; have hcz10_2 : w4.cell? ⟨gb108, 2, none⟩ = some (.float .f64 0) := (qJ BK108.out 2).trans rfl; have hfz10_0 := qK BK108.out 0; have hfz10_1 := qK BK108.out 1; have hfz10_2 := qK BK108.out 2))
 refine bodyPost_ret (results_cell_row rfl _ _ gb108 27 #[.int .i64 a0_0, .float .f64 (Int.toNat a0_1), .float .f64 (Int.toNat a0_2)] (0, 0) _ rfl (by (with_reducible repeat (first | refine qH ?_ _ | refine qI ?_ | refine qG ?_ _)); refine jQ (cs := #[.int .i64 a0_0, .float .f64 (Int.toNat a0_1), .float .f64 0]) ?_ 2 _ rfl; (with_reducible repeat (first | refine qH ?_ _ | refine qI ?_ | refine qG ?_ _)); refine jQ (cs := #[.int .i64 a0_0, .float .f64 0, .float .f64 0]) ?_ 1 _ rfl; (with_reducible repeat (first | refine qH ?_ _ | refine qI ?_ | refine qG ?_ _)); refine jQ (cs := #[.int .i64 0, .float .f64 0, .float .f64 0]) ?_ 0 _ rfl; (with_reducible repeat (first | refine qH ?_ _ | refine qI ?_ | refine qG ?_ _)); refine jO ?_ NB108_109.out _; (with_reducible repeat (first | refine qH ?_ _ | refine qI ?_ | refine qG ?_ _)); refine jO ?_ NB108_109.out _; (with_reducible repeat (first | refine qH ?_ _ | refine qI ?_ | refine qG ?_ _)); refine jO ?_ NB108_109.out _; (with_reducible repeat (first | refine qH ?_ _ | refine qI ?_ | refine qG ?_ _)); exact BK108.out) Tryd.underlying27 rfl (by kernel_rfl)) rfl ?_
 exact ⟨by first | rfl | (simp [zS, zR] <;> rfl) | (simp [*, zS, zR] <;> rfl), by repeat (first | (with_reducible first | exact HB.out | apply qA | apply qB | apply qC | refine qD ?_ GE107.out | refine qD ?_ GE108.out | refine qD ?_ GE109.out) | exact HB.out)⟩

def jP.l0 : Nat → List (S25) → List (S27) → Int → Option ((List (S27)))
 | 0, _, _, _ => none
 | k + 1, x0, x3, x4 => if x4 < (x0.length : Int) then (if 0 ≤ x4 then ((laws_toCell.f ((rd_T25 x0 x4).f0) ((rd_T25 x0 x4).f1) ((rd_T25 x0 x4).f2)).bind fun bt114 => (if x4 < (x3.length : Int) then (jP.l0 k x0 (x3.set (x4 : Int).toNat (⟨bt114.1, bt114.2.1, bt114.2.2⟩ : S27)) (wrap64 (x4 + 1))) else (none))) else (none)) else (some x3)
def jP.f (k : Nat) (l0 : List (S25)) : Option ((List (S27))) := if 0 ≤ (l0.length : Int) then (if ((l0.length : Int) : Int).toNat ≤ 11728124029610 then (jP.l0 k l0 (List.replicate ((l0.length : Int) : Int).toNat z27) 0) else (none)) else (none)
theorem jP.mono_l : ∀ k, (∀ y0 y1 y2, LeO (jP.l0 k y0 y1 y2) (jP.l0 (k + 1) y0 y1 y2))
 | 0 => fun _ _ _ r h => by simp [jP.l0] at h
 | k + 1 => by
  have ih0 := jP.mono_l k
  ·intro y0 y1 y2
   unfold jP.l0
   repeat' first
   | (with_reducible exact ih0 _ _ _)
   | (with_reducible exact LeO.refl _)
   | (with_reducible exact LeO.none _)
   | (with_reducible refine LeO.ite ?_ ?_)
   | (with_reducible refine LeO.bind ?_ (fun _ => ?_))
   | exact ih0 _ _ _
   | exact LeO.none _
   | refine LeO.ite ?_ ?_
   | refine LeO.bind ?_ (fun _ => ?_)
theorem jP.mono : ∀ a0 k, LeO (jP.f k a0) (jP.f (k + 1) a0) := by
 intro a0 k
 have ih0 := jP.mono_l k
 unfold jP.f
 repeat' first
   | (with_reducible exact ih0 _ _ _)
   | (with_reducible exact LeO.refl _)
   | (with_reducible exact LeO.none _)
   | (with_reducible refine LeO.ite ?_ ?_)
   | (with_reducible refine LeO.bind ?_ (fun _ => ?_))
   | exact ih0 _ _ _
   | exact LeO.none _
   | refine LeO.ite ?_ ?_
   | refine LeO.bind ?_ (fun _ => ?_)
set_option maxHeartbeats 8000000 in
set_option maxRecDepth 100000 in
theorem jP.calls (k : Nat) (A0 : Option Addr) (c0 : Nat) (l0 : List (S25)) (r : List (S27)) (w : World) (hr0 : Kd.C k25 w A0 l0.length l0) (hc0 : l0.length ≤ c0) (h : jP.f k l0 = some r) :
  Calls Tryd.prog 185 #[.slice A0 l0.length c0] w fun e w' => ∃ v0_ : Value, e = .returned (v0_) ∧ Kd.R k27 27 w' w.heap.size (fun _ => True) v0_ r ∧ Below w.heap.size w w' := by
 have hu25 := Tryd.underlying25
 have hu27 := Tryd.underlying27
 have HR0 := qV.mk hr0
 have HC0 := qV.mk hc0
 clear hr0 hc0
 have HB := qV.mk (Below.refl w.heap.size w)
 have H : (if 0 ≤ (l0.length : Int) then (if ((l0.length : Int) : Int).toNat ≤ 11728124029610 then (jP.l0 k l0 (List.replicate ((l0.length : Int) : Int).toNat z27) 0) else (none)) else (none)) = some r := h
 clear h
 by_cases c2 : 0 ≤ (l0.length : Int)
 ·rw [if_pos c2] at H
  have c2b0 := eq_true c2
  have c2b1 : decide (0 ≤ (l0.length : Int)) = true := decide_eq_true c2
  clear c2
  by_cases c3 : ((l0.length : Int) : Int).toNat ≤ 11728124029610
  ·rw [if_pos c3] at H
   have c3b0 := eq_true c3
   have c3b1 : decide (((l0.length : Int) : Int).toNat ≤ 11728124029610) = true := decide_eq_true c3
   clear c3
   obtain ⟨y110, hy110⟩ : ∃ y_ : List (S27), y_ = (List.replicate ((l0.length : Int) : Int).toNat z27) := ⟨_, rfl⟩
   replace H : (jP.l0 k l0 y110 0) = some r := by first | (rw [hy110]; with_reducible exact H) | (have H2_ := (Option.bind_some _ _).symm.trans H; rw [hy110]; with_reducible exact H2_) | (have H2_ := (Option.bind_some _ _).symm.trans H; with_reducible exact H2_) | with_reducible exact H | (rw [hy110]; exact H) | exact H
   have Ny110 := qV.mk hy110
   clear hy110
   have H' := qV.mk H
   clear H
   go_enter Tryd.func185, Tryd.ntmps185
   go_wp2_with (first | ((with_reducible refine gate_dst (N := 7) rfl ?_); refine Kd.R_make k27 _ 27 rfl (N := 7) rfl 73 _ _ rfl (l0.length : Int) rfl rfl Tryd.underlying73 (.agg #[(.int .i64 0), (.float .f64 0), (.float .f64 0)]) 24 info27 rfl (by decide) (by omega) z27 (ok := fun _ => True) (okp := fun _ => True) (k27_mkM _ _ _ z27 ) (fun _ hk => hk) trivial (of_decide_eq_true (by assumption)) (Nat.le_trans (Nat.mul_le_mul_right _ (of_decide_eq_true (by assumption) : (l0.length : Int).toNat ≤ 11728124029610)) (by omega)) (Below.refl _ _) (Nat.le_refl _) ?_; intro v111 w4 ho5 hb hg_ hnew_; clear hg_ hnew_; (first | rw [← Ny110.out] at ho5 | (simp only [Int.reduceToNat] at ho5; rw [← Ny110.out] at ho5)); have n0_ := qV.mk (Kd.R_lower ho5 (qF (by repeat (first | (with_reducible first | exact HB.out | apply qA | apply qB | apply qC) | exact HB.out)))); have n1_ := qV.mk (qE (by repeat (first | (with_reducible first | exact HB.out | apply qA | apply qB | apply qC) | exact HB.out)) hb); clear HB; have HO112 := n0_; have HB := n1_; clear n0_ n1_; clear hb ho5))
   go_loopg [4] k (fun kq v4 w' => ∃ (x3_1 : List (S27)) (x4_1 : Int), v4 = .int .i64 x4_1 ∧ qV (jP.l0 kq l0 x3_1 x4_1 = some r) ∧ qV (kq ≤ k) ∧ qV (Kd.R k27 27 w' w.heap.size (fun _ => True) v111 x3_1) ∧ qV (Below w.heap.size w w'))
   case atStart => exact ⟨(y110), (0), (by first | rfl | (simp; done) | (simp [*]; done)), H', ⟨Nat.le_refl _⟩, ⟨by (with_reducible repeat (first | apply Kd.qM | apply Kd.qN | apply Kd.qO)); exact HO112.out⟩, ⟨by repeat (first | (with_reducible first | exact HB.out | apply qA | apply qB | apply qC) | exact HB.out)⟩⟩
   case round =>
    clear H'
    try clear c1
    try clear c2
    try clear c2b0
    try clear c2b1
    try clear p2
    try clear c3
    try clear c3b0
    try clear c3b1
    obtain ⟨x3_1, x4_1, rfl, HA, HK1, HO_3, HB⟩ := hrel
    cases gk with
    | zero => exact absurd HA.out (by simp [jP.l0])
    | succ k1 =>
     have H := HA.out
     clear HA
     simp only [jP.l0] at H
     by_cases c6 : x4_1 < (l0.length : Int)
     ·rw [if_pos c6] at H
      have c6b0 : decide (x4_1 < (l0.length : Int)) = true := decide_eq_true c6
      clear c6
      by_cases c7 : 0 ≤ x4_1
      ·rw [if_pos c7] at H
       have c7b0 : decide (0 ≤ x4_1) = true := decide_eq_true c7
       clear c7
       replace H := Option.bind_eq_some_iff.mp H
       obtain ⟨⟨t114, t115, t116⟩, A80, H⟩ := H
       try dsimp only at H
       have A8 := qV.mk A80
       clear A80
       by_cases c9 : x4_1 < (x3_1.length : Int)
       ·rw [if_pos c9] at H
        have c9b0 : decide (x4_1 < (x3_1.length : Int)) = true := decide_eq_true c9
        clear c9
        obtain ⟨y117, hy117⟩ : ∃ y_ : List (S27), y_ = (x3_1.set (x4_1 : Int).toNat (⟨t114, t115, t116⟩ : S27)) := ⟨_, rfl⟩
        replace H : (jP.l0 k1 l0 y117 (wrap64 (x4_1 + 1))) = some r := by first | (rw [hy117]; with_reducible exact H) | (have H2_ := (Option.bind_some _ _).symm.trans H; rw [hy117]; with_reducible exact H2_) | (have H2_ := (Option.bind_some _ _).symm.trans H; with_reducible exact H2_) | with_reducible exact H | (rw [hy117]; exact H) | exact H
        have Ny117 := qV.mk hy117
        clear hy117
        have H' := qV.mk H
        clear H
        have p113 : 0 ≤ (x4_1 : Int) := of_decide_eq_true (by assumption)
        have q113 : x4_1 < (l0.length : Int) := of_decide_eq_true (by assumption)
        obtain ⟨ad113, e113, hx113_0, hx113_1, hx113_2⟩ := at_T25 HR0.out x4_1 p113 q113
        cases e113
        replace hx113_0 := (HB.out.cell (World.block_lt_of_cell? w _ hx113_0)).trans hx113_0
        replace hx113_1 := (HB.out.cell (World.block_lt_of_cell? w _ hx113_1)).trans hx113_1
        replace hx113_2 := (HB.out.cell (World.block_lt_of_cell? w _ hx113_2)).trans hx113_2
        replace p113 := eq_true p113
        replace q113 := eq_true q113
        go_wp2_with (first | ((with_reducible refine gate_callee (f := 18) rfl ?_); refine qW (some 20) rfl rfl Tryd.func18 (by kernel_rfl) rfl #[.agg #[.int .i64 ((rd_T25 l0 x4_1).f0), .float .f64 (Int.toNat ((rd_T25 l0 x4_1).f1)), .float .f64 (Int.toNat ((rd_T25 l0 x4_1).f2))]] rfl (by (try simp only [List.map_toArray, List.map_cons, List.map_nil]); first | done | rfl) ?_; (with_reducible refine (laws_toCell.calls ((rd_T25 l0 x4_1).f0) ((rd_T25 l0 x4_1).f1) ((rd_T25 l0 x4_1).f2) t114 t115 t116 _ A8.out).mono ?_); rintro e w11 ⟨rfl, hb⟩; refine ⟨_, rfl, ?_⟩; have n0_ := qV.mk (Kd.qY (by (with_reducible repeat (first | apply Kd.qM | apply Kd.qN | apply Kd.qO)); exact HO_3.out) hb); have n1_ := qV.mk (qE (by repeat (first | (with_reducible first | exact HB.out | apply qA | apply qB | apply qC) | exact HB.out)) hb); clear HO_3 HB; have HO_3 := n0_; have HB := n1_; clear n0_ n1_; (try clear hb); (try clear hb2); (try clear hk); (try clear hi); have p10 : 0 ≤ (x4_1 : Int) := of_decide_eq_true (by assumption); have q10 : (x4_1 : Int) < ((x3_1.length : Int) : Int) := of_decide_eq_true (by assumption); obtain ⟨go10, co10, eo10, gb10, gl10, cl10, HG10⟩ := Kd.R_form HO_3.out (by omega); (first | cases eo10 | (injection eo10 with ea_ en_ ec_; (first | subst ea_ | (injection ea_ with ea_; subst ea_)); subst ec_; clear en_)); have GB10 := qV.mk gb10; have GG10 := qV.mk HG10; clear gb10 gl10 HG10; obtain ⟨ce10, hcl10, hM10, hcc10, hfr10⟩ := Kd.R_elem HO_3.out z27 (x4_1 : Int) p10 q10; obtain rfl := k27_openM hM10; have hx10_0 : w11.cell? ⟨go10, (x4_1 : Int).toNat * 3, none⟩ = some (.int .i64 ((zU x3_1 x4_1).f0)) := hcc10 0 _ rfl; have hx10_1 : w11.cell? ⟨go10, (x4_1 : Int).toNat * 3 + 1, none⟩ = some (.float .f64 (Int.toNat ((zU x3_1 x4_1).f1))) := hcc10 1 _ rfl; have hx10_2 : w11.cell? ⟨go10, (x4_1 : Int).toNat * 3 + 2, none⟩ = some (.float .f64 (Int.toNat ((zU x3_1 x4_1).f2))) := hcc10 2 _ rfl; have hf10_0 : w11.frozen? ⟨go10, (x4_1 : Int).toNat * 3, none⟩ = false := hfr10 0; have hf10_1 : w11.frozen? ⟨go10, (x4_1 : Int).toNat * 3 + 1, none⟩ = false := hfr10 1; have hf10_2 : w11.frozen? ⟨go10, (x4_1 : Int).toNat * 3 + 2, none⟩ = false := hfr10 2; clear hcl10 hcc10 hfr10 hM10; replace p10 := eq_true p10; replace q10 := eq_true q10; have HX12 := qV.mk (show Kd.R k27 27 w11 w.heap.size (fun _ => True) (.slice (some ⟨go10, 0, none⟩) x3_1.length co10) x3_1 from (by (with_reducible repeat (first | apply Kd.qM | apply Kd.qN | apply Kd.qO)); exact HO_3.out)); obtain ⟨ce12, hcl12, hM12, hcc12, hfr12⟩ := Kd.R_elem HX12.out z27 (x4_1 : Int) (of_decide_eq_true (by assumption)) (by have h_ : (x4_1 : Int) < ((x3_1.length : Int) : Int) := of_decide_eq_true (by assumption); first | exact h_ | (have e_ := (Kd.zC HO_3.out).1; omega) | simpa using h_); obtain rfl := k27_openM hM12; have HP12 := Kd.R_seg HX12.out (x4_1 : Int) (of_decide_eq_true (by assumption)) (by have h_ : (x4_1 : Int) < ((x3_1.length : Int) : Int) := of_decide_eq_true (by assumption); first | exact h_ | (have e_ := (Kd.zC HO_3.out).1; omega) | simpa using h_) (seg := [.int .i64 t114, .float .f64 (Int.toNat t115), .float .f64 (Int.toNat t116)]) (j := 0) hcl12 hcc12 (show 3 ≤ 3 from by decide) (x' := (⟨t114, t115, t116⟩ : S27)) (k27_mkM _ _ _ (⟨t114, t115, t116⟩ : S27) ) (fun _ hk => hk); have hx12_0 := hcc12 0 _ rfl; (try simp only [show (k27).sz = 3 from rfl, Nat.mul_one, Nat.add_zero] at hx12_0); have hf12_0 := hfr12 0; (try simp only [show (k27).sz = 3 from rfl, Nat.mul_one, Nat.add_zero] at hf12_0); have hx12_1 := hcc12 1 _ rfl; (try simp only [show (k27).sz = 3 from rfl, Nat.mul_one, Nat.add_zero] at hx12_1); have hf12_1 := hfr12 1; (try simp only [show (k27).sz = 3 from rfl, Nat.mul_one, Nat.add_zero] at hf12_1); have hx12_2 := hcc12 2 _ rfl; (try simp only [show (k27).sz = 3 from rfl, Nat.mul_one, Nat.add_zero] at hx12_2); have hf12_2 := hfr12 2; (try simp only [show (k27).sz = 3 from rfl, Nat.mul_one, Nat.add_zero] at hf12_2); clear hcl12 hcc12 hfr12 hM12) | ((with_reducible refine gate_store (t := 27) (p := 21) rfl ?_); refine zJ (t := 27) (p := 21) (v := ?vo_w13) (w1 := (((w11.setCell ⟨go10, (x4_1 : Int).toNat * 3, none⟩ (.int .i64 t114)).setCell ⟨go10, (x4_1 : Int).toNat * 3 + 1, none⟩ (.float .f64 (Int.toNat t115))).setCell ⟨go10, (x4_1 : Int).toNat * 3 + 2, none⟩ (.float .f64 (Int.toNat t116)))) ?hg ?ho ?hn ?hr ?_; (case ho => rfl); (case hg => rfl); (case hn => rfl); (case hr => first | (go_simp; done) | (go_simp; rfl)); intro w13 hw; have hg : w11.grownBy w13 (some go10) := (by rw [hw]; exact HP12.2); have hp_ : Kd.R k27 27 w13 w.heap.size (fun _ => True) (.slice (some ⟨go10, 0, none⟩) x3_1.length co10) y117 := (by rw [hw, Ny117.out]; exact HP12.1); clear HP12; have n0_ := qV.mk (hp_); have n1_ := qV.mk ((by rw [hw]; exact qD (qD (qD (HB.out) GB10.out) GB10.out) GB10.out : Below w.heap.size w w13)); clear HO_3 HB; have HO_3 := n0_; have HB := n1_; clear n0_ n1_; clear hg hw hp_))
        go_roundg k1
        case measure => have := HK1.out; omega
        case rel => exact ⟨(y117), (wrap64 (x4_1 + 1)), (by first | rfl | (simp; done) | (simp [*]; done)), H', ⟨by have := HK1.out; omega⟩, ⟨by (with_reducible repeat (first | apply Kd.qM | apply Kd.qN | apply Kd.qO)); exact HO_3.out⟩, ⟨by repeat (first | (with_reducible first | exact HB.out | apply qA | apply qB | apply qC) | exact HB.out)⟩⟩
       ·rw [if_neg c9] at H
        exact absurd H (by simp)
      ·rw [if_neg c7] at H
       exact absurd H (by simp)
     ·rw [if_neg c6] at H
      have c6b0 : decide (x4_1 < (l0.length : Int)) = false := decide_eq_false c6
      clear c6
      obtain rfl := Option.some.inj H
      go_wp2
      go_ret
      exact ⟨_, by first | rfl | (simp [zS, zR] <;> rfl) | (simp [*, zS, zR] <;> rfl), by (with_reducible repeat (first | apply Kd.qM | apply Kd.qN | apply Kd.qO)); exact HO_3.out, by repeat (first | (with_reducible first | exact HB.out | apply qA | apply qB | apply qC) | exact HB.out)⟩
  ·rw [if_neg c3] at H
   exact absurd H (by simp)
 ·rw [if_neg c2] at H
  exact absurd H (by simp)

def laws_toStore.f (k : Nat) (a0_0 : Int) (l0_1 : List (S25)) : Option (Int × (List (S27))) := (jP.f k l0_1).bind fun t121 => (some (a0_0, t121))
theorem laws_toStore.mono : ∀ a0 a1 k, LeO (laws_toStore.f k a0 a1) (laws_toStore.f (k + 1) a0 a1) := by
 intro a0 a1 k
 unfold laws_toStore.f
 repeat' first
   | (with_reducible exact jP.mono _ _)
   | (with_reducible exact LeO.refl _)
   | (with_reducible exact LeO.none _)
   | (with_reducible refine LeO.ite ?_ ?_)
   | (with_reducible refine LeO.bind ?_ (fun _ => ?_))
   | exact jP.mono _ _
   | exact LeO.none _
   | refine LeO.ite ?_ ?_
   | refine LeO.bind ?_ (fun _ => ?_)
set_option maxHeartbeats 8000000 in
set_option maxRecDepth 100000 in
theorem laws_toStore.calls (k : Nat) (a0_0 : Int) (A0_1 : Option Addr) (c0_1 : Nat) (l0_1 : List (S25)) (r1 : Int) (r2 : List (S27)) (w : World) (hr0_1 : Kd.C k25 w A0_1 l0_1.length l0_1) (hc0_1 : l0_1.length ≤ c0_1) (h : laws_toStore.f k a0_0 l0_1 = some (r1, r2)) :
  Calls Tryd.prog 149 #[.agg #[.int .i64 a0_0, .slice A0_1 l0_1.length c0_1]] w fun e w' => ∃ v1_ : Value, e = .returned (.agg #[.int .i64 r1, v1_]) ∧ Kd.R k27 27 w' w.heap.size (fun _ => True) v1_ r2 ∧ Below w.heap.size w w' := by
 have hu166 := Tryd.underlying166
 have hu85 := Tryd.underlying85
 have HR0_1 := qV.mk hr0_1
 have HC0_1 := qV.mk hc0_1
 clear hr0_1 hc0_1
 have HB := qV.mk (Below.refl w.heap.size w)
 have H : ((jP.f k l0_1).bind fun t121 => (some (a0_0, t121))) = some (r1, r2) := h
 clear h
 replace H := Option.bind_eq_some_iff.mp H
 obtain ⟨t121, A20, H⟩ := H
 try dsimp only at H
 have A2 := qV.mk A20
 clear A20
 simp only [Option.some.injEq, Prod.mk.injEq] at H
 obtain ⟨rfl, rfl⟩ := H
 go_enter Tryd.func149, Tryd.ntmps149
 go_wp2_with (first | ((with_reducible refine gate_dst (N := 1) rfl ?_); refine qX ?hg (N := 1) ?hd (cs := #[.int .i64 a0_0, .slice A0_1 l0_1.length c0_1]) (t := 166) ?hr ?_; (case hd => rfl); (case hg => rfl); (case hr => first | (go_simp; done) | (go_simp; rfl)); intro gb118 hg w3 hbox hb; have n0_ := qV.mk (qE (by repeat (first | (with_reducible first | exact HB.out | apply qA | apply qB | apply qC) | exact HB.out)) hb); have n1_ := qV.mk (hbox); have n2_ := qV.mk ((by rw [hg]; exact (qF (by repeat (first | (with_reducible first | exact HB.out | apply qA | apply qB | apply qC) | exact HB.out))) : w.heap.size ≤ gb118)); have n3_ := qV.mk ((by rw [hg]; exact (qF (by repeat (first | (with_reducible first | exact HB.out | apply qA | apply qB | apply qC) | exact HB.out))) : w.heap.size ≤ gb118)); clear HB; have HB := n0_; have BK118 := n1_; have GW118 := n2_; have GE118 := n3_; clear n0_ n1_ n2_ n3_; clear hb hbox hg) | ((with_reducible refine gate_dst (N := 2) rfl ?_); refine qX ?hg (N := 2) ?hd (cs := #[.int .i64 0, .slice none 0 0]) (t := 85) ?hr ?_; (case hd => rfl); (case hg => rfl); (case hr => first | (go_simp; done) | (go_simp; rfl)); intro gb119 hg w4 hbox hb; have n0_ := qV.mk (qL (g := gb118) (o := .cells #[.int .i64 a0_0, .slice A0_1 l0_1.length c0_1] 166 (0, 0)) (by (with_reducible repeat (first | refine qH ?_ _ | refine qI ?_ | refine qG ?_ _)); exact BK118.out) hb); have n1_ := qV.mk (qE (by repeat (first | (with_reducible first | exact HB.out | apply qA | apply qB | apply qC | refine qD ?_ GE118.out) | exact HB.out)) hb); have n2_ := qV.mk (hbox); have n3_ := qV.mk ((by rw [hg]; exact (qF (by repeat (first | (with_reducible first | exact HB.out | apply qA | apply qB | apply qC | refine qD ?_ GE118.out) | exact HB.out))) : w.heap.size ≤ gb119)); have n4_ := qV.mk ((by rw [hg]; exact (qF (by repeat (first | (with_reducible first | exact HB.out | apply qA | apply qB | apply qC | refine qD ?_ GE118.out) | exact HB.out))) : w.heap.size ≤ gb119)); have n5_ := qV.mk ((by rw [hg]; exact Nat.ne_of_lt (jR (g := gb118) (o := .cells #[.int .i64 a0_0, .slice A0_1 l0_1.length c0_1] 166 (0, 0)) (by (with_reducible repeat (first | refine qH ?_ _ | refine qI ?_ | refine qG ?_ _)); exact BK118.out)) : gb118 ≠ gb119)); have n6_ := qV.mk ((by rw [hg]; exact Nat.ne_of_gt (jR (g := gb118) (o := .cells #[.int .i64 a0_0, .slice A0_1 l0_1.length c0_1] 166 (0, 0)) (by (with_reducible repeat (first | refine qH ?_ _ | refine qI ?_ | refine qG ?_ _)); exact BK118.out)) : gb119 ≠ gb118)); clear BK118 HB; have BK118 := n0_; have HB := n1_; have BK119 := n2_; have GW119 := n3_; have GE119 := n4_; have NB118_119 := n5_; have NB119_118 := n6_; clear n0_ n1_ n2_ n3_ n4_ n5_ n6_; clear hb hbox hg) | ((with_reducible refine gate_dst (N := 3) rfl ?_); refine qX ?hg (N := 3) ?hd (cs := #[.int .i64 0, .slice none 0 0]) (t := 85) ?hr ?_; (case hd => rfl); (case hg => rfl); (case hr => first | (go_simp; done) | (go_simp; rfl)); intro gb120 hg w5 hbox hb; have n0_ := qV.mk (qL (g := gb118) (o := .cells #[.int .i64 a0_0, .slice A0_1 l0_1.length c0_1] 166 (0, 0)) (by (with_reducible repeat (first | refine qH ?_ _ | refine qI ?_ | refine qG ?_ _)); exact BK118.out) hb); have n1_ := qV.mk (qL (g := gb119) (o := .cells #[.int .i64 0, .slice none 0 0] 85 (0, 0)) (by (with_reducible repeat (first | refine qH ?_ _ | refine qI ?_ | refine qG ?_ _)); exact BK119.out) hb); have n2_ := qV.mk (qE (by repeat (first | (with_reducible first | exact HB.out | apply qA | apply qB | apply qC | refine qD ?_ GE118.out | refine qD ?_ GE119.out) | exact HB.out)) hb); have n3_ := qV.mk (hbox); have n4_ := qV.mk ((by rw [hg]; exact (qF (by repeat (first | (with_reducible first | exact HB.out | apply qA | apply qB | apply qC | refine qD ?_ GE118.out | refine qD ?_ GE119.out) | exact HB.out))) : w.heap.size ≤ gb120)); have n5_ := qV.mk ((by rw [hg]; exact (qF (by repeat (first | (with_reducible first | exact HB.out | apply qA | apply qB | apply qC | refine qD ?_ GE118.out | refine qD ?_ GE119.out) | exact HB.out))) : w.heap.size ≤ gb120)); have n6_ := qV.mk ((by rw [hg]; exact Nat.ne_of_lt (jR (g := gb118) (o := .cells #[.int .i64 a0_0, .slice A0_1 l0_1.length c0_1] 166 (0, 0)) (by (with_reducible repeat (first | refine qH ?_ _ | refine qI ?_ | refine qG ?_ _)); exact BK118.out)) : gb118 ≠ gb120)); have n7_ := qV.mk ((by rw [hg]; exact Nat.ne_of_gt (jR (g := gb118) (o := .cells #[.int .i64 a0_0, .slice A0_1 l0_1.length c0_1] 166 (0, 0)) (by (with_reducible repeat (first | refine qH ?_ _ | refine qI ?_ | refine qG ?_ _)); exact BK118.out)) : gb120 ≠ gb118)); have n8_ := qV.mk ((by rw [hg]; exact Nat.ne_of_lt (jR (g := gb119) (o := .cells #[.int .i64 0, .slice none 0 0] 85 (0, 0)) (by (with_reducible repeat (first | refine qH ?_ _ | refine qI ?_ | refine qG ?_ _)); exact BK119.out)) : gb119 ≠ gb120)); have n9_ := qV.mk ((by rw [hg]; exact Nat.ne_of_gt (jR (g := gb119) (o := .cells #[.int .i64 0, .slice none 0 0] 85 (0, 0)) (by (with_reducible repeat (first | refine qH ?_ _ | refine qI ?_ | refine qG ?_ _)); exact BK119.out)) : gb120 ≠ gb119)); clear BK118 BK119 HB; have BK118 := n0_; have BK119 := n1_; have HB := n2_; have BK120 := n3_; have GW120 := n4_; have GE120 := n5_; have NB118_120 := n6_; have NB120_118 := n7_; have NB119_120 := n8_; have NB120_119 := n9_; clear n0_ n1_ n2_ n3_ n4_ n5_ n6_ n7_ n8_ n9_ hb hbox hg; have hnb6 := NB118_119.out; have hnc6 := NB119_118.out; have hnb7 := NB118_120.out; have hnc7 := NB120_118.out; have hcz8_0 : w5.cell? ⟨gb118, 0, none⟩ = some (.int .i64 a0_0) := (qJ BK118.out 0).trans rfl; have hcz8_1 : w5.cell? ⟨gb118, 1, none⟩ = some (.slice A0_1 l0_1.length c0_1) := (qJ BK118.out 1).trans rfl; have hfz8_0 := qK BK118.out 0; have hfz8_1 := qK BK118.out 1; have hnb9 := NB120_119.out; have hnc9 := NB119_120.out; have hcz10_0 : w5.cell? ⟨gb120, 0, none⟩ = some (.int .i64 0) := (qJ BK120.out 0).trans rfl; have hcz10_1 : w5.cell? ⟨gb120, 1, none⟩ = some (.slice none 0 0) := (qJ BK120.out 1).trans rfl; have hfz10_0 := qK BK120.out 0; have hfz10_1 := qK BK120.out 1) | ((with_reducible refine gate_callee (f := 185) rfl ?_); refine qW (some 9) rfl rfl Tryd.func185 (by kernel_rfl) rfl #[.slice A0_1 l0_1.length c0_1] rfl (by (try simp only [List.map_toArray, List.map_cons, List.map_nil]); first | done | rfl) ?_; (with_reducible refine (jP.calls k _ _ l0_1 t121 _ ?side1 ?side2 A2.out).mono ?_); (case side1 => exact Kd.zA HR0_1.out (by repeat (first | (with_reducible first | exact HB.out | apply qA | apply qB | apply qC | refine qD ?_ GE118.out | refine qD ?_ GE119.out | refine qD ?_ GE120.out) | exact HB.out))); (case side2 => exact HC0_1.out); rintro e w11 ⟨v122, rfl, ho0, hb⟩; refine ⟨_, rfl, ?_⟩; have n0_ := qV.mk (Kd.R_lower ho0 (qF (by repeat (first | (with_reducible first | exact HB.out | apply qA | apply qB | apply qC | refine qD ?_ GE118.out | refine qD ?_ GE119.out | refine qD ?_ GE120.out) | exact HB.out)))); have n1_ := qV.mk (qL (g := gb118) (o := .cells #[.int .i64 a0_0, .slice A0_1 l0_1.length c0_1] 166 (0, 0)) (by (with_reducible repeat (first | refine qH ?_ _ | refine qI ?_ | refine qG ?_ _)); refine jO ?_ NB118_120.out _; (with_reducible repeat (first | refine qH ?_ _ | refine qI ?_ | refine qG ?_ _)); exact BK118.out) hb); have n2_ := qV.mk (qL (g := gb119) (o := .cells #[.int .i64 0, .slice none 0 0] 85 (0, 0)) (by (with_reducible repeat (first | refine qH ?_ _ | refine qI ?_ | refine qG ?_ _)); refine jO ?_ NB119_120.out _; (with_reducible repeat (first | refine qH ?_ _ | refine qI ?_ | refine qG ?_ _)); exact BK119.out) hb); have n3_ := qV.mk (qL (g := gb120) (o := .cells #[.int .i64 a0_0, .slice none 0 0] 85 (0, 0)) (by (with_reducible repeat (first | refine qH ?_ _ | refine qI ?_ | refine qG ?_ _)); refine jQ (cs := #[.int .i64 0, .slice none 0 0]) ?_ 0 _ rfl; (with_reducible repeat (first | refine qH ?_ _ | refine qI ?_ | refine qG ?_ _)); exact BK120.out) hb); have n4_ := qV.mk (qE (by repeat (first | (with_reducible first | exact HB.out | apply qA | apply qB | apply qC | refine qD ?_ GE118.out | refine qD ?_ GE119.out | refine qD ?_ GE120.out) | exact HB.out)) hb); clear BK118 BK119 BK120 HB; have HO123 := n0_; have BK118 := n1_; have BK119 := n2_; have BK120 := n3_; have HB := n4_; clear n0_ n1_ n2_ n3_ n4_; (try clear hb); (try clear hb2); (try clear hk); (try clear hi); (try clear ho0); obtain ⟨Ao12, co12, eo12⟩ := Kd.zB HO123.out; subst eo12; have hcz13_0 : w11.cell? ⟨gb120, 0, none⟩ = some (.int .i64 a0_0) := (qJ BK120.out 0).trans rfl; have hcz13_1 : w11.cell? ⟨gb120, 1, none⟩ = some (.slice none 0 0) := (qJ BK120.out 1).trans rfl; have hfz13_0 := qK BK120.out 0; have hfz13_1 := qK BK120.out 1; have hcz14_0 : w11.cell? ⟨gb119, 0, none⟩ = some (.int .i64 0) := (qJ BK119.out 0).trans rfl; have hcz14_1 : w11.cell? ⟨gb119, 1, none⟩ = some (.slice none 0 0) := (qJ BK119.out 1).trans rfl; have hfz14_0 := qK BK119.out 0; have hfz14_1 := qK BK119.out 1))
 refine bodyPost_ret (results_cell_row rfl _ _ gb119 85 #[.int .i64 a0_0, .slice Ao12 t121.length co12] (0, 0) _ rfl (by (with_reducible repeat (first | refine qH ?_ _ | refine qI ?_ | refine qG ?_ _)); refine jQ (cs := #[.int .i64 a0_0, .slice none 0 0]) ?_ 1 _ rfl; (with_reducible repeat (first | refine qH ?_ _ | refine qI ?_ | refine qG ?_ _)); refine jQ (cs := #[.int .i64 0, .slice none 0 0]) ?_ 0 _ rfl; (with_reducible repeat (first | refine qH ?_ _ | refine qI ?_ | refine qG ?_ _)); refine jO ?_ NB119_120.out _; (with_reducible repeat (first | refine qH ?_ _ | refine qI ?_ | refine qG ?_ _)); exact BK119.out) Tryd.underlying85 rfl (by kernel_rfl)) rfl ?_
 exact ⟨_, by first | rfl | (simp [zS, zR] <;> rfl) | (simp [*, zS, zR] <;> rfl), by (with_reducible repeat (first | apply Kd.qM | apply Kd.qN | apply Kd.qO)); exact Kd.zG (Kd.R_far (p := ⟨gb119, 1, none⟩) (Kd.R_far (p := ⟨gb119, 0, none⟩) (Kd.R_far (p := ⟨gb120, 1, none⟩) (Kd.R_types (Kd.R_types HO123.out BK120.out (by decide)) BK119.out (by decide)) (fun _ hk => hk.1.2) (.slice Ao12 t121.length co12)) (fun _ hk => hk.2) (.int .i64 a0_0)) (fun _ hk => hk.2) (.slice Ao12 t121.length co12)) (fun _ hk => trivial), by repeat (first | (with_reducible first | exact HB.out | apply qA | apply qB | apply qC | refine qD ?_ GE118.out | refine qD ?_ GE119.out | refine qD ?_ GE120.out) | exact HB.out)⟩

def jN.l0 : Nat → List (S166) → List (S85) → Int → Option ((List (S85)))
 | 0, _, _, _ => none
 | k + 1, x0, x3, x4 => if x4 < (x0.length : Int) then (if 0 ≤ x4 then ((laws_toStore.f k ((rd_T166 x0 x4).f0) ((rd_T166 x0 x4).f1)).bind fun bt128 => (if x4 < (x3.length : Int) then (jN.l0 k x0 (x3.set (x4 : Int).toNat (⟨bt128.1, bt128.2⟩ : S85)) (wrap64 (x4 + 1))) else (none))) else (none)) else (some x3)
def jN.f (k : Nat) (l0 : List (S166)) : Option ((List (S85))) := if 0 ≤ (l0.length : Int) then (if ((l0.length : Int) : Int).toNat ≤ 8796093022208 then (jN.l0 k l0 (List.replicate ((l0.length : Int) : Int).toNat z85) 0) else (none)) else (none)
theorem jN.mono_l : ∀ k, (∀ y0 y1 y2, LeO (jN.l0 k y0 y1 y2) (jN.l0 (k + 1) y0 y1 y2))
 | 0 => fun _ _ _ r h => by simp [jN.l0] at h
 | k + 1 => by
  have ih0 := jN.mono_l k
  ·intro y0 y1 y2
   unfold jN.l0
   repeat' first
   | (with_reducible exact ih0 _ _ _)
   | (with_reducible exact laws_toStore.mono _ _ _)
   | (with_reducible exact LeO.refl _)
   | (with_reducible exact LeO.none _)
   | (with_reducible refine LeO.ite ?_ ?_)
   | (with_reducible refine LeO.bind ?_ (fun _ => ?_))
   | exact ih0 _ _ _
   | exact laws_toStore.mono _ _ _
   | exact LeO.none _
   | refine LeO.ite ?_ ?_
   | refine LeO.bind ?_ (fun _ => ?_)
theorem jN.mono : ∀ a0 k, LeO (jN.f k a0) (jN.f (k + 1) a0) := by
 intro a0 k
 have ih0 := jN.mono_l k
 unfold jN.f
 repeat' first
   | (with_reducible exact ih0 _ _ _)
   | (with_reducible exact laws_toStore.mono _ _ _)
   | (with_reducible exact LeO.refl _)
   | (with_reducible exact LeO.none _)
   | (with_reducible refine LeO.ite ?_ ?_)
   | (with_reducible refine LeO.bind ?_ (fun _ => ?_))
   | exact ih0 _ _ _
   | exact laws_toStore.mono _ _ _
   | exact LeO.none _
   | refine LeO.ite ?_ ?_
   | refine LeO.bind ?_ (fun _ => ?_)
set_option maxHeartbeats 8000000 in
set_option maxRecDepth 100000 in
theorem jN.calls (k : Nat) (A0 : Option Addr) (c0 : Nat) (l0 : List (S166)) (r : List (S85)) (w : World) (hr0 : Kd.C k166 w A0 l0.length l0) (hc0 : l0.length ≤ c0) (h : jN.f k l0 = some r) :
  Calls Tryd.prog 78 #[.slice A0 l0.length c0] w fun e w' => ∃ v0_ : Value, e = .returned (v0_) ∧ Kd.S k85 85 w' w.heap.size (fun _ => True) v0_ r ∧ Below w.heap.size w w' := by
 have hu166 := Tryd.underlying166
 have hu85 := Tryd.underlying85
 have HR0 := qV.mk hr0
 have HC0 := qV.mk hc0
 clear hr0 hc0
 have HB := qV.mk (Below.refl w.heap.size w)
 have H : (if 0 ≤ (l0.length : Int) then (if ((l0.length : Int) : Int).toNat ≤ 8796093022208 then (jN.l0 k l0 (List.replicate ((l0.length : Int) : Int).toNat z85) 0) else (none)) else (none)) = some r := h
 clear h
 by_cases c2 : 0 ≤ (l0.length : Int)
 ·rw [if_pos c2] at H
  have c2b0 := eq_true c2
  have c2b1 : decide (0 ≤ (l0.length : Int)) = true := decide_eq_true c2
  clear c2
  by_cases c3 : ((l0.length : Int) : Int).toNat ≤ 8796093022208
  ·rw [if_pos c3] at H
   have c3b0 := eq_true c3
   have c3b1 : decide (((l0.length : Int) : Int).toNat ≤ 8796093022208) = true := decide_eq_true c3
   clear c3
   obtain ⟨y124, hy124⟩ : ∃ y_ : List (S85), y_ = (List.replicate ((l0.length : Int) : Int).toNat z85) := ⟨_, rfl⟩
   replace H : (jN.l0 k l0 y124 0) = some r := by first | (rw [hy124]; with_reducible exact H) | (have H2_ := (Option.bind_some _ _).symm.trans H; rw [hy124]; with_reducible exact H2_) | (have H2_ := (Option.bind_some _ _).symm.trans H; with_reducible exact H2_) | with_reducible exact H | (rw [hy124]; exact H) | exact H
   have Ny124 := qV.mk hy124
   clear hy124
   have H' := qV.mk H
   clear H
   go_enter Tryd.func78, Tryd.ntmps78
   go_wp2_with (first | ((with_reducible refine gate_dst (N := 7) rfl ?_); refine Kd.S_make k85 _ 85 rfl (N := 7) rfl 37 _ _ rfl (l0.length : Int) rfl rfl Tryd.underlying37 (.agg #[(.int .i64 0), (.slice none 0 0)]) 32 info85 rfl (by decide) (by omega) z85 (ok := fun _ => True) (okp := fun _ => True) (k85_mkM _ _ _ z85 (Kd.R_nil _ _ _ _ _)) (fun _ hk => hk) trivial (of_decide_eq_true (by assumption)) (Nat.le_trans (Nat.mul_le_mul_right _ (of_decide_eq_true (by assumption) : (l0.length : Int).toNat ≤ 8796093022208)) (by omega)) (Below.refl _ _) (Nat.le_refl _) ?_; intro v125 w4 ho5 hb hg_ hnew_; clear hg_ hnew_; (first | rw [← Ny124.out] at ho5 | (simp only [Int.reduceToNat] at ho5; rw [← Ny124.out] at ho5)); have n0_ := qV.mk (Kd.S_lower ho5 (qF (by repeat (first | (with_reducible first | exact HB.out | apply qA | apply qB | apply qC) | exact HB.out)))); have n1_ := qV.mk (qE (by repeat (first | (with_reducible first | exact HB.out | apply qA | apply qB | apply qC) | exact HB.out)) hb); clear HB; have HO126 := n0_; have HB := n1_; clear n0_ n1_; clear hb ho5))
   go_loopg [4] k (fun kq v4 w' => ∃ (x3_1 : List (S85)) (x4_1 : Int), v4 = .int .i64 x4_1 ∧ qV (jN.l0 kq l0 x3_1 x4_1 = some r) ∧ qV (kq ≤ k) ∧ qV (Kd.S k85 85 w' w.heap.size (fun _ => True) v125 x3_1) ∧ qV (Below w.heap.size w w'))
   case atStart => exact ⟨(y124), (0), (by first | rfl | (simp; done) | (simp [*]; done)), H', ⟨Nat.le_refl _⟩, ⟨by (with_reducible repeat (first | apply Kd.qP | apply Kd.qQ | apply Kd.qR)); exact HO126.out⟩, ⟨by repeat (first | (with_reducible first | exact HB.out | apply qA | apply qB | apply qC) | exact HB.out)⟩⟩
   case round =>
    clear H'
    try clear c2
    try clear c2b0
    try clear c2b1
    try clear p2
    try clear c3
    try clear c3b0
    try clear c3b1
    obtain ⟨x3_1, x4_1, rfl, HA, HK1, HO_3, HB⟩ := hrel
    cases gk with
    | zero => exact absurd HA.out (by simp [jN.l0])
    | succ k1 =>
     have H := HA.out
     clear HA
     simp only [jN.l0] at H
     by_cases c6 : x4_1 < (l0.length : Int)
     ·rw [if_pos c6] at H
      have c6b0 : decide (x4_1 < (l0.length : Int)) = true := decide_eq_true c6
      clear c6
      by_cases c7 : 0 ≤ x4_1
      ·rw [if_pos c7] at H
       have c7b0 : decide (0 ≤ x4_1) = true := decide_eq_true c7
       clear c7
       replace H := Option.bind_eq_some_iff.mp H
       obtain ⟨⟨t128, t129⟩, A80, H⟩ := H
       try dsimp only at H
       have A8 := qV.mk A80
       clear A80
       by_cases c9 : x4_1 < (x3_1.length : Int)
       ·rw [if_pos c9] at H
        have c9b0 : decide (x4_1 < (x3_1.length : Int)) = true := decide_eq_true c9
        clear c9
        obtain ⟨y132, hy132⟩ : ∃ y_ : List (S85), y_ = (x3_1.set (x4_1 : Int).toNat (⟨t128, t129⟩ : S85)) := ⟨_, rfl⟩
        replace H : (jN.l0 k1 l0 y132 (wrap64 (x4_1 + 1))) = some r := by first | (rw [hy132]; with_reducible exact H) | (have H2_ := (Option.bind_some _ _).symm.trans H; rw [hy132]; with_reducible exact H2_) | (have H2_ := (Option.bind_some _ _).symm.trans H; with_reducible exact H2_) | with_reducible exact H | (rw [hy132]; exact H) | exact H
        have Ny132 := qV.mk hy132
        clear hy132
        have H' := qV.mk H
        clear H
        have p127 : 0 ≤ (x4_1 : Int) := of_decide_eq_true (by assumption)
        have q127 : x4_1 < (l0.length : Int) := of_decide_eq_true (by assumption)
        obtain ⟨ad127, A127_1, c127_1, e127, hx127_0, hx127_1, hl127_1, hi127_1⟩ := at_T166 HR0.out x4_1 p127 q127
        cases e127
        replace hx127_0 := (HB.out.cell (World.block_lt_of_cell? w _ hx127_0)).trans hx127_0
        replace hx127_1 := (HB.out.cell (World.block_lt_of_cell? w _ hx127_1)).trans hx127_1
        have HR127_1 := qV.mk hi127_1
        have HC127_1 := qV.mk hl127_1
        clear hi127_1 hl127_1
        replace p127 := eq_true p127
        replace q127 := eq_true q127
        go_wp2_with (first | ((with_reducible refine gate_callee (f := 149) rfl ?_); refine qW (some 20) rfl rfl Tryd.func149 (by kernel_rfl) rfl #[.agg #[.int .i64 ((rd_T166 l0 x4_1).f0), .slice A127_1 ((rd_T166 l0 x4_1).f1).length c127_1]] rfl (by (try simp only [List.map_toArray, List.map_cons, List.map_nil]); first | done | rfl) ?_; (with_reducible refine (laws_toStore.calls k1 ((rd_T166 l0 x4_1).f0) _ _ ((rd_T166 l0 x4_1).f1) t128 t129 _ ?side1 ?side2 A8.out).mono ?_); (case side1 => repeat (first | exact (Kd.zA HR127_1.out HB.out) | (with_reducible refine Kd.qS ?_ _) | (with_reducible refine Kd.qT ?_ _) | (with_reducible refine Kd.qU ?_))); (case side2 => exact HC127_1.out); rintro e w11 ⟨v130, rfl, ho0, hb⟩; refine ⟨_, rfl, ?_⟩; have n0_ := qV.mk (Kd.S_elder' (by (with_reducible repeat (first | apply Kd.qP | apply Kd.qQ | apply Kd.qR)); exact HO_3.out) (Kd.R_base ho0) hb); have n1_ := qV.mk (Kd.R_lower ho0 (qF (by repeat (first | (with_reducible first | exact HB.out | apply qA | apply qB | apply qC) | exact HB.out)))); have n2_ := qV.mk (qE (by repeat (first | (with_reducible first | exact HB.out | apply qA | apply qB | apply qC) | exact HB.out)) hb); clear HO_3 HB; have HO_3 := n0_; have HO131 := n1_; have HB := n2_; clear n0_ n1_ n2_; have hst_v130 : ∀ (w_ : World) (a_ : Addr) (m_ : Mode), (store a_ v130 m_).run Tryd.prog w_ = stored Tryd.prog w_ a_ v130 m_ := (by obtain ⟨A_, c_, e_⟩ := Kd.zB HO131.out; intro w_ a_ m_; rw [e_]; exact run_store Tryd.prog w_ a_ _ m_ rfl); (try clear hb); (try clear hb2); (try clear hk); (try clear hi); (try clear ho0); have p10 : 0 ≤ (x4_1 : Int) := of_decide_eq_true (by assumption); have q10 : (x4_1 : Int) < ((x3_1.length : Int) : Int) := of_decide_eq_true (by assumption); obtain ⟨go10, co10, eo10, gb10, gl10, cl10, HG10⟩ := Kd.S_form HO_3.out (by omega); (first | cases eo10 | (injection eo10 with ea_ en_ ec_; (first | subst ea_ | (injection ea_ with ea_; subst ea_)); subst ec_; clear en_)); have GB10 := qV.mk gb10; have GG10 := qV.mk HG10; clear gb10 gl10 HG10; obtain ⟨_, ce10, hcl10, hM10, hcc10, hfr10, _, _⟩ := Kd.S_elem HO_3.out z85 (x4_1 : Int) p10 q10; obtain ⟨ve10_1, rfl, ge10_1⟩ := k85_openM hM10; have hx10_0 : w11.cell? ⟨go10, (x4_1 : Int).toNat * 2, none⟩ = some (.int .i64 ((zT x3_1 x4_1).f0)) := hcc10 0 _ rfl; have hx10_1 : w11.cell? ⟨go10, (x4_1 : Int).toNat * 2 + 1, none⟩ = some (ve10_1) := hcc10 1 _ rfl; have hf10_0 : w11.frozen? ⟨go10, (x4_1 : Int).toNat * 2, none⟩ = false := hfr10 0; have hf10_1 : w11.frozen? ⟨go10, (x4_1 : Int).toNat * 2 + 1, none⟩ = false := hfr10 1; clear hcl10 hcc10 hfr10 hM10; replace p10 := eq_true p10; replace q10 := eq_true q10; have n_ := qV.mk (Kd.zH (ok' := (fun k_ => some k_ ≠ (v130 : Value).ownBlock)) HO_3.out (fun k_ hk => hk.2)); clear HO_3; have HO_3 := n_; clear n_; have HX12 := qV.mk (show Kd.S k85 85 w11 w.heap.size (fun k_ => ((fun _ => True)) k_ ∧ ¬ ((fun k_ => some k_ = (v130 : Value).ownBlock)) k_) (.slice (some ⟨go10, 0, none⟩) x3_1.length co10) x3_1 from (by (with_reducible repeat (first | apply Kd.qP | apply Kd.qQ | apply Kd.qR)); exact Kd.zH HO_3.out (fun k_ hk => ⟨trivial, fun e_ => hk e_⟩))); obtain ⟨oki12, ce12, hcl12, hM12, hcc12, hfr12, hoki12, hH12⟩ := Kd.S_elem HX12.out z85 (x4_1 : Int) (of_decide_eq_true (by assumption)) (by have h_ : (x4_1 : Int) < ((x3_1.length : Int) : Int) := of_decide_eq_true (by assumption); first | exact h_ | (have e_ := (Kd.zD HO_3.out).1; omega) | simpa using h_); obtain ⟨ve12_1, rfl, ge12_1⟩ := k85_openM hM12; have HP12 := Kd.S_seg hH12 (of_decide_eq_true (by assumption)) (by have h_ : (x4_1 : Int) < ((x3_1.length : Int) : Int) := of_decide_eq_true (by assumption); first | exact h_ | (have e_ := (Kd.zD HO_3.out).1; omega) | simpa using h_) (seg := [.int .i64 t128, v130]) (j := 0) (show 2 ≤ 2 from by decide) (x' := (⟨t128, t129⟩ : S85)) (k85_mkM _ _ _ (⟨t128, t129⟩ : S85) (Kd.zG (Kd.zK rfl (Kd.zG (ok' := fun k_ => ((fun _ => True)) k_ ∧ k_ ≠ go10) (Kd.zL (HO131.out) (Kd.S_typed HO_3.out) (by decide)) (fun k_ hk => ⟨trivial, fun e_ => (hk.2) (by rw [e_]; rfl)⟩))) (fun _ h_ => Or.inr (h_)))) (fun _ hk => hk) (fun k_ hk_ => ((Kd.zG (ok' := fun k_ => ((fun _ => True)) k_ ∧ k_ ≠ go10) (Kd.zL (HO131.out) (Kd.S_typed HO_3.out) (by decide)) (fun k_ hk => ⟨trivial, fun e_ => (hk.2) (by rw [e_]; rfl)⟩))).1 k_ hk_.symm); have hx12_0 := hcc12 0 _ rfl; (try simp only [show (k85).sz = 2 from rfl, Nat.mul_one, Nat.add_zero] at hx12_0); have hf12_0 := hfr12 0; (try simp only [show (k85).sz = 2 from rfl, Nat.mul_one, Nat.add_zero] at hf12_0); have hx12_1 := hcc12 1 _ rfl; (try simp only [show (k85).sz = 2 from rfl, Nat.mul_one, Nat.add_zero] at hx12_1); have hf12_1 := hfr12 1; (try simp only [show (k85).sz = 2 from rfl, Nat.mul_one, Nat.add_zero] at hf12_1); clear hcl12 hcc12 hfr12 hM12 hoki12 hH12) | ((with_reducible refine gate_store (t := 85) (p := 21) rfl ?_); refine zJ (t := 85) (p := 21) (v := ?vo_w13) (w1 := ((w11.setCell ⟨go10, (x4_1 : Int).toNat * 2, none⟩ (.int .i64 t128)).setCell ⟨go10, (x4_1 : Int).toNat * 2 + 1, none⟩ (v130))) ?hg ?ho ?hn ?hr ?_; (case ho => rfl); (case hg => rfl); (case hn => rfl); (case hr => first | (go_simp; done) | (go_simp; rfl)); intro w13 hw; have hg : w11.grownBy w13 (some go10) := (by rw [hw]; exact HP12.2); have hp_ : Kd.S k85 85 w13 w.heap.size (fun _ => True) (.slice (some ⟨go10, 0, none⟩) x3_1.length co10) y132 := (by rw [hw, Ny132.out]; exact HP12.1); clear HP12; have n0_ := qV.mk (hp_); have n1_ := qV.mk ((by rw [hw]; exact qD (qD (HB.out) GB10.out) GB10.out : Below w.heap.size w w13)); clear HO_3 HB HO131; have HO_3 := n0_; have HB := n1_; clear n0_ n1_; clear hg hw hp_))
        go_roundg k1
        case measure => have := HK1.out; omega
        case rel => exact ⟨(y132), (wrap64 (x4_1 + 1)), (by first | rfl | (simp; done) | (simp [*]; done)), H', ⟨by have := HK1.out; omega⟩, ⟨by (with_reducible repeat (first | apply Kd.qP | apply Kd.qQ | apply Kd.qR)); exact HO_3.out⟩, ⟨by repeat (first | (with_reducible first | exact HB.out | apply qA | apply qB | apply qC) | exact HB.out)⟩⟩
       ·rw [if_neg c9] at H
        exact absurd H (by simp)
      ·rw [if_neg c7] at H
       exact absurd H (by simp)
     ·rw [if_neg c6] at H
      have c6b0 : decide (x4_1 < (l0.length : Int)) = false := decide_eq_false c6
      clear c6
      obtain rfl := Option.some.inj H
      go_wp2
      go_ret
      exact ⟨_, by first | rfl | (simp [zS, zR] <;> rfl) | (simp [*, zS, zR] <;> rfl), by (with_reducible repeat (first | apply Kd.qP | apply Kd.qQ | apply Kd.qR)); exact HO_3.out, by repeat (first | (with_reducible first | exact HB.out | apply qA | apply qB | apply qC) | exact HB.out)⟩
  ·rw [if_neg c3] at H
   exact absurd H (by simp)
 ·rw [if_neg c2] at H
  exact absurd H (by simp)

def laws_toHeap.f (k : Nat) (l0_0 : List (S166)) : Option ((List (S85))) := (jN.f k l0_0).bind fun t136 => (some t136)
theorem laws_toHeap.mono : ∀ a0 k, LeO (laws_toHeap.f k a0) (laws_toHeap.f (k + 1) a0) := by
 intro a0 k
 unfold laws_toHeap.f
 repeat' first
   | (with_reducible exact jN.mono _ _)
   | (with_reducible exact LeO.refl _)
   | (with_reducible exact LeO.none _)
   | (with_reducible refine LeO.ite ?_ ?_)
   | (with_reducible refine LeO.bind ?_ (fun _ => ?_))
   | exact jN.mono _ _
   | exact LeO.none _
   | refine LeO.ite ?_ ?_
   | refine LeO.bind ?_ (fun _ => ?_)
set_option maxHeartbeats 8000000 in
set_option maxRecDepth 100000 in
theorem laws_toHeap.calls (k : Nat) (A0_0 : Option Addr) (c0_0 : Nat) (l0_0 : List (S166)) (r : List (S85)) (w : World) (hr0_0 : Kd.C k166 w A0_0 l0_0.length l0_0) (hc0_0 : l0_0.length ≤ c0_0) (h : laws_toHeap.f k l0_0 = some r) :
  Calls Tryd.prog 24 #[.agg #[.slice A0_0 l0_0.length c0_0]] w fun e w' => ∃ v0_ : Value, e = .returned (.agg #[v0_]) ∧ Kd.S k85 85 w' w.heap.size (fun _ => True) v0_ r ∧ Below w.heap.size w w' := by
 have hu34 := Tryd.underlying34
 have hu39 := Tryd.underlying39
 have HR0_0 := qV.mk hr0_0
 have HC0_0 := qV.mk hc0_0
 clear hr0_0 hc0_0
 have HB := qV.mk (Below.refl w.heap.size w)
 have H : ((jN.f k l0_0).bind fun t136 => (some t136)) = some r := h
 clear h
 replace H := Option.bind_eq_some_iff.mp H
 obtain ⟨t136, A20, H⟩ := H
 try dsimp only at H
 have A2 := qV.mk A20
 clear A20
 obtain rfl := Option.some.inj H
 go_enter Tryd.func24, Tryd.ntmps24
 go_wp2_with (first | ((with_reducible refine gate_dst (N := 1) rfl ?_); refine qX ?hg (N := 1) ?hd (cs := #[.slice A0_0 l0_0.length c0_0]) (t := 34) ?hr ?_; (case hd => rfl); (case hg => rfl); (case hr => first | (go_simp; done) | (go_simp; rfl)); intro gb133 hg w3 hbox hb; have n0_ := qV.mk (qE (by repeat (first | (with_reducible first | exact HB.out | apply qA | apply qB | apply qC) | exact HB.out)) hb); have n1_ := qV.mk (hbox); have n2_ := qV.mk ((by rw [hg]; exact (qF (by repeat (first | (with_reducible first | exact HB.out | apply qA | apply qB | apply qC) | exact HB.out))) : w.heap.size ≤ gb133)); have n3_ := qV.mk ((by rw [hg]; exact (qF (by repeat (first | (with_reducible first | exact HB.out | apply qA | apply qB | apply qC) | exact HB.out))) : w.heap.size ≤ gb133)); clear HB; have HB := n0_; have BK133 := n1_; have GW133 := n2_; have GE133 := n3_; clear n0_ n1_ n2_ n3_; clear hb hbox hg) | ((with_reducible refine gate_dst (N := 2) rfl ?_); refine qX ?hg (N := 2) ?hd (cs := #[.slice none 0 0]) (t := 39) ?hr ?_; (case hd => rfl); (case hg => rfl); (case hr => first | (go_simp; done) | (go_simp; rfl)); intro gb134 hg w4 hbox hb; have n0_ := qV.mk (qL (g := gb133) (o := .cells #[.slice A0_0 l0_0.length c0_0] 34 (0, 0)) (by (with_reducible repeat (first | refine qH ?_ _ | refine qI ?_ | refine qG ?_ _)); exact BK133.out) hb); have n1_ := qV.mk (qE (by repeat (first | (with_reducible first | exact HB.out | apply qA | apply qB | apply qC | refine qD ?_ GE133.out) | exact HB.out)) hb); have n2_ := qV.mk (hbox); have n3_ := qV.mk ((by rw [hg]; exact (qF (by repeat (first | (with_reducible first | exact HB.out | apply qA | apply qB | apply qC | refine qD ?_ GE133.out) | exact HB.out))) : w.heap.size ≤ gb134)); have n4_ := qV.mk ((by rw [hg]; exact (qF (by repeat (first | (with_reducible first | exact HB.out | apply qA | apply qB | apply qC | refine qD ?_ GE133.out) | exact HB.out))) : w.heap.size ≤ gb134)); have n5_ := qV.mk ((by rw [hg]; exact Nat.ne_of_lt (jR (g := gb133) (o := .cells #[.slice A0_0 l0_0.length c0_0] 34 (0, 0)) (by (with_reducible repeat (first | refine qH ?_ _ | refine qI ?_ | refine qG ?_ _)); exact BK133.out)) : gb133 ≠ gb134)); have n6_ := qV.mk ((by rw [hg]; exact Nat.ne_of_gt (jR (g := gb133) (o := .cells #[.slice A0_0 l0_0.length c0_0] 34 (0, 0)) (by (with_reducible repeat (first | refine qH ?_ _ | refine qI ?_ | refine qG ?_ _)); exact BK133.out)) : gb134 ≠ gb133)); clear BK133 HB; have BK133 := n0_; have HB := n1_; have BK134 := n2_; have GW134 := n3_; have GE134 := n4_; have NB133_134 := n5_; have NB134_133 := n6_; clear n0_ n1_ n2_ n3_ n4_ n5_ n6_; clear hb hbox hg) | ((with_reducible refine gate_dst (N := 3) rfl ?_); refine qX ?hg (N := 3) ?hd (cs := #[.slice none 0 0]) (t := 39) ?hr ?_; (case hd => rfl); (case hg => rfl); (case hr => first | (go_simp; done) | (go_simp; rfl)); intro gb135 hg w5 hbox hb; have n0_ := qV.mk (qL (g := gb133) (o := .cells #[.slice A0_0 l0_0.length c0_0] 34 (0, 0)) (by (with_reducible repeat (first | refine qH ?_ _ | refine qI ?_ | refine qG ?_ _)); exact BK133.out) hb); have n1_ := qV.mk (qL (g := gb134) (o := .cells #[.slice none 0 0] 39 (0, 0)) (by (with_reducible repeat (first | refine qH ?_ _ | refine qI ?_ | refine qG ?_ _)); exact BK134.out) hb); have n2_ := qV.mk (qE (by repeat (first | (with_reducible first | exact HB.out | apply qA | apply qB | apply qC | refine qD ?_ GE133.out | refine qD ?_ GE134.out) | exact HB.out)) hb); have n3_ := qV.mk (hbox); have n4_ := qV.mk ((by rw [hg]; exact (qF (by repeat (first | (with_reducible first | exact HB.out | apply qA | apply qB | apply qC | refine qD ?_ GE133.out | refine qD ?_ GE134.out) | exact HB.out))) : w.heap.size ≤ gb135)); have n5_ := qV.mk ((by rw [hg]; exact (qF (by repeat (first | (with_reducible first | exact HB.out | apply qA | apply qB | apply qC | refine qD ?_ GE133.out | refine qD ?_ GE134.out) | exact HB.out))) : w.heap.size ≤ gb135)); have n6_ := qV.mk ((by rw [hg]; exact Nat.ne_of_lt (jR (g := gb133) (o := .cells #[.slice A0_0 l0_0.length c0_0] 34 (0, 0)) (by (with_reducible repeat (first | refine qH ?_ _ | refine qI ?_ | refine qG ?_ _)); exact BK133.out)) : gb133 ≠ gb135)); have n7_ := qV.mk ((by rw [hg]; exact Nat.ne_of_gt (jR (g := gb133) (o := .cells #[.slice A0_0 l0_0.length c0_0] 34 (0, 0)) (by (with_reducible repeat (first | refine qH ?_ _ | refine qI ?_ | refine qG ?_ _)); exact BK133.out)) : gb135 ≠ gb133)); have n8_ := qV.mk ((by rw [hg]; exact Nat.ne_of_lt (jR (g := gb134) (o := .cells #[.slice none 0 0] 39 (0, 0)) (by (with_reducible repeat (first | refine qH ?_ _ | refine qI ?_ | refine qG ?_ _)); exact BK134.out)) : gb134 ≠ gb135)); have n9_ := qV.mk ((by rw [hg]; exact Nat.ne_of_gt (jR (g := gb134) (o := .cells #[.slice none 0 0] 39 (0, 0)) (by (with_reducible repeat (first | refine qH ?_ _ | refine qI ?_ | refine qG ?_ _)); exact BK134.out)) : gb135 ≠ gb134)); clear BK133 BK134 HB; have BK133 := n0_; have BK134 := n1_; have HB := n2_; have BK135 := n3_; have GW135 := n4_; have GE135 := n5_; have NB133_135 := n6_; have NB135_133 := n7_; have NB134_135 := n8_; have NB135_134 := n9_; clear n0_ n1_ n2_ n3_ n4_ n5_ n6_ n7_ n8_ n9_ hb hbox hg; have hnb6 := NB133_134.out; have hnc6 := NB134_133.out; have hnb7 := NB133_135.out; have hnc7 := NB135_133.out; have hcz8_0 : w5.cell? ⟨gb133, 0, none⟩ = some (.slice A0_0 l0_0.length c0_0) := (qJ BK133.out 0).trans rfl; have hfz8_0 := qK BK133.out 0) | ((with_reducible refine gate_callee (f := 78) rfl ?_); refine qW (some 6) rfl rfl Tryd.func78 (by kernel_rfl) rfl #[.slice A0_0 l0_0.length c0_0] rfl (by (try simp only [List.map_toArray, List.map_cons, List.map_nil]); first | done | rfl) ?_; (with_reducible refine (jN.calls k _ _ l0_0 t136 _ ?side1 ?side2 A2.out).mono ?_); (case side1 => repeat (first | exact (Kd.zA HR0_0.out HB.out) | (with_reducible refine Kd.qS ?_ _) | (with_reducible refine Kd.qT ?_ _) | (with_reducible refine Kd.qU ?_))); (case side2 => exact HC0_0.out); rintro e w9 ⟨v137, rfl, ho0, hb⟩; refine ⟨_, rfl, ?_⟩; have n0_ := qV.mk (Kd.S_lower ho0 (qF (by repeat (first | (with_reducible first | exact HB.out | apply qA | apply qB | apply qC | refine qD ?_ GE133.out | refine qD ?_ GE134.out | refine qD ?_ GE135.out) | exact HB.out)))); have n1_ := qV.mk (qL (g := gb133) (o := .cells #[.slice A0_0 l0_0.length c0_0] 34 (0, 0)) (by (with_reducible repeat (first | refine qH ?_ _ | refine qI ?_ | refine qG ?_ _)); exact BK133.out) hb); have n2_ := qV.mk (qL (g := gb134) (o := .cells #[.slice none 0 0] 39 (0, 0)) (by (with_reducible repeat (first | refine qH ?_ _ | refine qI ?_ | refine qG ?_ _)); exact BK134.out) hb); have n3_ := qV.mk (qL (g := gb135) (o := .cells #[.slice none 0 0] 39 (0, 0)) (by (with_reducible repeat (first | refine qH ?_ _ | refine qI ?_ | refine qG ?_ _)); exact BK135.out) hb); have n4_ := qV.mk (qE (by repeat (first | (with_reducible first | exact HB.out | apply qA | apply qB | apply qC | refine qD ?_ GE133.out | refine qD ?_ GE134.out | refine qD ?_ GE135.out) | exact HB.out)) hb); clear BK133 BK134 BK135 HB; have HO138 := n0_; have BK133 := n1_; have BK134 := n2_; have BK135 := n3_; have HB := n4_; clear n0_ n1_ n2_ n3_ n4_; (try clear hb); (try clear hb2); (try clear hk); (try clear hi); (try clear ho0); obtain ⟨Ao10, co10, eo10⟩ := Kd.S_slice HO138.out; subst eo10; have hnb11 := NB135_134.out; have hnc11 := NB134_135.out; have hcz12_0 : w9.cell? ⟨gb135, 0, none⟩ = some (.slice none 0 0) := (qJ BK135.out 0).trans rfl; have hfz12_0 := qK BK135.out 0; have hcz13_0 : w9.cell? ⟨gb134, 0, none⟩ = some (.slice none 0 0) := (qJ BK134.out 0).trans rfl; have hfz13_0 := qK BK134.out 0))
 refine bodyPost_ret (results_cell_row rfl _ _ gb134 39 #[.slice Ao10 t136.length co10] (0, 0) _ rfl (by (with_reducible repeat (first | refine qH ?_ _ | refine qI ?_ | refine qG ?_ _)); refine jQ (cs := #[.slice none 0 0]) ?_ 0 _ rfl; (with_reducible repeat (first | refine qH ?_ _ | refine qI ?_ | refine qG ?_ _)); refine jO ?_ NB134_135.out _; (with_reducible repeat (first | refine qH ?_ _ | refine qI ?_ | refine qG ?_ _)); exact BK134.out) Tryd.underlying39 rfl (by kernel_rfl)) rfl ?_
 exact ⟨_, by first | rfl | (simp [zS, zR] <;> rfl) | (simp [*, zS, zR] <;> rfl), by (with_reducible repeat (first | apply Kd.qP | apply Kd.qQ | apply Kd.qR)); exact Kd.zH (Kd.S_far (p := ⟨gb134, 0, none⟩) (Kd.S_far (p := ⟨gb135, 0, none⟩) (Kd.S_types (Kd.S_types HO138.out BK135.out (by decide)) BK134.out (by decide)) (fun _ hk => hk.1.2) (.slice Ao10 t136.length co10)) (fun _ hk => hk.2) (.slice Ao10 t136.length co10)) (fun _ hk => trivial), by repeat (first | (with_reducible first | exact HB.out | apply qA | apply qB | apply qC | refine qD ?_ GE133.out | refine qD ?_ GE134.out | refine qD ?_ GE135.out) | exact HB.out)⟩

def laws_sameFloat.f (a0 : Int) (a1 : Int) : Option (Bool) := if a0.toNat < 18446744073709551616 ∧ a1.toNat < 18446744073709551616 then some (Fl.sameF a0.toNat a1.toNat) else none
theorem laws_sameFloat.calls (a0 : Int) (a1 : Int) (r : Bool) (w : World) (h : laws_sameFloat.f a0 a1 = some r) :
  Calls Tryd.prog 153 #[.float .f64 (Int.toNat a0), .float .f64 (Int.toNat a1)] w fun e w' => e = .returned (.bool r) ∧ zI w w' := by
 unfold laws_sameFloat.f at h
 split at h
 ·rename_i hb
  obtain rfl := Option.some.inj h
  exact (Vc.same_float a0.toNat a1.toNat hb.1 hb.2 w).mono fun e w' ⟨he, hw⟩ => ⟨he, hw ▸ zI.refl _⟩
 ·cases h

def laws_eqCell.f (a0_0 : Int) (a0_1 : Int) (a0_2 : Int) (a1_0 : Int) (a1_1 : Int) (a1_2 : Int) : Option (Bool) := if a0_0 = a1_0 then ((laws_sameFloat.f a0_1 a1_1).bind fun t141 => (if t141 = true then ((laws_sameFloat.f a0_2 a1_2).bind fun t142 => (if t142 = true then (some true) else (some false))) else (some false))) else (some false)
set_option maxHeartbeats 8000000 in
set_option maxRecDepth 100000 in
theorem laws_eqCell.calls (a0_0 : Int) (a0_1 : Int) (a0_2 : Int) (a1_0 : Int) (a1_1 : Int) (a1_2 : Int) (r : Bool) (w : World) (h : laws_eqCell.f a0_0 a0_1 a0_2 a1_0 a1_1 a1_2 = some r) :
  Calls Tryd.prog 85 #[.agg #[.int .i64 a0_0, .float .f64 (Int.toNat a0_1), .float .f64 (Int.toNat a0_2)], .agg #[.int .i64 a1_0, .float .f64 (Int.toNat a1_1), .float .f64 (Int.toNat a1_2)]] w fun e w' => e = .returned (.bool r) ∧ Below w.heap.size w w' := by
 have hu27 := Tryd.underlying27
 have HB := qV.mk (Below.refl w.heap.size w)
 have H : (if a0_0 = a1_0 then ((laws_sameFloat.f a0_1 a1_1).bind fun t141 => (if t141 = true then ((laws_sameFloat.f a0_2 a1_2).bind fun t142 => (if t142 = true then (some true) else (some false))) else (some false))) else (some false)) = some r := h
 clear h
 by_cases c3 : a0_0 = a1_0
 ·rw [if_pos c3] at H
  have c3b0 : (a0_0 == a1_0) = true := beq_iff_eq.mpr c3
  have c3b1 : (a0_0 != a1_0) = false := bne_eq_false_iff_eq.mpr c3
  clear c3
  replace H := Option.bind_eq_some_iff.mp H
  obtain ⟨t141, A40, H⟩ := H
  try dsimp only at H
  have A4 := qV.mk A40
  clear A40
  by_cases c5 : t141 = true
  ·subst c5
   rw [if_pos rfl] at H
   replace H := Option.bind_eq_some_iff.mp H
   obtain ⟨t142, A60, H⟩ := H
   try dsimp only at H
   have A6 := qV.mk A60
   clear A60
   by_cases c7 : t142 = true
   ·subst c7
    rw [if_pos rfl] at H
    obtain rfl := Option.some.inj H
    go_enter Tryd.func85, Tryd.ntmps85
    go_wp2_with (first | ((with_reducible refine gate_dst (N := 2) rfl ?_); refine qX ?hg (N := 2) ?hd (cs := #[.int .i64 a0_0, .float .f64 (Int.toNat a0_1), .float .f64 (Int.toNat a0_2)]) (t := 27) ?hr ?_; (case hd => rfl); (case hg => rfl); (case hr => first | (go_simp; done) | (go_simp; rfl)); intro gb139 hg w8 hbox hb; have n0_ := qV.mk (qE (by repeat (first | (with_reducible first | exact HB.out | apply qA | apply qB | apply qC) | exact HB.out)) hb); have n1_ := qV.mk (hbox); have n2_ := qV.mk ((by rw [hg]; exact (qF (by repeat (first | (with_reducible first | exact HB.out | apply qA | apply qB | apply qC) | exact HB.out))) : w.heap.size ≤ gb139)); have n3_ := qV.mk ((by rw [hg]; exact (qF (by repeat (first | (with_reducible first | exact HB.out | apply qA | apply qB | apply qC) | exact HB.out))) : w.heap.size ≤ gb139)); clear HB; have HB := n0_; have BK139 := n1_; have GW139 := n2_; have GE139 := n3_; clear n0_ n1_ n2_ n3_; clear hb hbox hg) | ((with_reducible refine gate_dst (N := 3) rfl ?_); refine qX ?hg (N := 3) ?hd (cs := #[.int .i64 a1_0, .float .f64 (Int.toNat a1_1), .float .f64 (Int.toNat a1_2)]) (t := 27) ?hr ?_; (case hd => rfl); (case hg => rfl); (case hr => first | (go_simp; done) | (go_simp; rfl)); intro gb140 hg w9 hbox hb; have n0_ := qV.mk (qL (g := gb139) (o := .cells #[.int .i64 a0_0, .float .f64 (Int.toNat a0_1), .float .f64 (Int.toNat a0_2)] 27 (0, 0)) (by (with_reducible repeat (first | refine qH ?_ _ | refine qI ?_ | refine qG ?_ _)); exact BK139.out) hb); have n1_ := qV.mk (qE (by repeat (first | (with_reducible first | exact HB.out | apply qA | apply qB | apply qC | refine qD ?_ GE139.out) | exact HB.out)) hb); have n2_ := qV.mk (hbox); have n3_ := qV.mk ((by rw [hg]; exact (qF (by repeat (first | (with_reducible first | exact HB.out | apply qA | apply qB | apply qC | refine qD ?_ GE139.out) | exact HB.out))) : w.heap.size ≤ gb140)); have n4_ := qV.mk ((by rw [hg]; exact (qF (by repeat (first | (with_reducible first | exact HB.out | apply qA | apply qB | apply qC | refine qD ?_ GE139.out) | exact HB.out))) : w.heap.size ≤ gb140)); have n5_ := qV.mk ((by rw [hg]; exact Nat.ne_of_lt (jR (g := gb139) (o := .cells #[.int .i64 a0_0, .float .f64 (Int.toNat a0_1), .float .f64 (Int.toNat a0_2)] 27 (0, 0)) (by (with_reducible repeat (first | refine qH ?_ _ | refine qI ?_ | refine qG ?_ _)); exact BK139.out)) : gb139 ≠ gb140)); have n6_ := qV.mk ((by rw [hg]; exact Nat.ne_of_gt (jR (g := gb139) (o := .cells #[.int .i64 a0_0, .float .f64 (Int.toNat a0_1), .float .f64 (Int.toNat a0_2)] 27 (0, 0)) (by (with_reducible repeat (first | refine qH ?_ _ | refine qI ?_ | refine qG ?_ _)); exact BK139.out)) : gb140 ≠ gb139)); clear BK139 HB; have BK139 := n0_; have HB := n1_; have BK140 := n2_; have GW140 := n3_; have GE140 := n4_; have NB139_140 := n5_; have NB140_139 := n6_; clear n0_ n1_ n2_ n3_ n4_ n5_ n6_ hb hbox hg; have hnb10 := NB139_140.out; have hnc10 := NB140_139.out; have hcz11_0 : w9.cell? ⟨gb139, 0, none⟩ = some (.int .i64 a0_0) := (qJ BK139.out 0).trans rfl; have hcz11_1 : w9.cell? ⟨gb139, 1, none⟩ = some (.float .f64 (Int.toNat a0_1)) := (qJ BK139.out 1).trans rfl; have hcz11_2 : w9.cell? ⟨gb139, 2, none⟩ = some (.float .f64 (Int.toNat a0_2)) := (qJ BK139.out 2).trans rfl; have hfz11_0 := qK BK139.out 0; have hfz11_1 := qK BK139.out 1; have hfz11_2 := qK BK139.out 2; have hcz12_0 : w9.cell? ⟨gb140, 0, none⟩ = some (.int .i64 a1_0) := (qJ BK140.out 0).trans rfl; have hcz12_1 : w9.cell? ⟨gb140, 1, none⟩ = some (.float .f64 (Int.toNat a1_1)) := (qJ BK140.out 1).trans rfl; have hcz12_2 : w9.cell? ⟨gb140, 2, none⟩ = some (.float .f64 (Int.toNat a1_2)) := (qJ BK140.out 2).trans rfl; have hfz12_0 := qK BK140.out 0; have hfz12_1 := qK BK140.out 1; have hfz12_2 := qK BK140.out 2) | ((with_reducible refine gate_callee (f := 153) rfl ?_); refine qW (some 14) rfl rfl Tryd.func153 (by kernel_rfl) rfl #[.float .f64 (Int.toNat a0_1), .float .f64 (Int.toNat a1_1)] rfl (by (try simp only [List.map_toArray, List.map_cons, List.map_nil]); first | done | rfl) ?_; (with_reducible refine (laws_sameFloat.calls a0_1 a1_1 true _ A4.out).mono ?_); rintro e w' ⟨rfl, ⟨nd, rfl⟩⟩; refine ⟨_, rfl, ?_⟩) | ((with_reducible refine gate_callee (f := 153) rfl ?_); refine qW (some 20) rfl rfl Tryd.func153 (by kernel_rfl) rfl #[.float .f64 (Int.toNat a0_2), .float .f64 (Int.toNat a1_2)] rfl (by (try simp only [List.map_toArray, List.map_cons, List.map_nil]); first | done | rfl) ?_; (with_reducible refine (laws_sameFloat.calls a0_2 a1_2 true _ A6.out).mono ?_); rintro e w' ⟨rfl, ⟨nd, rfl⟩⟩; refine ⟨_, rfl, ?_⟩))
    go_ret
    exact ⟨by first | rfl | (simp [zS, zR] <;> rfl) | (simp [*, zS, zR] <;> rfl), by repeat (first | (with_reducible first | exact HB.out | apply qA | apply qB | apply qC | refine qD ?_ GE139.out | refine qD ?_ GE140.out) | exact HB.out)⟩
   ·replace c7 := Bool.eq_false_iff.mpr c7
    subst c7
    rw [if_neg (show ¬ (false = true) by decide)] at H
    obtain rfl := Option.some.inj H
    go_enter Tryd.func85, Tryd.ntmps85
    go_wp2_with (first | ((with_reducible refine gate_dst (N := 2) rfl ?_); refine qX ?hg (N := 2) ?hd (cs := #[.int .i64 a0_0, .float .f64 (Int.toNat a0_1), .float .f64 (Int.toNat a0_2)]) (t := 27) ?hr ?_; (case hd => rfl); (case hg => rfl); (case hr => first | (go_simp; done) | (go_simp; rfl)); intro gb139 hg w13 hbox hb; have n0_ := qV.mk (qE (by repeat (first | (with_reducible first | exact HB.out | apply qA | apply qB | apply qC) | exact HB.out)) hb); have n1_ := qV.mk (hbox); have n2_ := qV.mk ((by rw [hg]; exact (qF (by repeat (first | (with_reducible first | exact HB.out | apply qA | apply qB | apply qC) | exact HB.out))) : w.heap.size ≤ gb139)); have n3_ := qV.mk ((by rw [hg]; exact (qF (by repeat (first | (with_reducible first | exact HB.out | apply qA | apply qB | apply qC) | exact HB.out))) : w.heap.size ≤ gb139)); clear HB; have HB := n0_; have BK139 := n1_; have GW139 := n2_; have GE139 := n3_; clear n0_ n1_ n2_ n3_; clear hb hbox hg) | ((with_reducible refine gate_dst (N := 3) rfl ?_); refine qX ?hg (N := 3) ?hd (cs := #[.int .i64 a1_0, .float .f64 (Int.toNat a1_1), .float .f64 (Int.toNat a1_2)]) (t := 27) ?hr ?_; (case hd => rfl); (case hg => rfl); (case hr => first | (go_simp; done) | (go_simp; rfl)); intro gb140 hg w14 hbox hb; have n0_ := qV.mk (qL (g := gb139) (o := .cells #[.int .i64 a0_0, .float .f64 (Int.toNat a0_1), .float .f64 (Int.toNat a0_2)] 27 (0, 0)) (by (with_reducible repeat (first | refine qH ?_ _ | refine qI ?_ | refine qG ?_ _)); exact BK139.out) hb); have n1_ := qV.mk (qE (by repeat (first | (with_reducible first | exact HB.out | apply qA | apply qB | apply qC | refine qD ?_ GE139.out) | exact HB.out)) hb); have n2_ := qV.mk (hbox); have n3_ := qV.mk ((by rw [hg]; exact (qF (by repeat (first | (with_reducible first | exact HB.out | apply qA | apply qB | apply qC | refine qD ?_ GE139.out) | exact HB.out))) : w.heap.size ≤ gb140)); have n4_ := qV.mk ((by rw [hg]; exact (qF (by repeat (first | (with_reducible first | exact HB.out | apply qA | apply qB | apply qC | refine qD ?_ GE139.out) | exact HB.out))) : w.heap.size ≤ gb140)); have n5_ := qV.mk ((by rw [hg]; exact Nat.ne_of_lt (jR (g := gb139) (o := .cells #[.int .i64 a0_0, .float .f64 (Int.toNat a0_1), .float .f64 (Int.toNat a0_2)] 27 (0, 0)) (by (with_reducible repeat (first | refine qH ?_ _ | refine qI ?_ | refine qG ?_ _)); exact BK139.out)) : gb139 ≠ gb140)); have n6_ := qV.mk ((by rw [hg]; exact Nat.ne_of_gt (jR (g := gb139) (o := .cells #[.int .i64 a0_0, .float .f64 (Int.toNat a0_1), .float .f64 (Int.toNat a0_2)] 27 (0, 0)) (by (with_reducible repeat (first | refine qH ?_ _ | refine qI ?_ | refine qG ?_ _)); exact BK139.out)) : gb140 ≠ gb139)); clear BK139 HB; have BK139 := n0_; have HB := n1_; have BK140 := n2_; have GW140 := n3_; have GE140 := n4_; have NB139_140 := n5_; have NB140_139 := n6_; clear n0_ n1_ n2_ n3_ n4_ n5_ n6_ hb hbox hg; have hnb15 := NB139_140.out; have hnc15 := NB140_139.out; have hcz16_0 : w14.cell? ⟨gb139, 0, none⟩ = some (.int .i64 a0_0) := (qJ BK139.out 0).trans rfl; have hcz16_1 : w14.cell? ⟨gb139, 1, none⟩ = some (.float .f64 (Int.toNat a0_1)) := (qJ BK139.out 1).trans rfl; have hcz16_2 : w14.cell? ⟨gb139, 2, none⟩ = some (.float .f64 (Int.toNat a0_2)) := (qJ BK139.out 2).trans rfl; have hfz16_0 := qK BK139.out 0; have hfz16_1 := qK BK139.out 1; have hfz16_2 := qK BK139.out 2; have hcz17_0 : w14.cell? ⟨gb140, 0, none⟩ = some (.int .i64 a1_0) := (qJ BK140.out 0).trans rfl; have hcz17_1 : w14.cell? ⟨gb140, 1, none⟩ = some (.float .f64 (Int.toNat a1_1)) := (qJ BK140.out 1).trans rfl; have hcz17_2 : w14.cell? ⟨gb140, 2, none⟩ = some (.float .f64 (Int.toNat a1_2)) := (qJ BK140.out 2).trans rfl; have hfz17_0 := qK BK140.out 0; have hfz17_1 := qK BK140.out 1; have hfz17_2 := qK BK140.out 2) | ((with_reducible refine gate_callee (f := 153) rfl ?_); refine qW (some 14) rfl rfl Tryd.func153 (by kernel_rfl) rfl #[.float .f64 (Int.toNat a0_1), .float .f64 (Int.toNat a1_1)] rfl (by (try simp only [List.map_toArray, List.map_cons, List.map_nil]); first | done | rfl) ?_; (with_reducible refine (laws_sameFloat.calls a0_1 a1_1 true _ A4.out).mono ?_); rintro e w' ⟨rfl, ⟨nd, rfl⟩⟩; refine ⟨_, rfl, ?_⟩) | ((with_reducible refine gate_callee (f := 153) rfl ?_); refine qW (some 20) rfl rfl Tryd.func153 (by kernel_rfl) rfl #[.float .f64 (Int.toNat a0_2), .float .f64 (Int.toNat a1_2)] rfl (by (try simp only [List.map_toArray, List.map_cons, List.map_nil]); first | done | rfl) ?_; (with_reducible refine (laws_sameFloat.calls a0_2 a1_2 false _ A6.out).mono ?_); rintro e w' ⟨rfl, ⟨nd, rfl⟩⟩; refine ⟨_, rfl, ?_⟩))
    go_ret
    exact ⟨by first | rfl | (simp [zS, zR] <;> rfl) | (simp [*, zS, zR] <;> rfl), by repeat (first | (with_reducible first | exact HB.out | apply qA | apply qB | apply qC | refine qD ?_ GE139.out | refine qD ?_ GE140.out) | exact HB.out)⟩
  ·replace c5 := Bool.eq_false_iff.mpr c5
   subst c5
   rw [if_neg (show ¬ (false = true) by decide)] at H
   obtain rfl := Option.some.inj H
   go_enter Tryd.func85, Tryd.ntmps85
   go_wp2_with (first | ((with_reducible refine gate_dst (N := 2) rfl ?_); refine qX ?hg (N := 2) ?hd (cs := #[.int .i64 a0_0, .float .f64 (Int.toNat a0_1), .float .f64 (Int.toNat a0_2)]) (t := 27) ?hr ?_; (case hd => rfl); (case hg => rfl); (case hr => first | (go_simp; done) | (go_simp; rfl)); intro gb139 hg w18 hbox hb; have n0_ := qV.mk (qE (by repeat (first | (with_reducible first | exact HB.out | apply qA | apply qB | apply qC) | exact HB.out)) hb); have n1_ := qV.mk (hbox); have n2_ := qV.mk ((by rw [hg]; exact (qF (by repeat (first | (with_reducible first | exact HB.out | apply qA | apply qB | apply qC) | exact HB.out))) : w.heap.size ≤ gb139)); have n3_ := qV.mk ((by rw [hg]; exact (qF (by repeat (first | (with_reducible first | exact HB.out | apply qA | apply qB | apply qC) | exact HB.out))) : w.heap.size ≤ gb139)); clear HB; have HB := n0_; have BK139 := n1_; have GW139 := n2_; have GE139 := n3_; clear n0_ n1_ n2_ n3_; clear hb hbox hg) | ((with_reducible refine gate_dst (N := 3) rfl ?_); refine qX ?hg (N := 3) ?hd (cs := #[.int .i64 a1_0, .float .f64 (Int.toNat a1_1), .float .f64 (Int.toNat a1_2)]) (t := 27) ?hr ?_; (case hd => rfl); (case hg => rfl); (case hr => first | (go_simp; done) | (go_simp; rfl)); intro gb140 hg w19 hbox hb; have n0_ := qV.mk (qL (g := gb139) (o := .cells #[.int .i64 a0_0, .float .f64 (Int.toNat a0_1), .float .f64 (Int.toNat a0_2)] 27 (0, 0)) (by (with_reducible repeat (first | refine qH ?_ _ | refine qI ?_ | refine qG ?_ _)); exact BK139.out) hb); have n1_ := qV.mk (qE (by repeat (first | (with_reducible first | exact HB.out | apply qA | apply qB | apply qC | refine qD ?_ GE139.out) | exact HB.out)) hb); have n2_ := qV.mk (hbox); have n3_ := qV.mk ((by rw [hg]; exact (qF (by repeat (first | (with_reducible first | exact HB.out | apply qA | apply qB | apply qC | refine qD ?_ GE139.out) | exact HB.out))) : w.heap.size ≤ gb140)); have n4_ := qV.mk ((by rw [hg]; exact (qF (by repeat (first | (with_reducible first | exact HB.out | apply qA | apply qB | apply qC | refine qD ?_ GE139.out) | exact HB.out))) : w.heap.size ≤ gb140)); have n5_ := qV.mk ((by rw [hg]; exact Nat.ne_of_lt (jR (g := gb139) (o := .cells #[.int .i64 a0_0, .float .f64 (Int.toNat a0_1), .float .f64 (Int.toNat a0_2)] 27 (0, 0)) (by (with_reducible repeat (first | refine qH ?_ _ | refine qI ?_ | refine qG ?_ _)); exact BK139.out)) : gb139 ≠ gb140)); have n6_ := qV.mk ((by rw [hg]; exact Nat.ne_of_gt (jR (g := gb139) (o := .cells #[.int .i64 a0_0, .float .f64 (Int.toNat a0_1), .float .f64 (Int.toNat a0_2)] 27 (0, 0)) (by (with_reducible repeat (first | refine qH ?_ _ | refine qI ?_ | refine qG ?_ _)); exact BK139.out)) : gb140 ≠ gb139)); clear BK139 HB; have BK139 := n0_; have HB := n1_; have BK140 := n2_; have GW140 := n3_; have GE140 := n4_; have NB139_140 := n5_; have NB140_139 := n6_; clear n0_ n1_ n2_ n3_ n4_ n5_ n6_ hb hbox hg; have hnb20 := NB139_140.out; have hnc20 := NB140_139.out; have hcz21_0 : w19.cell? ⟨gb139, 0, none⟩ = some (.int .i64 a0_0) := (qJ BK139.out 0).trans rfl; have hcz21_1 : w19.cell? ⟨gb139, 1, none⟩ = some (.float .f64 (Int.toNat a0_1)) := (qJ BK139.out 1).trans rfl; have hcz21_2 : w19.cell? ⟨gb139, 2, none⟩ = some (.float .f64 (Int.toNat a0_2)) := (qJ BK139.out 2).trans rfl; have hfz21_0 := qK BK139.out 0; have hfz21_1 := qK BK139.out 1; have hfz21_2 := qK BK139.out 2; have hcz22_0 : w19.cell? ⟨gb140, 0, none⟩ = some (.int .i64 a1_0) := (qJ BK140.out 0).trans rfl; have hcz22_1 : w19.cell? ⟨gb140, 1, none⟩ = some (.float .f64 (Int.toNat a1_1)) := (qJ BK140.out 1).trans rfl; have hcz22_2 : w19.cell? ⟨gb140, 2, none⟩ = some (.float .f64 (Int.toNat a1_2)) := (qJ BK140.out 2).trans rfl; have hfz22_0 := qK BK140.out 0; have hfz22_1 := qK BK140.out 1; have hfz22_2 := qK BK140.out 2) | ((with_reducible refine gate_callee (f := 153) rfl ?_); refine qW (some 14) rfl rfl Tryd.func153 (by kernel_rfl) rfl #[.float .f64 (Int.toNat a0_1), .float .f64 (Int.toNat a1_1)] rfl (by (try simp only [List.map_toArray, List.map_cons, List.map_nil]); first | done | rfl) ?_; (with_reducible refine (laws_sameFloat.calls a0_1 a1_1 false _ A4.out).mono ?_); rintro e w' ⟨rfl, ⟨nd, rfl⟩⟩; refine ⟨_, rfl, ?_⟩))
   go_ret
   exact ⟨by first | rfl | (simp [zS, zR] <;> rfl) | (simp [*, zS, zR] <;> rfl), by repeat (first | (with_reducible first | exact HB.out | apply qA | apply qB | apply qC | refine qD ?_ GE139.out | refine qD ?_ GE140.out) | exact HB.out)⟩
 ·rw [if_neg c3] at H
  have c3b0 : (a0_0 == a1_0) = false := beq_eq_false_iff_ne.mpr c3
  have c3b1 : (a0_0 != a1_0) = true := bne_iff_ne.mpr c3
  obtain rfl := Option.some.inj H
  go_enter Tryd.func85, Tryd.ntmps85
  go_wp2_with (first | ((with_reducible refine gate_dst (N := 2) rfl ?_); refine qX ?hg (N := 2) ?hd (cs := #[.int .i64 a0_0, .float .f64 (Int.toNat a0_1), .float .f64 (Int.toNat a0_2)]) (t := 27) ?hr ?_; (case hd => rfl); (case hg => rfl); (case hr => first | (go_simp; done) | (go_simp; rfl)); intro gb139 hg w23 hbox hb; have n0_ := qV.mk (qE (by repeat (first | (with_reducible first | exact HB.out | apply qA | apply qB | apply qC) | exact HB.out)) hb); have n1_ := qV.mk (hbox); have n2_ := qV.mk ((by rw [hg]; exact (qF (by repeat (first | (with_reducible first | exact HB.out | apply qA | apply qB | apply qC) | exact HB.out))) : w.heap.size ≤ gb139)); have n3_ := qV.mk ((by rw [hg]; exact (qF (by repeat (first | (with_reducible first | exact HB.out | apply qA | apply qB | apply qC) | exact HB.out))) : w.heap.size ≤ gb139)); clear HB; have HB := n0_; have BK139 := n1_; have GW139 := n2_; have GE139 := n3_; clear n0_ n1_ n2_ n3_; clear hb hbox hg) | ((with_reducible refine gate_dst (N := 3) rfl ?_); refine qX ?hg (N := 3) ?hd (cs := #[.int .i64 a1_0, .float .f64 (Int.toNat a1_1), .float .f64 (Int.toNat a1_2)]) (t := 27) ?hr ?_; (case hd => rfl); (case hg => rfl); (case hr => first | (go_simp; done) | (go_simp; rfl)); intro gb140 hg w24 hbox hb; have n0_ := qV.mk (qL (g := gb139) (o := .cells #[.int .i64 a0_0, .float .f64 (Int.toNat a0_1), .float .f64 (Int.toNat a0_2)] 27 (0, 0)) (by (with_reducible repeat (first | refine qH ?_ _ | refine qI ?_ | refine qG ?_ _)); exact BK139.out) hb); have n1_ := qV.mk (qE (by repeat (first | (with_reducible first | exact HB.out | apply qA | apply qB | apply qC | refine qD ?_ GE139.out) | exact HB.out)) hb); have n2_ := qV.mk (hbox); have n3_ := qV.mk ((by rw [hg]; exact (qF (by repeat (first | (with_reducible first | exact HB.out | apply qA | apply qB | apply qC | refine qD ?_ GE139.out) | exact HB.out))) : w.heap.size ≤ gb140)); have n4_ := qV.mk ((by rw [hg]; exact (qF (by repeat (first | (with_reducible first | exact HB.out | apply qA | apply qB | apply qC | refine qD ?_ GE139.out) | exact HB.out))) : w.heap.size ≤ gb140)); have n5_ := qV.mk ((by rw [hg]; exact Nat.ne_of_lt (jR (g := gb139) (o := .cells #[.int .i64 a0_0, .float .f64 (Int.toNat a0_1), .float .f64 (Int.toNat a0_2)] 27 (0, 0)) (by (with_reducible repeat (first | refine qH ?_ _ | refine qI ?_ | refine qG ?_ _)); exact BK139.out)) : gb139 ≠ gb140)); have n6_ := qV.mk ((by rw [hg]; exact Nat.ne_of_gt (jR (g := gb139) (o := .cells #[.int .i64 a0_0, .float .f64 (Int.toNat a0_1), .float .f64 (Int.toNat a0_2)] 27 (0, 0)) (by (with_reducible repeat (first | refine qH ?_ _ | refine qI ?_ | refine qG ?_ _)); exact BK139.out)) : gb140 ≠ gb139)); clear BK139 HB; have BK139 := n0_; have HB := n1_; have BK140 := n2_; have GW140 := n3_; have GE140 := n4_; have NB139_140 := n5_; have NB140_139 := n6_; clear n0_ n1_ n2_ n3_ n4_ n5_ n6_ hb hbox hg; have hnb25 := NB139_140.out; have hnc25 := NB140_139.out; have hcz26_0 : w24.cell? ⟨gb139, 0, none⟩ = some (.int .i64 a0_0) := (qJ BK139.out 0).trans rfl; have hcz26_1 : w24.cell? ⟨gb139, 1, none⟩ = some (.float .f64 (Int.toNat a0_1)) := (qJ BK139.out 1).trans rfl; have hcz26_2 : w24.cell? ⟨gb139, 2, none⟩ = some (.float .f64 (Int.toNat a0_2)) := (qJ BK139.out 2).trans rfl; have hfz26_0 := qK BK139.out 0; have hfz26_1 := qK BK139.out 1; have hfz26_2 := qK BK139.out 2; have hcz27_0 : w24.cell? ⟨gb140, 0, none⟩ = some (.int .i64 a1_0) := (qJ BK140.out 0).trans rfl; have hcz27_1 : w24.cell? ⟨gb140, 1, none⟩ = some (.float .f64 (Int.toNat a1_1)) := (qJ BK140.out 1).trans rfl; have hcz27_2 : w24.cell? ⟨gb140, 2, none⟩ = some (.float .f64 (Int.toNat a1_2)) := (qJ BK140.out 2).trans rfl; have hfz27_0 := qK BK140.out 0; have hfz27_1 := qK BK140.out 1; have hfz27_2 := qK BK140.out 2))
  go_ret
  exact ⟨by first | rfl | (simp [zS, zR] <;> rfl) | (simp [*, zS, zR] <;> rfl), by repeat (first | (with_reducible first | exact HB.out | apply qA | apply qB | apply qC | refine qD ?_ GE139.out | refine qD ?_ GE140.out) | exact HB.out)⟩

end Go.Proofs.YtpmdgmnpkdoamabDoor.DFnExactRead
