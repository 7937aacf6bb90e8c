/- Proved here: what the functions answer that the law on Read comes to (the lines were written by a program). Conditions: those that stand ahead in each theorem. -/
import Derived.Test.YtpmdgmnpkdoamabDoorRdDFnExactReadx0
import Derived.Test.YtpmdgmnpkdoamabDoorRdDFnExactReadx2
namespace Go.Proofs.YtpmdgmnpkdoamabDoor.DFnExactRead
open Go.RowKit Go.Proofs.YtpmdgmnpkdoamabDoorW.PrintWords Go.Proofs.YtpmdgmnpkdoamabDoorW.PrintLast Go.Proofs.YtpmdgmnpkdoamabDoorW.PrintMore
attribute [local go_sem] Vc.run_store_float' max2_int min2_int max_two min_two max_three min_three max_four min_four   -- for this text's walks alone
set_option linter.unusedVariables false
set_option linter.unusedSimpArgs false

def laws_eqHeap.f (k : Nat) (l0_0 : List (S85)) (l1_0 : List (S85)) : Option (Bool) := (jD.f k l0_0 l1_0).bind fun t154 => (if t154 = true then (some true) else (some false))
theorem laws_eqHeap.mono : ∀ a0 a1 k, LeO (laws_eqHeap.f k a0 a1) (laws_eqHeap.f (k + 1) a0 a1) := by
 intro a0 a1 k
 unfold laws_eqHeap.f
 repeat' first
   | (with_reducible exact jD.mono _ _ _)
   | (with_reducible exact LeO.refl _)
   | (with_reducible exact LeO.none _)
   | (with_reducible refine LeO.ite ?_ ?_)
   | (with_reducible refine LeO.bind ?_ (fun _ => ?_))
   | exact jD.mono _ _ _
   | exact LeO.none _
   | refine LeO.ite ?_ ?_
   | refine LeO.bind ?_ (fun _ => ?_)
set_option maxHeartbeats 8000000 in
set_option maxRecDepth 100000 in
theorem laws_eqHeap.calls (k : Nat) (A0_0 : Option Addr) (c0_0 : Nat) (l0_0 : List (S85)) (A1_0 : Option Addr) (c1_0 : Nat) (l1_0 : List (S85)) (r : Bool) (w : World) (hr0_0 : Kd.C k85 w A0_0 l0_0.length l0_0) (hc0_0 : l0_0.length ≤ c0_0) (hr1_0 : Kd.C k85 w A1_0 l1_0.length l1_0) (hc1_0 : l1_0.length ≤ c1_0) (h : laws_eqHeap.f k l0_0 l1_0 = some r) :
  Calls Tryd.prog 26 #[.agg #[.slice A0_0 l0_0.length c0_0], .agg #[.slice A1_0 l1_0.length c1_0]] w fun e w' => e = .returned (.bool r) ∧ Below w.heap.size w w' := by
 have hu39 := Tryd.underlying39
 have HR0_0 := qV.mk hr0_0
 have HC0_0 := qV.mk hc0_0
 clear hr0_0 hc0_0
 have HR1_0 := qV.mk hr1_0
 have HC1_0 := qV.mk hc1_0
 clear hr1_0 hc1_0
 have HB := qV.mk (Below.refl w.heap.size w)
 have H : ((jD.f k l0_0 l1_0).bind fun t154 => (if t154 = true then (some true) else (some false))) = some r := h
 clear h
 replace H := Option.bind_eq_some_iff.mp H
 obtain ⟨t154, A30, H⟩ := H
 try dsimp only at H
 have A3 := qV.mk A30
 clear A30
 by_cases c4 : t154 = true
 ·subst c4
  rw [if_pos rfl] at H
  obtain rfl := Option.some.inj H
  go_enter Tryd.func26, Tryd.ntmps26
  go_wp2_with (first | ((with_reducible refine gate_dst (N := 2) rfl ?_); refine qX ?hg (N := 2) ?hd (cs := #[.slice A0_0 l0_0.length c0_0]) (t := 39) ?hr ?_; (case hd => rfl); (case hg => rfl); (case hr => first | (go_simp; done) | (go_simp; rfl)); intro gb152 hg w5 hbox hb; have n0_ := qV.mk (qE (by repeat (first | (with_reducible first | exact HB.out | apply qA | apply qB | apply qC) | exact HB.out)) hb); have n1_ := qV.mk (hbox); have n2_ := qV.mk ((by rw [hg]; exact (qF (by repeat (first | (with_reducible first | exact HB.out | apply qA | apply qB | apply qC) | exact HB.out))) : w.heap.size ≤ gb152)); have n3_ := qV.mk ((by rw [hg]; exact (qF (by repeat (first | (with_reducible first | exact HB.out | apply qA | apply qB | apply qC) | exact HB.out))) : w.heap.size ≤ gb152)); clear HB; have HB := n0_; have BK152 := n1_; have GW152 := n2_; have GE152 := n3_; clear n0_ n1_ n2_ n3_; clear hb hbox hg) | ((with_reducible refine gate_dst (N := 3) rfl ?_); refine qX ?hg (N := 3) ?hd (cs := #[.slice A1_0 l1_0.length c1_0]) (t := 39) ?hr ?_; (case hd => rfl); (case hg => rfl); (case hr => first | (go_simp; done) | (go_simp; rfl)); intro gb153 hg w6 hbox hb; have n0_ := qV.mk (qL (g := gb152) (o := .cells #[.slice A0_0 l0_0.length c0_0] 39 (0, 0)) (by (with_reducible repeat (first | refine qH ?_ _ | refine qI ?_ | refine qG ?_ _)); exact BK152.out) hb); have n1_ := qV.mk (qE (by repeat (first | (with_reducible first | exact HB.out | apply qA | apply qB | apply qC | refine qD ?_ GE152.out) | exact HB.out)) hb); have n2_ := qV.mk (hbox); have n3_ := qV.mk ((by rw [hg]; exact (qF (by repeat (first | (with_reducible first | exact HB.out | apply qA | apply qB | apply qC | refine qD ?_ GE152.out) | exact HB.out))) : w.heap.size ≤ gb153)); have n4_ := qV.mk ((by rw [hg]; exact (qF (by repeat (first | (with_reducible first | exact HB.out | apply qA | apply qB | apply qC | refine qD ?_ GE152.out) | exact HB.out))) : w.heap.size ≤ gb153)); have n5_ := qV.mk ((by rw [hg]; exact Nat.ne_of_lt (jR (g := gb152) (o := .cells #[.slice A0_0 l0_0.length c0_0] 39 (0, 0)) (by (with_reducible repeat (first | refine qH ?_ _ | refine qI ?_ | refine qG ?_ _)); exact BK152.out)) : gb152 ≠ gb153)); have n6_ := qV.mk ((by rw [hg]; exact Nat.ne_of_gt (jR (g := gb152) (o := .cells #[.slice A0_0 l0_0.length c0_0] 39 (0, 0)) (by (with_reducible repeat (first | refine qH ?_ _ | refine qI ?_ | refine qG ?_ _)); exact BK152.out)) : gb153 ≠ gb152)); clear BK152 HB; have BK152 := n0_; have HB := n1_; have BK153 := n2_; have GW153 := n3_; have GE153 := n4_; have NB152_153 := n5_; have NB153_152 := n6_; clear n0_ n1_ n2_ n3_ n4_ n5_ n6_ hb hbox hg; have hnb7 := NB152_153.out; have hnc7 := NB153_152.out; have hcz8_0 : w6.cell? ⟨gb152, 0, none⟩ = some (.slice A0_0 l0_0.length c0_0) := (qJ BK152.out 0).trans rfl; have hfz8_0 := qK BK152.out 0; have hcz9_0 : w6.cell? ⟨gb153, 0, none⟩ = some (.slice A1_0 l1_0.length c1_0) := (qJ BK153.out 0).trans rfl; have hfz9_0 := qK BK153.out 0) | ((with_reducible refine gate_callee (f := 79) rfl ?_); refine qW (some 9) rfl rfl Tryd.func79 (by kernel_rfl) rfl #[.slice A0_0 l0_0.length c0_0, .slice A1_0 l1_0.length c1_0] rfl (by (try simp only [List.map_toArray, List.map_cons, List.map_nil]); first | done | rfl) ?_; (with_reducible refine (jD.calls k _ _ l0_0 _ _ l1_0 true _ ?side1 ?side2 ?side3 ?side4 A3.out).mono ?_); (case side1 => repeat (first | exact (Kd.zA HR0_0.out HB.out) | (with_reducible refine Kd.qS ?_ _) | (with_reducible refine Kd.qT ?_ _) | (with_reducible refine Kd.qU ?_))); (case side2 => exact HC0_0.out); (case side3 => repeat (first | exact (Kd.zA HR1_0.out HB.out) | (with_reducible refine Kd.qS ?_ _) | (with_reducible refine Kd.qT ?_ _) | (with_reducible refine Kd.qU ?_))); (case side4 => exact HC1_0.out); rintro e w10 ⟨rfl, hb⟩; refine ⟨_, rfl, ?_⟩; have n0_ := qV.mk (qL (g := gb152) (o := .cells #[.slice A0_0 l0_0.length c0_0] 39 (0, 0)) (by (with_reducible repeat (first | refine qH ?_ _ | refine qI ?_ | refine qG ?_ _)); exact BK152.out) hb); have n1_ := qV.mk (qL (g := gb153) (o := .cells #[.slice A1_0 l1_0.length c1_0] 39 (0, 0)) (by (with_reducible repeat (first | refine qH ?_ _ | refine qI ?_ | refine qG ?_ _)); exact BK153.out) hb); have n2_ := qV.mk (qE (by repeat (first | (with_reducible first | exact HB.out | apply qA | apply qB | apply qC | refine qD ?_ GE152.out | refine qD ?_ GE153.out) | exact HB.out)) hb); clear BK152 BK153 HB; have BK152 := n0_; have BK153 := n1_; have HB := n2_; clear n0_ n1_ n2_; (try clear hb); (try clear hb2); (try clear hk); (try clear hi)))
  go_ret
  exact ⟨by first | rfl | (simp [zS, zR] <;> rfl) | (simp [*, zS, zR] <;> rfl), by repeat (first | (with_reducible first | exact HB.out | apply qA | apply qB | apply qC | refine qD ?_ GE152.out | refine qD ?_ GE153.out) | exact HB.out)⟩
 ·replace c4 := Bool.eq_false_iff.mpr c4
  subst c4
  rw [if_neg (show ¬ (false = true) by decide)] at H
  obtain rfl := Option.some.inj H
  go_enter Tryd.func26, Tryd.ntmps26
  go_wp2_with (first | ((with_reducible refine gate_dst (N := 2) rfl ?_); refine qX ?hg (N := 2) ?hd (cs := #[.slice A0_0 l0_0.length c0_0]) (t := 39) ?hr ?_; (case hd => rfl); (case hg => rfl); (case hr => first | (go_simp; done) | (go_simp; rfl)); intro gb152 hg w11 hbox hb; have n0_ := qV.mk (qE (by repeat (first | (with_reducible first | exact HB.out | apply qA | apply qB | apply qC) | exact HB.out)) hb); have n1_ := qV.mk (hbox); have n2_ := qV.mk ((by rw [hg]; exact (qF (by repeat (first | (with_reducible first | exact HB.out | apply qA | apply qB | apply qC) | exact HB.out))) : w.heap.size ≤ gb152)); have n3_ := qV.mk ((by rw [hg]; exact (qF (by repeat (first | (with_reducible first | exact HB.out | apply qA | apply qB | apply qC) | exact HB.out))) : w.heap.size ≤ gb152)); clear HB; have HB := n0_; have BK152 := n1_; have GW152 := n2_; have GE152 := n3_; clear n0_ n1_ n2_ n3_; clear hb hbox hg) | ((with_reducible refine gate_dst (N := 3) rfl ?_); refine qX ?hg (N := 3) ?hd (cs := #[.slice A1_0 l1_0.length c1_0]) (t := 39) ?hr ?_; (case hd => rfl); (case hg => rfl); (case hr => first | (go_simp; done) | (go_simp; rfl)); intro gb153 hg w12 hbox hb; have n0_ := qV.mk (qL (g := gb152) (o := .cells #[.slice A0_0 l0_0.length c0_0] 39 (0, 0)) (by (with_reducible repeat (first | refine qH ?_ _ | refine qI ?_ | refine qG ?_ _)); exact BK152.out) hb); have n1_ := qV.mk (qE (by repeat (first | (with_reducible first | exact HB.out | apply qA | apply qB | apply qC | refine qD ?_ GE152.out) | exact HB.out)) hb); have n2_ := qV.mk (hbox); have n3_ := qV.mk ((by rw [hg]; exact (qF (by repeat (first | (with_reducible first | exact HB.out | apply qA | apply qB | apply qC | refine qD ?_ GE152.out) | exact HB.out))) : w.heap.size ≤ gb153)); have n4_ := qV.mk ((by rw [hg]; exact (qF (by repeat (first | (with_reducible first | exact HB.out | apply qA | apply qB | apply qC | refine qD ?_ GE152.out) | exact HB.out))) : w.heap.size ≤ gb153)); have n5_ := qV.mk ((by rw [hg]; exact Nat.ne_of_lt (jR (g := gb152) (o := .cells #[.slice A0_0 l0_0.length c0_0] 39 (0, 0)) (by (with_reducible repeat (first | refine qH ?_ _ | refine qI ?_ | refine qG ?_ _)); exact BK152.out)) : gb152 ≠ gb153)); have n6_ := qV.mk ((by rw [hg]; exact Nat.ne_of_gt (jR (g := gb152) (o := .cells #[.slice A0_0 l0_0.length c0_0] 39 (0, 0)) (by (with_reducible repeat (first | refine qH ?_ _ | refine qI ?_ | refine qG ?_ _)); exact BK152.out)) : gb153 ≠ gb152)); clear BK152 HB; have BK152 := n0_; have HB := n1_; have BK153 := n2_; have GW153 := n3_; have GE153 := n4_; have NB152_153 := n5_; have NB153_152 := n6_; clear n0_ n1_ n2_ n3_ n4_ n5_ n6_ hb hbox hg; have hnb13 := NB152_153.out; have hnc13 := NB153_152.out; have hcz14_0 : w12.cell? ⟨gb152, 0, none⟩ = some (.slice A0_0 l0_0.length c0_0) := (qJ BK152.out 0).trans rfl; have hfz14_0 := qK BK152.out 0; have hcz15_0 : w12.cell? ⟨gb153, 0, none⟩ = some (.slice A1_0 l1_0.length c1_0) := (qJ BK153.out 0).trans rfl; have hfz15_0 := qK BK153.out 0) | ((with_reducible refine gate_callee (f := 79) rfl ?_); refine qW (some 9) rfl rfl Tryd.func79 (by kernel_rfl) rfl #[.slice A0_0 l0_0.length c0_0, .slice A1_0 l1_0.length c1_0] rfl (by (try simp only [List.map_toArray, List.map_cons, List.map_nil]); first | done | rfl) ?_; (with_reducible refine (jD.calls k _ _ l0_0 _ _ l1_0 false _ ?side1 ?side2 ?side3 ?side4 A3.out).mono ?_); (case side1 => repeat (first | exact (Kd.zA HR0_0.out HB.out) | (with_reducible refine Kd.qS ?_ _) | (with_reducible refine Kd.qT ?_ _) | (with_reducible refine Kd.qU ?_))); (case side2 => exact HC0_0.out); (case side3 => repeat (first | exact (Kd.zA HR1_0.out HB.out) | (with_reducible refine Kd.qS ?_ _) | (with_reducible refine Kd.qT ?_ _) | (with_reducible refine Kd.qU ?_))); (case side4 => exact HC1_0.out); rintro e w16 ⟨rfl, hb⟩; refine ⟨_, rfl, ?_⟩; have n0_ := qV.mk (qL (g := gb152) (o := .cells #[.slice A0_0 l0_0.length c0_0] 39 (0, 0)) (by (with_reducible repeat (first | refine qH ?_ _ | refine qI ?_ | refine qG ?_ _)); exact BK152.out) hb); have n1_ := qV.mk (qL (g := gb153) (o := .cells #[.slice A1_0 l1_0.length c1_0] 39 (0, 0)) (by (with_reducible repeat (first | refine qH ?_ _ | refine qI ?_ | refine qG ?_ _)); exact BK153.out) hb); have n2_ := qV.mk (qE (by repeat (first | (with_reducible first | exact HB.out | apply qA | apply qB | apply qC | refine qD ?_ GE152.out | refine qD ?_ GE153.out) | exact HB.out)) hb); clear BK152 BK153 HB; have BK152 := n0_; have BK153 := n1_; have HB := n2_; clear n0_ n1_ n2_; (try clear hb); (try clear hb2); (try clear hk); (try clear hi)))
  go_ret
  exact ⟨by first | rfl | (simp [zS, zR] <;> rfl) | (simp [*, zS, zR] <;> rfl), by repeat (first | (with_reducible first | exact HB.out | apply qA | apply qB | apply qC | refine qD ?_ GE152.out | refine qD ?_ GE153.out) | exact HB.out)⟩

def laws_szInt64S.f (l0 : List Int) (a1 : Int) : Option (Int) := if (wrap64 (a1 - (l0.length : Int))) < 0 then (some (-1)) else (some (wrap64 (a1 - (l0.length : Int))))
set_option maxHeartbeats 8000000 in
set_option maxRecDepth 100000 in
theorem laws_szInt64S.calls (A0 : Option Addr) (c0 : Nat) (l0 : List Int) (a1 : Int) (r : Int) (w : World) (hr0 : Kd.C (Kd.int .i64) w A0 l0.length l0) (hc0 : l0.length ≤ c0) (h : laws_szInt64S.f l0 a1 = some r) :
  Calls Tryd.prog 160 #[.slice A0 l0.length c0, .int .i64 a1] w fun e w' => e = .returned (.int .i64 r) ∧ zI w w' := by
 have HR0 := qV.mk hr0
 have HC0 := qV.mk hc0
 clear hr0 hc0
 have H : (if (wrap64 (a1 - (l0.length : Int))) < 0 then (some (-1)) else (some (wrap64 (a1 - (l0.length : Int))))) = some r := h
 clear h
 by_cases c3 : (wrap64 (a1 - (l0.length : Int))) < 0
 ·rw [if_pos c3] at H
  have c3b0 : decide ((wrap64 (a1 - (l0.length : Int))) < 0) = true := decide_eq_true c3
  clear c3
  obtain rfl := Option.some.inj H
  go_enter Tryd.func160, Tryd.ntmps160
  go_wp2
  go_ret
  exact ⟨by first | rfl | (simp; done) | (simp [*]; done), by repeat (first | exact zI.refl _ | apply zI.step)⟩
 ·rw [if_neg c3] at H
  have c3b0 : decide ((wrap64 (a1 - (l0.length : Int))) < 0) = false := decide_eq_false c3
  clear c3
  obtain rfl := Option.some.inj H
  go_enter Tryd.func160, Tryd.ntmps160
  go_wp2
  go_ret
  exact ⟨by first | rfl | (simp; done) | (simp [*]; done), by repeat (first | exact zI.refl _ | apply zI.step)⟩

def laws_szView.f (l0_0 : List Int) (l0_1 : List Int) (a0_2 : Int) (a1 : Int) : Option (Int) := (laws_szInt64S.f l0_0 a1).bind fun t156 => (if t156 < 0 then (some (-1)) else ((laws_szInt64S.f l0_1 t156).bind fun t157 => (if t157 < 0 then (some (-1)) else (some t157))))
set_option maxHeartbeats 8000000 in
set_option maxRecDepth 100000 in
theorem laws_szView.calls (A0_0 : Option Addr) (c0_0 : Nat) (l0_0 : List Int) (A0_1 : Option Addr) (c0_1 : Nat) (l0_1 : List Int) (a0_2 : Int) (a1 : Int) (r : Int) (w : World) (hr0_0 : Kd.C (Kd.int .i64) w A0_0 l0_0.length l0_0) (hc0_0 : l0_0.length ≤ c0_0) (hr0_1 : Kd.C (Kd.int .i64) w A0_1 l0_1.length l0_1) (hc0_1 : l0_1.length ≤ c0_1) (h : laws_szView.f l0_0 l0_1 a0_2 a1 = some r) :
  Calls Tryd.prog 102 #[.agg #[.slice A0_0 l0_0.length c0_0, .slice A0_1 l0_1.length c0_1, .int .i64 a0_2], .int .i64 a1] w fun e w' => e = .returned (.int .i64 r) ∧ Below w.heap.size w w' := by
 have hu59 := Tryd.underlying59
 have HR0_0 := qV.mk hr0_0
 have HC0_0 := qV.mk hc0_0
 clear hr0_0 hc0_0
 have HR0_1 := qV.mk hr0_1
 have HC0_1 := qV.mk hc0_1
 clear hr0_1 hc0_1
 have HB := qV.mk (Below.refl w.heap.size w)
 have H : ((laws_szInt64S.f l0_0 a1).bind fun t156 => (if t156 < 0 then (some (-1)) else ((laws_szInt64S.f l0_1 t156).bind fun t157 => (if t157 < 0 then (some (-1)) else (some t157))))) = some r := h
 clear h
 replace H := Option.bind_eq_some_iff.mp H
 obtain ⟨t156, A30, H⟩ := H
 try dsimp only at H
 have A3 := qV.mk A30
 clear A30
 by_cases c4 : t156 < 0
 ·rw [if_pos c4] at H
  have c4b0 : decide (t156 < 0) = true := decide_eq_true c4
  clear c4
  obtain rfl := Option.some.inj H
  go_enter Tryd.func102, Tryd.ntmps102
  go_wp2_with (first | ((with_reducible refine gate_dst (N := 2) rfl ?_); refine qX ?hg (N := 2) ?hd (cs := #[.slice A0_0 l0_0.length c0_0, .slice A0_1 l0_1.length c0_1, .int .i64 a0_2]) (t := 59) ?hr ?_; (case hd => rfl); (case hg => rfl); (case hr => first | (go_simp; done) | (go_simp; rfl)); intro gb155 hg w5 hbox hb; have n0_ := qV.mk (qE (by repeat (first | (with_reducible first | exact HB.out | apply qA | apply qB | apply qC) | exact HB.out)) hb); have n1_ := qV.mk (hbox); have n2_ := qV.mk ((by rw [hg]; exact (qF (by repeat (first | (with_reducible first | exact HB.out | apply qA | apply qB | apply qC) | exact HB.out))) : w.heap.size ≤ gb155)); have n3_ := qV.mk ((by rw [hg]; exact (qF (by repeat (first | (with_reducible first | exact HB.out | apply qA | apply qB | apply qC) | exact HB.out))) : w.heap.size ≤ gb155)); clear HB; have HB := n0_; have BK155 := n1_; have GW155 := n2_; have GE155 := n3_; clear n0_ n1_ n2_ n3_ hb hbox hg; have hcz6_0 : w5.cell? ⟨gb155, 0, none⟩ = some (.slice A0_0 l0_0.length c0_0) := (qJ BK155.out 0).trans rfl; have hcz6_1 : w5.cell? ⟨gb155, 1, none⟩ = some (.slice A0_1 l0_1.length c0_1) := (qJ BK155.out 1).trans rfl; have hcz6_2 : w5.cell? ⟨gb155, 2, none⟩ = some (.int .i64 a0_2) := (qJ BK155.out 2).trans rfl; have hfz6_0 := qK BK155.out 0; have hfz6_1 := qK BK155.out 1; have hfz6_2 := qK BK155.out 2) | ((with_reducible refine gate_callee (f := 160) rfl ?_); refine qW (some 8) rfl rfl Tryd.func160 (by kernel_rfl) rfl #[.slice A0_0 l0_0.length c0_0, .int .i64 a1] rfl (by (try simp only [List.map_toArray, List.map_cons, List.map_nil]); first | done | rfl) ?_; (with_reducible refine (laws_szInt64S.calls _ _ l0_0 a1 t156 _ ?side1 ?side2 A3.out).mono ?_); (case side1 => repeat (first | exact (Kd.zA HR0_0.out HB.out) | (with_reducible refine Kd.qS ?_ _) | (with_reducible refine Kd.qT ?_ _) | (with_reducible refine Kd.qU ?_))); (case side2 => exact HC0_0.out); rintro e w' ⟨rfl, ⟨nd, rfl⟩⟩; refine ⟨_, rfl, ?_⟩))
  go_ret
  exact ⟨by first | rfl | (simp [zS, zR] <;> rfl) | (simp [*, zS, zR] <;> rfl), by repeat (first | (with_reducible first | exact HB.out | apply qA | apply qB | apply qC | refine qD ?_ GE155.out) | exact HB.out)⟩
 ·rw [if_neg c4] at H
  have c4b0 : decide (t156 < 0) = false := decide_eq_false c4
  clear c4
  replace H := Option.bind_eq_some_iff.mp H
  obtain ⟨t157, A70, H⟩ := H
  try dsimp only at H
  have A7 := qV.mk A70
  clear A70
  by_cases c8 : t157 < 0
  ·rw [if_pos c8] at H
   have c8b0 : decide (t157 < 0) = true := decide_eq_true c8
   clear c8
   obtain rfl := Option.some.inj H
   go_enter Tryd.func102, Tryd.ntmps102
   go_wp2_with (first | ((with_reducible refine gate_dst (N := 2) rfl ?_); refine qX ?hg (N := 2) ?hd (cs := #[.slice A0_0 l0_0.length c0_0, .slice A0_1 l0_1.length c0_1, .int .i64 a0_2]) (t := 59) ?hr ?_; (case hd => rfl); (case hg => rfl); (case hr => first | (go_simp; done) | (go_simp; rfl)); intro gb155 hg w9 hbox hb; have n0_ := qV.mk (qE (by repeat (first | (with_reducible first | exact HB.out | apply qA | apply qB | apply qC) | exact HB.out)) hb); have n1_ := qV.mk (hbox); have n2_ := qV.mk ((by rw [hg]; exact (qF (by repeat (first | (with_reducible first | exact HB.out | apply qA | apply qB | apply qC) | exact HB.out))) : w.heap.size ≤ gb155)); have n3_ := qV.mk ((by rw [hg]; exact (qF (by repeat (first | (with_reducible first | exact HB.out | apply qA | apply qB | apply qC) | exact HB.out))) : w.heap.size ≤ gb155)); clear HB; have HB := n0_; have BK155 := n1_; have GW155 := n2_; have GE155 := n3_; clear n0_ n1_ n2_ n3_ hb hbox hg; have hcz10_0 : w9.cell? ⟨gb155, 0, none⟩ = some (.slice A0_0 l0_0.length c0_0) := (qJ BK155.out 0).trans rfl; have hcz10_1 : w9.cell? ⟨gb155, 1, none⟩ = some (.slice A0_1 l0_1.length c0_1) := (qJ BK155.out 1).trans rfl; have hcz10_2 : w9.cell? ⟨gb155, 2, none⟩ = some (.int .i64 a0_2) := (qJ BK155.out 2).trans rfl; have hfz10_0 := qK BK155.out 0; have hfz10_1 := qK BK155.out 1; have hfz10_2 := qK BK155.out 2) | ((with_reducible refine gate_callee (f := 160) rfl ?_); refine qW (some 8) rfl rfl Tryd.func160 (by kernel_rfl) rfl #[.slice A0_0 l0_0.length c0_0, .int .i64 a1] rfl (by (try simp only [List.map_toArray, List.map_cons, List.map_nil]); first | done | rfl) ?_; (with_reducible refine (laws_szInt64S.calls _ _ l0_0 a1 t156 _ ?side1 ?side2 A3.out).mono ?_); (case side1 => repeat (first | exact (Kd.zA HR0_0.out HB.out) | (with_reducible refine Kd.qS ?_ _) | (with_reducible refine Kd.qT ?_ _) | (with_reducible refine Kd.qU ?_))); (case side2 => exact HC0_0.out); rintro e w' ⟨rfl, ⟨nd, rfl⟩⟩; refine ⟨_, rfl, ?_⟩) | ((with_reducible refine gate_callee (f := 160) rfl ?_); refine qW (some 14) rfl rfl Tryd.func160 (by kernel_rfl) rfl #[.slice A0_1 l0_1.length c0_1, .int .i64 t156] rfl (by (try simp only [List.map_toArray, List.map_cons, List.map_nil]); first | done | rfl) ?_; (with_reducible refine (laws_szInt64S.calls _ _ l0_1 t156 t157 _ ?side1 ?side2 A7.out).mono ?_); (case side1 => repeat (first | exact (Kd.zA HR0_1.out (by repeat (first | (with_reducible first | exact HB.out | apply qA | apply qB | apply qC | refine qD ?_ GE155.out) | exact HB.out))) | (with_reducible refine Kd.qS ?_ _) | (with_reducible refine Kd.qT ?_ _) | (with_reducible refine Kd.qU ?_))); (case side2 => exact HC0_1.out); rintro e w' ⟨rfl, ⟨nd, rfl⟩⟩; refine ⟨_, rfl, ?_⟩))
   go_ret
   exact ⟨by first | rfl | (simp [zS, zR] <;> rfl) | (simp [*, zS, zR] <;> rfl), by repeat (first | (with_reducible first | exact HB.out | apply qA | apply qB | apply qC | refine qD ?_ GE155.out) | exact HB.out)⟩
  ·rw [if_neg c8] at H
   have c8b0 : decide (t157 < 0) = false := decide_eq_false c8
   clear c8
   obtain rfl := Option.some.inj H
   go_enter Tryd.func102, Tryd.ntmps102
   go_wp2_with (first | ((with_reducible refine gate_dst (N := 2) rfl ?_); refine qX ?hg (N := 2) ?hd (cs := #[.slice A0_0 l0_0.length c0_0, .slice A0_1 l0_1.length c0_1, .int .i64 a0_2]) (t := 59) ?hr ?_; (case hd => rfl); (case hg => rfl); (case hr => first | (go_simp; done) | (go_simp; rfl)); intro gb155 hg w11 hbox hb; have n0_ := qV.mk (qE (by repeat (first | (with_reducible first | exact HB.out | apply qA | apply qB | apply qC) | exact HB.out)) hb); have n1_ := qV.mk (hbox); have n2_ := qV.mk ((by rw [hg]; exact (qF (by repeat (first | (with_reducible first | exact HB.out | apply qA | apply qB | apply qC) | exact HB.out))) : w.heap.size ≤ gb155)); have n3_ := qV.mk ((by rw [hg]; exact (qF (by repeat (first | (with_reducible first | exact HB.out | apply qA | apply qB | apply qC) | exact HB.out))) : w.heap.size ≤ gb155)); clear HB; have HB := n0_; have BK155 := n1_; have GW155 := n2_; have GE155 := n3_; clear n0_ n1_ n2_ n3_ hb hbox hg; have hcz12_0 : w11.cell? ⟨gb155, 0, none⟩ = some (.slice A0_0 l0_0.length c0_0) := (qJ BK155.out 0).trans rfl; have hcz12_1 : w11.cell? ⟨gb155, 1, none⟩ = some (.slice A0_1 l0_1.length c0_1) := (qJ BK155.out 1).trans rfl; have hcz12_2 : w11.cell? ⟨gb155, 2, none⟩ = some (.int .i64 a0_2) := (qJ BK155.out 2).trans rfl; have hfz12_0 := qK BK155.out 0; have hfz12_1 := qK BK155.out 1; have hfz12_2 := qK BK155.out 2) | ((with_reducible refine gate_callee (f := 160) rfl ?_); refine qW (some 8) rfl rfl Tryd.func160 (by kernel_rfl) rfl #[.slice A0_0 l0_0.length c0_0, .int .i64 a1] rfl (by (try simp only [List.map_toArray, List.map_cons, List.map_nil]); first | done | rfl) ?_; (with_reducible refine (laws_szInt64S.calls _ _ l0_0 a1 t156 _ ?side1 ?side2 A3.out).mono ?_); (case side1 => repeat (first | exact (Kd.zA HR0_0.out HB.out) | (with_reducible refine Kd.qS ?_ _) | (with_reducible refine Kd.qT ?_ _) | (with_reducible refine Kd.qU ?_))); (case side2 => exact HC0_0.out); rintro e w' ⟨rfl, ⟨nd, rfl⟩⟩; refine ⟨_, rfl, ?_⟩) | ((with_reducible refine gate_callee (f := 160) rfl ?_); refine qW (some 14) rfl rfl Tryd.func160 (by kernel_rfl) rfl #[.slice A0_1 l0_1.length c0_1, .int .i64 t156] rfl (by (try simp only [List.map_toArray, List.map_cons, List.map_nil]); first | done | rfl) ?_; (with_reducible refine (laws_szInt64S.calls _ _ l0_1 t156 t157 _ ?side1 ?side2 A7.out).mono ?_); (case side1 => repeat (first | exact (Kd.zA HR0_1.out (by repeat (first | (with_reducible first | exact HB.out | apply qA | apply qB | apply qC | refine qD ?_ GE155.out) | exact HB.out))) | (with_reducible refine Kd.qS ?_ _) | (with_reducible refine Kd.qT ?_ _) | (with_reducible refine Kd.qU ?_))); (case side2 => exact HC0_1.out); rintro e w' ⟨rfl, ⟨nd, rfl⟩⟩; refine ⟨_, rfl, ?_⟩))
   go_ret
   exact ⟨by first | rfl | (simp [zS, zR] <;> rfl) | (simp [*, zS, zR] <;> rfl), by repeat (first | (with_reducible first | exact HB.out | apply qA | apply qB | apply qC | refine qD ?_ GE155.out) | exact HB.out)⟩

def laws_szArray.f (a0_0 : Int) (l0_1 : List Int) (l0_2 : List Int) (a0_3 : Int) (a1 : Int) : Option (Int) := (laws_szView.f l0_1 l0_2 a0_3 a1).bind fun t159 => (if t159 < 0 then (some (-1)) else (some t159))
set_option maxHeartbeats 8000000 in
set_option maxRecDepth 100000 in
theorem laws_szArray.calls (a0_0 : Int) (A0_1 : Option Addr) (c0_1 : Nat) (l0_1 : List Int) (A0_2 : Option Addr) (c0_2 : Nat) (l0_2 : List Int) (a0_3 : Int) (a1 : Int) (r : Int) (w : World) (hr0_1 : Kd.C (Kd.int .i64) w A0_1 l0_1.length l0_1) (hc0_1 : l0_1.length ≤ c0_1) (hr0_2 : Kd.C (Kd.int .i64) w A0_2 l0_2.length l0_2) (hc0_2 : l0_2.length ≤ c0_2) (h : laws_szArray.f a0_0 l0_1 l0_2 a0_3 a1 = some r) :
  Calls Tryd.prog 35 #[.agg #[.int .i64 a0_0, .slice A0_1 l0_1.length c0_1, .slice A0_2 l0_2.length c0_2, .int .i64 a0_3], .int .i64 a1] w fun e w' => e = .returned (.int .i64 r) ∧ Below w.heap.size w w' := by
 have hu61 := Tryd.underlying61
 have hu59 := Tryd.underlying59
 have HR0_1 := qV.mk hr0_1
 have HC0_1 := qV.mk hc0_1
 clear hr0_1 hc0_1
 have HR0_2 := qV.mk hr0_2
 have HC0_2 := qV.mk hc0_2
 clear hr0_2 hc0_2
 have HB := qV.mk (Below.refl w.heap.size w)
 have H : ((laws_szView.f l0_1 l0_2 a0_3 a1).bind fun t159 => (if t159 < 0 then (some (-1)) else (some t159))) = some r := h
 clear h
 replace H := Option.bind_eq_some_iff.mp H
 obtain ⟨t159, A30, H⟩ := H
 try dsimp only at H
 have A3 := qV.mk A30
 clear A30
 by_cases c4 : t159 < 0
 ·rw [if_pos c4] at H
  have c4b0 : decide (t159 < 0) = true := decide_eq_true c4
  clear c4
  obtain rfl := Option.some.inj H
  go_enter Tryd.func35, Tryd.ntmps35
  go_wp2_with (first | ((with_reducible refine gate_dst (N := 2) rfl ?_); refine qX ?hg (N := 2) ?hd (cs := #[.int .i64 a0_0, .slice A0_1 l0_1.length c0_1, .slice A0_2 l0_2.length c0_2, .int .i64 a0_3]) (t := 61) ?hr ?_; (case hd => rfl); (case hg => rfl); (case hr => first | (go_simp; done) | (go_simp; rfl)); intro gb158 hg w5 hbox hb; have n0_ := qV.mk (qE (by repeat (first | (with_reducible first | exact HB.out | apply qA | apply qB | apply qC) | exact HB.out)) hb); have n1_ := qV.mk (hbox); have n2_ := qV.mk ((by rw [hg]; exact (qF (by repeat (first | (with_reducible first | exact HB.out | apply qA | apply qB | apply qC) | exact HB.out))) : w.heap.size ≤ gb158)); have n3_ := qV.mk ((by rw [hg]; exact (qF (by repeat (first | (with_reducible first | exact HB.out | apply qA | apply qB | apply qC) | exact HB.out))) : w.heap.size ≤ gb158)); clear HB; have HB := n0_; have BK158 := n1_; have GW158 := n2_; have GE158 := n3_; clear n0_ n1_ n2_ n3_ hb hbox hg; have hcz6_0 : w5.cell? ⟨gb158, 0, none⟩ = some (.int .i64 a0_0) := (qJ BK158.out 0).trans rfl; have hcz6_1 : w5.cell? ⟨gb158, 1, none⟩ = some (.slice A0_1 l0_1.length c0_1) := (qJ BK158.out 1).trans rfl; have hcz6_2 : w5.cell? ⟨gb158, 2, none⟩ = some (.slice A0_2 l0_2.length c0_2) := (qJ BK158.out 2).trans rfl; have hcz6_3 : w5.cell? ⟨gb158, 3, none⟩ = some (.int .i64 a0_3) := (qJ BK158.out 3).trans rfl; have hfz6_0 := qK BK158.out 0; have hfz6_1 := qK BK158.out 1; have hfz6_2 := qK BK158.out 2; have hfz6_3 := qK BK158.out 3) | ((with_reducible refine gate_callee (f := 102) rfl ?_); refine qW (some 8) rfl rfl Tryd.func102 (by kernel_rfl) rfl #[.agg #[.slice A0_1 l0_1.length c0_1, .slice A0_2 l0_2.length c0_2, .int .i64 a0_3], .int .i64 a1] rfl (by (try simp only [List.map_toArray, List.map_cons, List.map_nil]); first | done | rfl) ?_; (with_reducible refine (laws_szView.calls _ _ l0_1 _ _ l0_2 a0_3 a1 t159 _ ?side1 ?side2 ?side3 ?side4 A3.out).mono ?_); (case side1 => repeat (first | exact (Kd.zA HR0_1.out HB.out) | (with_reducible refine Kd.qS ?_ _) | (with_reducible refine Kd.qT ?_ _) | (with_reducible refine Kd.qU ?_))); (case side2 => exact HC0_1.out); (case side3 => repeat (first | exact (Kd.zA HR0_2.out HB.out) | (with_reducible refine Kd.qS ?_ _) | (with_reducible refine Kd.qT ?_ _) | (with_reducible refine Kd.qU ?_))); (case side4 => exact HC0_2.out); rintro e w7 ⟨rfl, hb⟩; refine ⟨_, rfl, ?_⟩; have n0_ := qV.mk (qL (g := gb158) (o := .cells #[.int .i64 a0_0, .slice A0_1 l0_1.length c0_1, .slice A0_2 l0_2.length c0_2, .int .i64 a0_3] 61 (0, 0)) (by (with_reducible repeat (first | refine qH ?_ _ | refine qI ?_ | refine qG ?_ _)); exact BK158.out) hb); have n1_ := qV.mk (qE (by repeat (first | (with_reducible first | exact HB.out | apply qA | apply qB | apply qC | refine qD ?_ GE158.out) | exact HB.out)) hb); clear BK158 HB; have BK158 := n0_; have HB := n1_; clear n0_ n1_; (try clear hb); (try clear hb2); (try clear hk); (try clear hi)))
  go_ret
  exact ⟨by first | rfl | (simp [zS, zR] <;> rfl) | (simp [*, zS, zR] <;> rfl), by repeat (first | (with_reducible first | exact HB.out | apply qA | apply qB | apply qC | refine qD ?_ GE158.out) | exact HB.out)⟩
 ·rw [if_neg c4] at H
  have c4b0 : decide (t159 < 0) = false := decide_eq_false c4
  clear c4
  obtain rfl := Option.some.inj H
  go_enter Tryd.func35, Tryd.ntmps35
  go_wp2_with (first | ((with_reducible refine gate_dst (N := 2) rfl ?_); refine qX ?hg (N := 2) ?hd (cs := #[.int .i64 a0_0, .slice A0_1 l0_1.length c0_1, .slice A0_2 l0_2.length c0_2, .int .i64 a0_3]) (t := 61) ?hr ?_; (case hd => rfl); (case hg => rfl); (case hr => first | (go_simp; done) | (go_simp; rfl)); intro gb158 hg w8 hbox hb; have n0_ := qV.mk (qE (by repeat (first | (with_reducible first | exact HB.out | apply qA | apply qB | apply qC) | exact HB.out)) hb); have n1_ := qV.mk (hbox); have n2_ := qV.mk ((by rw [hg]; exact (qF (by repeat (first | (with_reducible first | exact HB.out | apply qA | apply qB | apply qC) | exact HB.out))) : w.heap.size ≤ gb158)); have n3_ := qV.mk ((by rw [hg]; exact (qF (by repeat (first | (with_reducible first | exact HB.out | apply qA | apply qB | apply qC) | exact HB.out))) : w.heap.size ≤ gb158)); clear HB; have HB := n0_; have BK158 := n1_; have GW158 := n2_; have GE158 := n3_; clear n0_ n1_ n2_ n3_ hb hbox hg; have hcz9_0 : w8.cell? ⟨gb158, 0, none⟩ = some (.int .i64 a0_0) := (qJ BK158.out 0).trans rfl; have hcz9_1 : w8.cell? ⟨gb158, 1, none⟩ = some (.slice A0_1 l0_1.length c0_1) := (qJ BK158.out 1).trans rfl; have hcz9_2 : w8.cell? ⟨gb158, 2, none⟩ = some (.slice A0_2 l0_2.length c0_2) := (qJ BK158.out 2).trans rfl; have hcz9_3 : w8.cell? ⟨gb158, 3, none⟩ = some (.int .i64 a0_3) := (qJ BK158.out 3).trans rfl; have hfz9_0 := qK BK158.out 0; have hfz9_1 := qK BK158.out 1; have hfz9_2 := qK BK158.out 2; have hfz9_3 := qK BK158.out 3) | ((with_reducible refine gate_callee (f := 102) rfl ?_); refine qW (some 8) rfl rfl Tryd.func102 (by kernel_rfl) rfl #[.agg #[.slice A0_1 l0_1.length c0_1, .slice A0_2 l0_2.length c0_2, .int .i64 a0_3], .int .i64 a1] rfl (by (try simp only [List.map_toArray, List.map_cons, List.map_nil]); first | done | rfl) ?_; (with_reducible refine (laws_szView.calls _ _ l0_1 _ _ l0_2 a0_3 a1 t159 _ ?side1 ?side2 ?side3 ?side4 A3.out).mono ?_); (case side1 => repeat (first | exact (Kd.zA HR0_1.out HB.out) | (with_reducible refine Kd.qS ?_ _) | (with_reducible refine Kd.qT ?_ _) | (with_reducible refine Kd.qU ?_))); (case side2 => exact HC0_1.out); (case side3 => repeat (first | exact (Kd.zA HR0_2.out HB.out) | (with_reducible refine Kd.qS ?_ _) | (with_reducible refine Kd.qT ?_ _) | (with_reducible refine Kd.qU ?_))); (case side4 => exact HC0_2.out); rintro e w10 ⟨rfl, hb⟩; refine ⟨_, rfl, ?_⟩; have n0_ := qV.mk (qL (g := gb158) (o := .cells #[.int .i64 a0_0, .slice A0_1 l0_1.length c0_1, .slice A0_2 l0_2.length c0_2, .int .i64 a0_3] 61 (0, 0)) (by (with_reducible repeat (first | refine qH ?_ _ | refine qI ?_ | refine qG ?_ _)); exact BK158.out) hb); have n1_ := qV.mk (qE (by repeat (first | (with_reducible first | exact HB.out | apply qA | apply qB | apply qC | refine qD ?_ GE158.out) | exact HB.out)) hb); clear BK158 HB; have BK158 := n0_; have HB := n1_; clear n0_ n1_; (try clear hb); (try clear hb2); (try clear hk); (try clear hi)))
  go_ret
  exact ⟨by first | rfl | (simp [zS, zR] <;> rfl) | (simp [*, zS, zR] <;> rfl), by repeat (first | (with_reducible first | exact HB.out | apply qA | apply qB | apply qC | refine qD ?_ GE158.out) | exact HB.out)⟩

def jK.l0 : Nat → List Int → List Int → Int → Option (List Int)
 | 0, _, _, _ => none
 | k + 1, x0, x3, x4 => if x4 < (x0.length : Int) then (if 0 ≤ x4 then (if x4 < (x3.length : Int) then (jK.l0 k x0 (x3.set (x4 : Int).toNat (rd x0 x4)) (wrap64 (x4 + 1))) else (none)) else (none)) else (some x3)
def jK.f (k : Nat) (l0 : List Int) : Option (List Int) := if 0 ≤ (l0.length : Int) then (if ((l0.length : Int) : Int).toNat ≤ 35184372088832 then (jK.l0 k l0 (List.replicate ((l0.length : Int) : Int).toNat 0) 0) else (none)) else (none)
theorem jK.mono_l : ∀ k, (∀ y0 y1 y2, LeO (jK.l0 k y0 y1 y2) (jK.l0 (k + 1) y0 y1 y2))
 | 0 => fun _ _ _ r h => by simp [jK.l0] at h
 | k + 1 => by
  have ih0 := jK.mono_l k
  ·intro y0 y1 y2
   unfold jK.l0
   repeat' first
   | (with_reducible exact ih0 _ _ _)
   | (with_reducible exact LeO.refl _)
   | (with_reducible exact LeO.none _)
   | (with_reducible refine LeO.ite ?_ ?_)
   | (with_reducible refine LeO.bind ?_ (fun _ => ?_))
   | exact ih0 _ _ _
   | exact LeO.none _
   | refine LeO.ite ?_ ?_
   | refine LeO.bind ?_ (fun _ => ?_)
theorem jK.mono : ∀ a0 k, LeO (jK.f k a0) (jK.f (k + 1) a0) := by
 intro a0 k
 have ih0 := jK.mono_l k
 unfold jK.f
 repeat' first
   | (with_reducible exact ih0 _ _ _)
   | (with_reducible exact LeO.refl _)
   | (with_reducible exact LeO.none _)
   | (with_reducible refine LeO.ite ?_ ?_)
   | (with_reducible refine LeO.bind ?_ (fun _ => ?_))
   | exact ih0 _ _ _
   | exact LeO.none _
   | refine LeO.ite ?_ ?_
   | refine LeO.bind ?_ (fun _ => ?_)
set_option maxHeartbeats 8000000 in
set_option maxRecDepth 100000 in
theorem jK.calls (k : Nat) (A0 : Option Addr) (c0 : Nat) (l0 : List Int) (r : List Int) (w : World) (hr0 : Kd.C (Kd.int .i64) w A0 l0.length l0) (hc0 : l0.length ≤ c0) (h : jK.f k l0 = some r) :
  Calls Tryd.prog 161 #[.slice A0 l0.length c0] w fun e w' => ∃ v0_ : Value, e = .returned (v0_) ∧ Kd.R (Kd.int .i64) 2 w' w.heap.size (fun _ => True) v0_ r ∧ Below w.heap.size w w' := by
 have HR0 := qV.mk hr0
 have HC0 := qV.mk hc0
 clear hr0 hc0
 have HB := qV.mk (Below.refl w.heap.size w)
 have H : (if 0 ≤ (l0.length : Int) then (if ((l0.length : Int) : Int).toNat ≤ 35184372088832 then (jK.l0 k l0 (List.replicate ((l0.length : Int) : Int).toNat 0) 0) else (none)) else (none)) = some r := h
 clear h
 by_cases c2 : 0 ≤ (l0.length : Int)
 ·rw [if_pos c2] at H
  have c2b0 := eq_true c2
  have c2b1 : decide (0 ≤ (l0.length : Int)) = true := decide_eq_true c2
  clear c2
  by_cases c3 : ((l0.length : Int) : Int).toNat ≤ 35184372088832
  ·rw [if_pos c3] at H
   have c3b0 := eq_true c3
   have c3b1 : decide (((l0.length : Int) : Int).toNat ≤ 35184372088832) = true := decide_eq_true c3
   clear c3
   obtain ⟨y160, hy160⟩ : ∃ y_ : List Int, y_ = (List.replicate ((l0.length : Int) : Int).toNat 0) := ⟨_, rfl⟩
   replace H : (jK.l0 k l0 y160 0) = some r := by first | (rw [hy160]; with_reducible exact H) | (have H2_ := (Option.bind_some _ _).symm.trans H; rw [hy160]; with_reducible exact H2_) | (have H2_ := (Option.bind_some _ _).symm.trans H; with_reducible exact H2_) | with_reducible exact H | (rw [hy160]; exact H) | exact H
   have Ny160 := qV.mk hy160
   clear hy160
   have H' := qV.mk H
   clear H
   go_enter Tryd.func161, Tryd.ntmps161
   go_wp2_with (first | ((with_reducible refine gate_dst (N := 7) rfl ?_); refine Kd.R_make (Kd.int .i64) _ 2 rfl (N := 7) rfl 57 _ _ rfl (l0.length : Int) rfl rfl Tryd.underlying57 (.int .i64 0) 8 info2 rfl (by decide) (by omega) 0 (ok := fun _ => True) (okp := fun _ => True) rfl (fun _ hk => hk) trivial (of_decide_eq_true (by assumption)) (Nat.le_trans (Nat.mul_le_mul_right _ (of_decide_eq_true (by assumption) : (l0.length : Int).toNat ≤ 35184372088832)) (by omega)) (Below.refl _ _) (Nat.le_refl _) ?_; intro v161 w4 ho5 hb hg_ hnew_; clear hg_ hnew_; (first | rw [← Ny160.out] at ho5 | (simp only [Int.reduceToNat] at ho5; rw [← Ny160.out] at ho5)); have n0_ := qV.mk (Kd.R_lower ho5 (qF (by repeat (first | (with_reducible first | exact HB.out | apply qA | apply qB | apply qC) | exact HB.out)))); have n1_ := qV.mk (qE (by repeat (first | (with_reducible first | exact HB.out | apply qA | apply qB | apply qC) | exact HB.out)) hb); clear HB; have HO162 := n0_; have HB := n1_; clear n0_ n1_; clear hb ho5))
   go_loopg [4] k (fun kq v4 w' => ∃ (x3_1 : List Int) (x4_1 : Int), v4 = .int .i64 x4_1 ∧ qV (jK.l0 kq l0 x3_1 x4_1 = some r) ∧ qV (kq ≤ k) ∧ qV (Kd.R (Kd.int .i64) 2 w' w.heap.size (fun _ => True) v161 x3_1) ∧ qV (Below w.heap.size w w'))
   case atStart => exact ⟨(y160), (0), (by first | rfl | (simp; done) | (simp [*]; done)), H', ⟨Nat.le_refl _⟩, ⟨by (with_reducible repeat (first | apply Kd.qM | apply Kd.qN | apply Kd.qO)); exact HO162.out⟩, ⟨by repeat (first | (with_reducible first | exact HB.out | apply qA | apply qB | apply qC) | exact HB.out)⟩⟩
   case round =>
    clear H'
    try clear c1
    try clear c2
    try clear c2b0
    try clear c2b1
    try clear p2
    try clear c3
    try clear c3b0
    try clear c3b1
    obtain ⟨x3_1, x4_1, rfl, HA, HK1, HO_3, HB⟩ := hrel
    cases gk with
    | zero => exact absurd HA.out (by simp [jK.l0])
    | succ k1 =>
     have H := HA.out
     clear HA
     simp only [jK.l0] at H
     by_cases c6 : x4_1 < (l0.length : Int)
     ·rw [if_pos c6] at H
      have c6b0 : decide (x4_1 < (l0.length : Int)) = true := decide_eq_true c6
      clear c6
      by_cases c7 : 0 ≤ x4_1
      ·rw [if_pos c7] at H
       have c7b0 : decide (0 ≤ x4_1) = true := decide_eq_true c7
       clear c7
       by_cases c8 : x4_1 < (x3_1.length : Int)
       ·rw [if_pos c8] at H
        have c8b0 : decide (x4_1 < (x3_1.length : Int)) = true := decide_eq_true c8
        clear c8
        obtain ⟨y164, hy164⟩ : ∃ y_ : List Int, y_ = (x3_1.set (x4_1 : Int).toNat (rd l0 x4_1)) := ⟨_, rfl⟩
        replace H : (jK.l0 k1 l0 y164 (wrap64 (x4_1 + 1))) = some r := by first | (rw [hy164]; with_reducible exact H) | (have H2_ := (Option.bind_some _ _).symm.trans H; rw [hy164]; with_reducible exact H2_) | (have H2_ := (Option.bind_some _ _).symm.trans H; with_reducible exact H2_) | with_reducible exact H | (rw [hy164]; exact H) | exact H
        have Ny164 := qV.mk hy164
        clear hy164
        have H' := qV.mk H
        clear H
        have p163 : 0 ≤ (x4_1 : Int) := of_decide_eq_true (by assumption)
        have q163 : x4_1 < (l0.length : Int) := of_decide_eq_true (by assumption)
        obtain ⟨ad163, e163, hx163_0⟩ := Kd.at_int HR0.out x4_1 p163 q163
        cases e163
        replace hx163_0 := (HB.out.cell (World.block_lt_of_cell? w _ hx163_0)).trans hx163_0
        replace p163 := eq_true p163
        replace q163 := eq_true q163
        have p9 : 0 ≤ (x4_1 : Int) := of_decide_eq_true (by assumption)
        have q9 : (x4_1 : Int) < ((x3_1.length : Int) : Int) := of_decide_eq_true (by assumption)
        obtain ⟨go9, co9, eo9, gb9, gl9, cl9, HG9⟩ := Kd.R_form HO_3.out (by omega)
        (first | cases eo9 | (injection eo9 with ea_ en_ ec_; (first | subst ea_ | (injection ea_ with ea_; subst ea_)); subst ec_; clear en_))
        have GB9 := qV.mk gb9
        have GG9 := qV.mk HG9
        clear gb9 gl9 HG9
        obtain ⟨hx9_0, hf9_0⟩ := Kd.R_celln 0 HO_3.out (x4_1 : Int) p9 q9
        replace p9 := eq_true p9
        replace q9 := eq_true q9
        have HP10 := Kd.R_putg HO_3.out (x4_1 : Int) (rd l0 x4_1)
        go_wp2_with (first | ((with_reducible refine gate_store (t := 2) (p := 20) rfl ?_); refine zJ (t := 2) (p := 20) (v := ?vo_w11) (w1 := (wr.setCell ⟨go9, (x4_1 : Int).toNat, none⟩ (.int .i64 (rd l0 x4_1)))) ?hg ?ho ?hn ?hr ?_; (case ho => rfl); (case hg => rfl); (case hn => rfl); (case hr => first | (go_simp; done) | (go_simp; rfl)); intro w11 hw; have hg : wr.grownBy w11 (some go9) := (by rw [hw]; exact HP10.2); have hp_ : Kd.R (Kd.int .i64) 2 w11 w.heap.size (fun _ => True) (.slice (some ⟨go9, 0, none⟩) x3_1.length co9) y164 := (by rw [hw, Ny164.out]; exact HP10.1); clear HP10; have n0_ := qV.mk (hp_); have n1_ := qV.mk ((by rw [hw]; exact qD (HB.out) GB9.out : Below w.heap.size w w11)); clear HO_3 HB; have HO_3 := n0_; have HB := n1_; clear n0_ n1_; clear hg hw hp_))
        go_roundg k1
        case measure => have := HK1.out; omega
        case rel => exact ⟨(y164), (wrap64 (x4_1 + 1)), (by first | rfl | (simp; done) | (simp [*]; done)), H', ⟨by have := HK1.out; omega⟩, ⟨by (with_reducible repeat (first | apply Kd.qM | apply Kd.qN | apply Kd.qO)); exact HO_3.out⟩, ⟨by repeat (first | (with_reducible first | exact HB.out | apply qA | apply qB | apply qC) | exact HB.out)⟩⟩
       ·rw [if_neg c8] at H
        exact absurd H (by simp)
      ·rw [if_neg c7] at H
       exact absurd H (by simp)
     ·rw [if_neg c6] at H
      have c6b0 : decide (x4_1 < (l0.length : Int)) = false := decide_eq_false c6
      clear c6
      obtain rfl := Option.some.inj H
      go_wp2
      go_ret
      exact ⟨_, by first | rfl | (simp [zS, zR] <;> rfl) | (simp [*, zS, zR] <;> rfl), by (with_reducible repeat (first | apply Kd.qM | apply Kd.qN | apply Kd.qO)); exact HO_3.out, by repeat (first | (with_reducible first | exact HB.out | apply qA | apply qB | apply qC) | exact HB.out)⟩
  ·rw [if_neg c3] at H
   exact absurd H (by simp)
 ·rw [if_neg c2] at H
  exact absurd H (by simp)

def laws_toView.f (k : Nat) (l0_0 : List Int) (l0_1 : List Int) (a0_2 : Int) : Option (List Int × List Int × Int) := (jK.f k l0_0).bind fun t168 => ((jK.f k l0_1).bind fun t171 => (some (t168, t171, a0_2)))
theorem laws_toView.mono : ∀ a0 a1 a2 k, LeO (laws_toView.f k a0 a1 a2) (laws_toView.f (k + 1) a0 a1 a2) := by
 intro a0 a1 a2 k
 unfold laws_toView.f
 repeat' first
   | (with_reducible exact jK.mono _ _)
   | (with_reducible exact LeO.refl _)
   | (with_reducible exact LeO.none _)
   | (with_reducible refine LeO.ite ?_ ?_)
   | (with_reducible refine LeO.bind ?_ (fun _ => ?_))
   | exact jK.mono _ _
   | exact LeO.none _
   | refine LeO.ite ?_ ?_
   | refine LeO.bind ?_ (fun _ => ?_)
set_option maxHeartbeats 8000000 in
set_option maxRecDepth 100000 in
theorem laws_toView.calls (k : Nat) (A0_0 : Option Addr) (c0_0 : Nat) (l0_0 : List Int) (A0_1 : Option Addr) (c0_1 : Nat) (l0_1 : List Int) (a0_2 : Int) (r1 : List Int) (r2 : List Int) (r3 : Int) (w : World) (hr0_0 : Kd.C (Kd.int .i64) w A0_0 l0_0.length l0_0) (hc0_0 : l0_0.length ≤ c0_0) (hr0_1 : Kd.C (Kd.int .i64) w A0_1 l0_1.length l0_1) (hc0_1 : l0_1.length ≤ c0_1) (h : laws_toView.f k l0_0 l0_1 a0_2 = some (r1, r2, r3)) :
  Calls Tryd.prog 104 #[.agg #[.slice A0_0 l0_0.length c0_0, .slice A0_1 l0_1.length c0_1, .int .i64 a0_2]] w fun e w' => ∃ v0_ v1_ : Value, e = .returned (.agg #[v0_, v1_, .int .i64 r3]) ∧ Kd.R (Kd.int .i64) 2 w' w.heap.size (fun k_ => some k_ ≠ (v1_ : Value).ownBlock) v0_ r1 ∧ Kd.R (Kd.int .i64) 2 w' w.heap.size (fun k_ => some k_ ≠ (v0_ : Value).ownBlock) v1_ r2 ∧ Below w.heap.size w w' := by
 have hu59 := Tryd.underlying59
 have hu64 := Tryd.underlying64
 have HR0_0 := qV.mk hr0_0
 have HC0_0 := qV.mk hc0_0
 clear hr0_0 hc0_0
 have HR0_1 := qV.mk hr0_1
 have HC0_1 := qV.mk hc0_1
 clear hr0_1 hc0_1
 have HB := qV.mk (Below.refl w.heap.size w)
 have H : ((jK.f k l0_0).bind fun t168 => ((jK.f k l0_1).bind fun t171 => (some (t168, t171, a0_2)))) = some (r1, r2, r3) := h
 clear h
 replace H := Option.bind_eq_some_iff.mp H
 obtain ⟨t168, A20, H⟩ := H
 try dsimp only at H
 have A2 := qV.mk A20
 clear A20
 replace H := Option.bind_eq_some_iff.mp H
 obtain ⟨t171, A30, H⟩ := H
 try dsimp only at H
 have A3 := qV.mk A30
 clear A30
 simp only [Option.some.injEq, Prod.mk.injEq] at H
 obtain ⟨rfl, rfl, rfl⟩ := H
 go_enter Tryd.func104, Tryd.ntmps104
 go_wp2_with (first | ((with_reducible refine gate_dst (N := 1) rfl ?_); refine qX ?hg (N := 1) ?hd (cs := #[.slice A0_0 l0_0.length c0_0, .slice A0_1 l0_1.length c0_1, .int .i64 a0_2]) (t := 59) ?hr ?_; (case hd => rfl); (case hg => rfl); (case hr => first | (go_simp; done) | (go_simp; rfl)); intro gb165 hg w4 hbox hb; have n0_ := qV.mk (qE (by repeat (first | (with_reducible first | exact HB.out | apply qA | apply qB | apply qC) | exact HB.out)) hb); have n1_ := qV.mk (hbox); have n2_ := qV.mk ((by rw [hg]; exact (qF (by repeat (first | (with_reducible first | exact HB.out | apply qA | apply qB | apply qC) | exact HB.out))) : w.heap.size ≤ gb165)); have n3_ := qV.mk ((by rw [hg]; exact (qF (by repeat (first | (with_reducible first | exact HB.out | apply qA | apply qB | apply qC) | exact HB.out))) : w.heap.size ≤ gb165)); clear HB; have HB := n0_; have BK165 := n1_; have GW165 := n2_; have GE165 := n3_; clear n0_ n1_ n2_ n3_; clear hb hbox hg) | ((with_reducible refine gate_dst (N := 2) rfl ?_); refine qX ?hg (N := 2) ?hd (cs := #[.slice none 0 0, .slice none 0 0, .int .i64 0]) (t := 64) ?hr ?_; (case hd => rfl); (case hg => rfl); (case hr => first | (go_simp; done) | (go_simp; rfl)); intro gb166 hg w5 hbox hb; have n0_ := qV.mk (qL (g := gb165) (o := .cells #[.slice A0_0 l0_0.length c0_0, .slice A0_1 l0_1.length c0_1, .int .i64 a0_2] 59 (0, 0)) (by (with_reducible repeat (first | refine qH ?_ _ | refine qI ?_ | refine qG ?_ _)); exact BK165.out) hb); have n1_ := qV.mk (qE (by repeat (first | (with_reducible first | exact HB.out | apply qA | apply qB | apply qC | refine qD ?_ GE165.out) | exact HB.out)) hb); have n2_ := qV.mk (hbox); have n3_ := qV.mk ((by rw [hg]; exact (qF (by repeat (first | (with_reducible first | exact HB.out | apply qA | apply qB | apply qC | refine qD ?_ GE165.out) | exact HB.out))) : w.heap.size ≤ gb166)); have n4_ := qV.mk ((by rw [hg]; exact (qF (by repeat (first | (with_reducible first | exact HB.out | apply qA | apply qB | apply qC | refine qD ?_ GE165.out) | exact HB.out))) : w.heap.size ≤ gb166)); have n5_ := qV.mk ((by rw [hg]; exact Nat.ne_of_lt (jR (g := gb165) (o := .cells #[.slice A0_0 l0_0.length c0_0, .slice A0_1 l0_1.length c0_1, .int .i64 a0_2] 59 (0, 0)) (by (with_reducible repeat (first | refine qH ?_ _ | refine qI ?_ | refine qG ?_ _)); exact BK165.out)) : gb165 ≠ gb166)); have n6_ := qV.mk ((by rw [hg]; exact Nat.ne_of_gt (jR (g := gb165) (o := .cells #[.slice A0_0 l0_0.length c0_0, .slice A0_1 l0_1.length c0_1, .int .i64 a0_2] 59 (0, 0)) (by (with_reducible repeat (first | refine qH ?_ _ | refine qI ?_ | refine qG ?_ _)); exact BK165.out)) : gb166 ≠ gb165)); clear BK165 HB; have BK165 := n0_; have HB := n1_; have BK166 := n2_; have GW166 := n3_; have GE166 := n4_; have NB165_166 := n5_; have NB166_165 := n6_; clear n0_ n1_ n2_ n3_ n4_ n5_ n6_; clear hb hbox hg) | ((with_reducible refine gate_dst (N := 3) rfl ?_); refine qX ?hg (N := 3) ?hd (cs := #[.slice none 0 0, .slice none 0 0, .int .i64 0]) (t := 64) ?hr ?_; (case hd => rfl); (case hg => rfl); (case hr => first | (go_simp; done) | (go_simp; rfl)); intro gb167 hg w6 hbox hb; have n0_ := qV.mk (qL (g := gb165) (o := .cells #[.slice A0_0 l0_0.length c0_0, .slice A0_1 l0_1.length c0_1, .int .i64 a0_2] 59 (0, 0)) (by (with_reducible repeat (first | refine qH ?_ _ | refine qI ?_ | refine qG ?_ _)); exact BK165.out) hb); have n1_ := qV.mk (qL (g := gb166) (o := .cells #[.slice none 0 0, .slice none 0 0, .int .i64 0] 64 (0, 0)) (by (with_reducible repeat (first | refine qH ?_ _ | refine qI ?_ | refine qG ?_ _)); exact BK166.out) hb); have n2_ := qV.mk (qE (by repeat (first | (with_reducible first | exact HB.out | apply qA | apply qB | apply qC | refine qD ?_ GE165.out | refine qD ?_ GE166.out) | exact HB.out)) hb); have n3_ := qV.mk (hbox); have n4_ := qV.mk ((by rw [hg]; exact (qF (by repeat (first | (with_reducible first | exact HB.out | apply qA | apply qB | apply qC | refine qD ?_ GE165.out | refine qD ?_ GE166.out) | exact HB.out))) : w.heap.size ≤ gb167)); have n5_ := qV.mk ((by rw [hg]; exact (qF (by repeat (first | (with_reducible first | exact HB.out | apply qA | apply qB | apply qC | refine qD ?_ GE165.out | refine qD ?_ GE166.out) | exact HB.out))) : w.heap.size ≤ gb167)); have n6_ := qV.mk ((by rw [hg]; exact Nat.ne_of_lt (jR (g := gb165) (o := .cells #[.slice A0_0 l0_0.length c0_0, .slice A0_1 l0_1.length c0_1, .int .i64 a0_2] 59 (0, 0)) (by (with_reducible repeat (first | refine qH ?_ _ | refine qI ?_ | refine qG ?_ _)); exact BK165.out)) : gb165 ≠ gb167)); have n7_ := qV.mk ((by rw [hg]; exact Nat.ne_of_gt (jR (g := gb165) (o := .cells #[.slice A0_0 l0_0.length c0_0, .slice A0_1 l0_1.length c0_1, .int .i64 a0_2] 59 (0, 0)) (by (with_reducible repeat (first | refine qH ?_ _ | refine qI ?_ | refine qG ?_ _)); exact BK165.out)) : gb167 ≠ gb165)); have n8_ := qV.mk ((by rw [hg]; exact Nat.ne_of_lt (jR (g := gb166) (o := .cells #[.slice none 0 0, .slice none 0 0, .int .i64 0] 64 (0, 0)) (by (with_reducible repeat (first | refine qH ?_ _ | refine qI ?_ | refine qG ?_ _)); exact BK166.out)) : gb166 ≠ gb167)); have n9_ := qV.mk ((by rw [hg]; exact Nat.ne_of_gt (jR (g := gb166) (o := .cells #[.slice none 0 0, .slice none 0 0, .int .i64 0] 64 (0, 0)) (by (with_reducible repeat (first | refine qH ?_ _ | refine qI ?_ | refine qG ?_ _)); exact BK166.out)) : gb167 ≠ gb166)); clear BK165 BK166 HB; have BK165 := n0_; have BK166 := n1_; have HB := n2_; have BK167 := n3_; have GW167 := n4_; have GE167 := n5_; have NB165_167 := n6_; have NB167_165 := n7_; have NB166_167 := n8_; have NB167_166 := n9_; clear n0_ n1_ n2_ n3_ n4_ n5_ n6_ n7_ n8_ n9_ hb hbox hg; have hnb7 := NB165_166.out; have hnc7 := NB166_165.out; have hnb8 := NB165_167.out; have hnc8 := NB167_165.out; have hcz9_0 : w6.cell? ⟨gb165, 0, none⟩ = some (.slice A0_0 l0_0.length c0_0) := (qJ BK165.out 0).trans rfl; have hcz9_1 : w6.cell? ⟨gb165, 1, none⟩ = some (.slice A0_1 l0_1.length c0_1) := (qJ BK165.out 1).trans rfl; have hcz9_2 : w6.cell? ⟨gb165, 2, none⟩ = some (.int .i64 a0_2) := (qJ BK165.out 2).trans rfl; have hfz9_0 := qK BK165.out 0; have hfz9_1 := qK BK165.out 1; have hfz9_2 := qK BK165.out 2) | ((with_reducible refine gate_callee (f := 161) rfl ?_); refine qW (some 6) rfl rfl Tryd.func161 (by kernel_rfl) rfl #[.slice A0_0 l0_0.length c0_0] rfl (by (try simp only [List.map_toArray, List.map_cons, List.map_nil]); first | done | rfl) ?_; (with_reducible refine (jK.calls k _ _ l0_0 t168 _ ?side1 ?side2 A2.out).mono ?_); (case side1 => repeat (first | exact (Kd.zA HR0_0.out HB.out) | (with_reducible refine Kd.qS ?_ _) | (with_reducible refine Kd.qT ?_ _) | (with_reducible refine Kd.qU ?_))); (case side2 => exact HC0_0.out); rintro e w10 ⟨v169, rfl, ho0, hb⟩; refine ⟨_, rfl, ?_⟩; have n0_ := qV.mk (Kd.R_lower ho0 (qF (by repeat (first | (with_reducible first | exact HB.out | apply qA | apply qB | apply qC | refine qD ?_ GE165.out | refine qD ?_ GE166.out | refine qD ?_ GE167.out) | exact HB.out)))); have n1_ := qV.mk (qL (g := gb165) (o := .cells #[.slice A0_0 l0_0.length c0_0, .slice A0_1 l0_1.length c0_1, .int .i64 a0_2] 59 (0, 0)) (by (with_reducible repeat (first | refine qH ?_ _ | refine qI ?_ | refine qG ?_ _)); exact BK165.out) hb); have n2_ := qV.mk (qL (g := gb166) (o := .cells #[.slice none 0 0, .slice none 0 0, .int .i64 0] 64 (0, 0)) (by (with_reducible repeat (first | refine qH ?_ _ | refine qI ?_ | refine qG ?_ _)); exact BK166.out) hb); have n3_ := qV.mk (qL (g := gb167) (o := .cells #[.slice none 0 0, .slice none 0 0, .int .i64 0] 64 (0, 0)) (by (with_reducible repeat (first | refine qH ?_ _ | refine qI ?_ | refine qG ?_ _)); exact BK167.out) hb); have n4_ := qV.mk (qE (by repeat (first | (with_reducible first | exact HB.out | apply qA | apply qB | apply qC | refine qD ?_ GE165.out | refine qD ?_ GE166.out | refine qD ?_ GE167.out) | exact HB.out)) hb); clear BK165 BK166 BK167 HB; have HO170 := n0_; have BK165 := n1_; have BK166 := n2_; have BK167 := n3_; have HB := n4_; clear n0_ n1_ n2_ n3_ n4_; (try clear hb); (try clear hb2); (try clear hk); (try clear hi); (try clear ho0); obtain ⟨Ao11, co11, eo11⟩ := Kd.zB HO170.out; subst eo11; have hnb12 := NB167_166.out; have hnc12 := NB166_167.out; have hcz13_0 : w10.cell? ⟨gb167, 0, none⟩ = some (.slice none 0 0) := (qJ BK167.out 0).trans rfl; have hcz13_1 : w10.cell? ⟨gb167, 1, none⟩ = some (.slice none 0 0) := (qJ BK167.out 1).trans rfl; have hcz13_2 : w10.cell? ⟨gb167, 2, none⟩ = some (.int .i64 0) := (qJ BK167.out 2).trans rfl; have hfz13_0 := qK BK167.out 0; have hfz13_1 := qK BK167.out 1; have hfz13_2 := qK BK167.out 2; have hcz14_0 : w10.cell? ⟨gb165, 0, none⟩ = some (.slice A0_0 l0_0.length c0_0) := (qJ BK165.out 0).trans rfl; have hcz14_1 : w10.cell? ⟨gb165, 1, none⟩ = some (.slice A0_1 l0_1.length c0_1) := (qJ BK165.out 1).trans rfl; have hcz14_2 : w10.cell? ⟨gb165, 2, none⟩ = some (.int .i64 a0_2) := (qJ BK165.out 2).trans rfl; have hfz14_0 := qK BK165.out 0; have hfz14_1 := qK BK165.out 1; have hfz14_2 := qK BK165.out 2) | ((with_reducible refine gate_callee (f := 161) rfl ?_); refine qW (some 10) rfl rfl Tryd.func161 (by kernel_rfl) rfl #[.slice A0_1 l0_1.length c0_1] rfl (by (try simp only [List.map_toArray, List.map_cons, List.map_nil]); first | done | rfl) ?_; (with_reducible refine (jK.calls k _ _ l0_1 t171 _ ?side1 ?side2 A3.out).mono ?_); (case side1 => exact Kd.zA HR0_1.out (by repeat (first | (with_reducible first | exact HB.out | apply qA | apply qB | apply qC | refine qD ?_ GE165.out | refine qD ?_ GE166.out | refine qD ?_ GE167.out) | exact HB.out))); (case side2 => exact HC0_1.out); rintro e w15 ⟨v172, rfl, ho0, hb⟩; refine ⟨_, rfl, ?_⟩; have n0_ := qV.mk (Kd.R_elder' (by (with_reducible repeat (first | apply Kd.qM | apply Kd.qN | apply Kd.qO)); exact (Kd.zG (Kd.R_far (p := ⟨gb167, 0, none⟩) (Kd.R_types HO170.out BK167.out (by decide)) (fun _ hk => hk.2) (.slice Ao11 t168.length co11)) (fun _ h_ => h_.1))) (Kd.R_base ho0) hb); have n1_ := qV.mk (Kd.R_lower (Kd.R_new' ho0 (Kd.R_lt (by (with_reducible repeat (first | apply Kd.qM | apply Kd.qN | apply Kd.qO)); exact (Kd.zG (Kd.R_far (p := ⟨gb167, 0, none⟩) (Kd.R_types HO170.out BK167.out (by decide)) (fun _ hk => hk.2) (.slice Ao11 t168.length co11)) (fun _ h_ => h_.1))))) (qF (by repeat (first | (with_reducible first | exact HB.out | apply qA | apply qB | apply qC | refine qD ?_ GE165.out | refine qD ?_ GE166.out | refine qD ?_ GE167.out) | exact HB.out)))); have n2_ := qV.mk (qL (g := gb165) (o := .cells #[.slice A0_0 l0_0.length c0_0, .slice A0_1 l0_1.length c0_1, .int .i64 a0_2] 59 (0, 0)) (by (with_reducible repeat (first | refine qH ?_ _ | refine qI ?_ | refine qG ?_ _)); refine jO ?_ NB165_167.out _; (with_reducible repeat (first | refine qH ?_ _ | refine qI ?_ | refine qG ?_ _)); exact BK165.out) hb); have n3_ := qV.mk (qL (g := gb166) (o := .cells #[.slice none 0 0, .slice none 0 0, .int .i64 0] 64 (0, 0)) (by (with_reducible repeat (first | refine qH ?_ _ | refine qI ?_ | refine qG ?_ _)); refine jO ?_ NB166_167.out _; (with_reducible repeat (first | refine qH ?_ _ | refine qI ?_ | refine qG ?_ _)); exact BK166.out) hb); have n4_ := qV.mk (qL (g := gb167) (o := .cells #[.slice Ao11 t168.length co11, .slice none 0 0, .int .i64 0] 64 (0, 0)) (by (with_reducible repeat (first | refine qH ?_ _ | refine qI ?_ | refine qG ?_ _)); refine jQ (cs := #[.slice none 0 0, .slice none 0 0, .int .i64 0]) ?_ 0 _ rfl; (with_reducible repeat (first | refine qH ?_ _ | refine qI ?_ | refine qG ?_ _)); exact BK167.out) hb); have n5_ := qV.mk (qE (by repeat (first | (with_reducible first | exact HB.out | apply qA | apply qB | apply qC | refine qD ?_ GE165.out | refine qD ?_ GE166.out | refine qD ?_ GE167.out) | exact HB.out)) hb); clear HO170 BK165 BK166 BK167 HB; have HO170 := n0_; have HO173 := n1_; have BK165 := n2_; have BK166 := n3_; have BK167 := n4_; have HB := n5_; clear n0_ n1_ n2_ n3_ n4_ n5_; (try clear hb); (try clear hb2); (try clear hk); (try clear hi); (try clear ho0); obtain ⟨Ao16, co16, eo16⟩ := Kd.zB HO173.out; subst eo16; have hcz17_0 : w15.cell? ⟨gb167, 0, none⟩ = some (.slice Ao11 t168.length co11) := (qJ BK167.out 0).trans rfl; have hcz17_1 : w15.cell? ⟨gb167, 1, none⟩ = some (.slice none 0 0) := (qJ BK167.out 1).trans rfl; have hcz17_2 : w15.cell? ⟨gb167, 2, none⟩ = some (.int .i64 0) := (qJ BK167.out 2).trans rfl; have hfz17_0 := qK BK167.out 0; have hfz17_1 := qK BK167.out 1; have hfz17_2 := qK BK167.out 2; have hcz18_0 : w15.cell? ⟨gb165, 0, none⟩ = some (.slice A0_0 l0_0.length c0_0) := (qJ BK165.out 0).trans rfl; have hcz18_1 : w15.cell? ⟨gb165, 1, none⟩ = some (.slice A0_1 l0_1.length c0_1) := (qJ BK165.out 1).trans rfl; have hcz18_2 : w15.cell? ⟨gb165, 2, none⟩ = some (.int .i64 a0_2) := (qJ BK165.out 2).trans rfl; have hfz18_0 := qK BK165.out 0; have hfz18_1 := qK BK165.out 1; have hfz18_2 := qK BK165.out 2; have hcz19_0 : w15.cell? ⟨gb166, 0, none⟩ = some (.slice none 0 0) := (qJ BK166.out 0).trans rfl; have hcz19_1 : w15.cell? ⟨gb166, 1, none⟩ = some (.slice none 0 0) := (qJ BK166.out 1).trans rfl; have hcz19_2 : w15.cell? ⟨gb166, 2, none⟩ = some (.int .i64 0) := (qJ BK166.out 2).trans rfl; have hfz19_0 := qK BK166.out 0; have hfz19_1 := qK BK166.out 1; have hfz19_2 := qK BK166.out 2))
 refine bodyPost_ret (results_cell_row rfl _ _ gb166 64 #[.slice Ao11 t168.length co11, .slice Ao16 t171.length co16, .int .i64 a0_2] (0, 0) _ rfl (by (with_reducible repeat (first | refine qH ?_ _ | refine qI ?_ | refine qG ?_ _)); refine jQ (cs := #[.slice Ao11 t168.length co11, .slice Ao16 t171.length co16, .int .i64 0]) ?_ 2 _ rfl; (with_reducible repeat (first | refine qH ?_ _ | refine qI ?_ | refine qG ?_ _)); refine jQ (cs := #[.slice Ao11 t168.length co11, .slice none 0 0, .int .i64 0]) ?_ 1 _ rfl; (with_reducible repeat (first | refine qH ?_ _ | refine qI ?_ | refine qG ?_ _)); refine jQ (cs := #[.slice none 0 0, .slice none 0 0, .int .i64 0]) ?_ 0 _ rfl; (with_reducible repeat (first | refine qH ?_ _ | refine qI ?_ | refine qG ?_ _)); refine jO ?_ NB166_167.out _; (with_reducible repeat (first | refine qH ?_ _ | refine qI ?_ | refine qG ?_ _)); refine jO ?_ NB166_167.out _; (with_reducible repeat (first | refine qH ?_ _ | refine qI ?_ | refine qG ?_ _)); exact BK166.out) Tryd.underlying64 rfl (by kernel_rfl)) rfl ?_
 exact ⟨_, _, by first | rfl | (simp [zS, zR] <;> rfl) | (simp [*, zS, zR] <;> rfl), by (with_reducible repeat (first | apply Kd.qM | apply Kd.qN | apply Kd.qO)); exact Kd.zG (Kd.R_far (p := ⟨gb166, 2, none⟩) (Kd.R_far (p := ⟨gb166, 1, none⟩) (Kd.R_far (p := ⟨gb166, 0, none⟩) (Kd.R_far (p := ⟨gb167, 2, none⟩) (Kd.R_far (p := ⟨gb167, 1, none⟩) (Kd.R_types (Kd.R_types HO170.out BK167.out (by decide)) BK166.out (by decide)) (fun _ hk => hk.1.2) (.slice Ao16 t171.length co16)) (fun _ hk => hk.1.2) (.int .i64 a0_2)) (fun _ hk => hk.2) (.slice Ao11 t168.length co11)) (fun _ hk => hk.2) (.slice Ao16 t171.length co16)) (fun _ hk => hk.2) (.int .i64 a0_2)) (fun _ hk => hk.1.1.2), by (with_reducible repeat (first | apply Kd.qM | apply Kd.qN | apply Kd.qO)); exact Kd.zG (Kd.R_far (p := ⟨gb166, 2, none⟩) (Kd.R_far (p := ⟨gb166, 1, none⟩) (Kd.R_far (p := ⟨gb166, 0, none⟩) (Kd.R_far (p := ⟨gb167, 2, none⟩) (Kd.R_far (p := ⟨gb167, 1, none⟩) (Kd.R_types (Kd.R_types HO173.out BK167.out (by decide)) BK166.out (by decide)) (fun _ hk => hk.1.2) (.slice Ao16 t171.length co16)) (fun _ hk => hk.1.2) (.int .i64 a0_2)) (fun _ hk => hk.2) (.slice Ao11 t168.length co11)) (fun _ hk => hk.2) (.slice Ao16 t171.length co16)) (fun _ hk => hk.2) (.int .i64 a0_2)) (fun _ hk => hk.1.1.2), by repeat (first | (with_reducible first | exact HB.out | apply qA | apply qB | apply qC | refine qD ?_ GE165.out | refine qD ?_ GE166.out | refine qD ?_ GE167.out) | exact HB.out)⟩

def laws_toArray.f (k : Nat) (a0_0 : Int) (l0_1 : List Int) (l0_2 : List Int) (a0_3 : Int) : Option (Int × List Int × List Int × Int) := (laws_toView.f k l0_1 l0_2 a0_3).bind fun bt177 => (some (a0_0, bt177.1, bt177.2.1, bt177.2.2))
theorem laws_toArray.mono : ∀ a0 a1 a2 a3 k, LeO (laws_toArray.f k a0 a1 a2 a3) (laws_toArray.f (k + 1) a0 a1 a2 a3) := by
 intro a0 a1 a2 a3 k
 unfold laws_toArray.f
 repeat' first
   | (with_reducible exact laws_toView.mono _ _ _ _)
   | (with_reducible exact LeO.refl _)
   | (with_reducible exact LeO.none _)
   | (with_reducible refine LeO.ite ?_ ?_)
   | (with_reducible refine LeO.bind ?_ (fun _ => ?_))
   | exact laws_toView.mono _ _ _ _
   | exact LeO.none _
   | refine LeO.ite ?_ ?_
   | refine LeO.bind ?_ (fun _ => ?_)
set_option maxHeartbeats 8000000 in
set_option maxRecDepth 100000 in
theorem laws_toArray.calls (k : Nat) (a0_0 : Int) (A0_1 : Option Addr) (c0_1 : Nat) (l0_1 : List Int) (A0_2 : Option Addr) (c0_2 : Nat) (l0_2 : List Int) (a0_3 : Int) (r1 : Int) (r2 : List Int) (r3 : List Int) (r4 : Int) (w : World) (hr0_1 : Kd.C (Kd.int .i64) w A0_1 l0_1.length l0_1) (hc0_1 : l0_1.length ≤ c0_1) (hr0_2 : Kd.C (Kd.int .i64) w A0_2 l0_2.length l0_2) (hc0_2 : l0_2.length ≤ c0_2) (h : laws_toArray.f k a0_0 l0_1 l0_2 a0_3 = some (r1, r2, r3, r4)) :
  Calls Tryd.prog 37 #[.agg #[.int .i64 a0_0, .slice A0_1 l0_1.length c0_1, .slice A0_2 l0_2.length c0_2, .int .i64 a0_3]] w fun e w' => ∃ v1_ v2_ : Value, e = .returned (.agg #[.int .i64 r1, v1_, v2_, .int .i64 r4]) ∧ Kd.R (Kd.int .i64) 2 w' w.heap.size (fun k_ => some k_ ≠ (v2_ : Value).ownBlock) v1_ r2 ∧ Kd.R (Kd.int .i64) 2 w' w.heap.size (fun k_ => some k_ ≠ (v1_ : Value).ownBlock) v2_ r3 ∧ Below w.heap.size w w' := by
 have hu61 := Tryd.underlying61
 have hu66 := Tryd.underlying66
 have hu59 := Tryd.underlying59
 have hu64 := Tryd.underlying64
 have HR0_1 := qV.mk hr0_1
 have HC0_1 := qV.mk hc0_1
 clear hr0_1 hc0_1
 have HR0_2 := qV.mk hr0_2
 have HC0_2 := qV.mk hc0_2
 clear hr0_2 hc0_2
 have HB := qV.mk (Below.refl w.heap.size w)
 have H : ((laws_toView.f k l0_1 l0_2 a0_3).bind fun bt177 => (some (a0_0, bt177.1, bt177.2.1, bt177.2.2))) = some (r1, r2, r3, r4) := h
 clear h
 replace H := Option.bind_eq_some_iff.mp H
 obtain ⟨⟨t177, t180, t183⟩, A20, H⟩ := H
 try dsimp only at H
 have A2 := qV.mk A20
 clear A20
 simp only [Option.some.injEq, Prod.mk.injEq] at H
 obtain ⟨rfl, rfl, rfl, rfl⟩ := H
 go_enter Tryd.func37, Tryd.ntmps37
 go_wp2_with (first | ((with_reducible refine gate_dst (N := 1) rfl ?_); refine qX ?hg (N := 1) ?hd (cs := #[.int .i64 a0_0, .slice A0_1 l0_1.length c0_1, .slice A0_2 l0_2.length c0_2, .int .i64 a0_3]) (t := 61) ?hr ?_; (case hd => rfl); (case hg => rfl); (case hr => first | (go_simp; done) | (go_simp; rfl)); intro gb174 hg w3 hbox hb; have n0_ := qV.mk (qE (by repeat (first | (with_reducible first | exact HB.out | apply qA | apply qB | apply qC) | exact HB.out)) hb); have n1_ := qV.mk (hbox); have n2_ := qV.mk ((by rw [hg]; exact (qF (by repeat (first | (with_reducible first | exact HB.out | apply qA | apply qB | apply qC) | exact HB.out))) : w.heap.size ≤ gb174)); have n3_ := qV.mk ((by rw [hg]; exact (qF (by repeat (first | (with_reducible first | exact HB.out | apply qA | apply qB | apply qC) | exact HB.out))) : w.heap.size ≤ gb174)); clear HB; have HB := n0_; have BK174 := n1_; have GW174 := n2_; have GE174 := n3_; clear n0_ n1_ n2_ n3_; clear hb hbox hg) | ((with_reducible refine gate_dst (N := 2) rfl ?_); refine qX ?hg (N := 2) ?hd (cs := #[.int .i64 0, .slice none 0 0, .slice none 0 0, .int .i64 0]) (t := 66) ?hr ?_; (case hd => rfl); (case hg => rfl); (case hr => first | (go_simp; done) | (go_simp; rfl)); intro gb175 hg w4 hbox hb; have n0_ := qV.mk (qL (g := gb174) (o := .cells #[.int .i64 a0_0, .slice A0_1 l0_1.length c0_1, .slice A0_2 l0_2.length c0_2, .int .i64 a0_3] 61 (0, 0)) (by (with_reducible repeat (first | refine qH ?_ _ | refine qI ?_ | refine qG ?_ _)); exact BK174.out) hb); have n1_ := qV.mk (qE (by repeat (first | (with_reducible first | exact HB.out | apply qA | apply qB | apply qC | refine qD ?_ GE174.out) | exact HB.out)) hb); have n2_ := qV.mk (hbox); have n3_ := qV.mk ((by rw [hg]; exact (qF (by repeat (first | (with_reducible first | exact HB.out | apply qA | apply qB | apply qC | refine qD ?_ GE174.out) | exact HB.out))) : w.heap.size ≤ gb175)); have n4_ := qV.mk ((by rw [hg]; exact (qF (by repeat (first | (with_reducible first | exact HB.out | apply qA | apply qB | apply qC | refine qD ?_ GE174.out) | exact HB.out))) : w.heap.size ≤ gb175)); have n5_ := qV.mk ((by rw [hg]; exact Nat.ne_of_lt (jR (g := gb174) (o := .cells #[.int .i64 a0_0, .slice A0_1 l0_1.length c0_1, .slice A0_2 l0_2.length c0_2, .int .i64 a0_3] 61 (0, 0)) (by (with_reducible repeat (first | refine qH ?_ _ | refine qI ?_ | refine qG ?_ _)); exact BK174.out)) : gb174 ≠ gb175)); have n6_ := qV.mk ((by rw [hg]; exact Nat.ne_of_gt (jR (g := gb174) (o := .cells #[.int .i64 a0_0, .slice A0_1 l0_1.length c0_1, .slice A0_2 l0_2.length c0_2, .int .i64 a0_3] 61 (0, 0)) (by (with_reducible repeat (first | refine qH ?_ _ | refine qI ?_ | refine qG ?_ _)); exact BK174.out)) : gb175 ≠ gb174)); clear BK174 HB; have BK174 := n0_; have HB := n1_; have BK175 := n2_; have GW175 := n3_; have GE175 := n4_; have NB174_175 := n5_; have NB175_174 := n6_; clear n0_ n1_ n2_ n3_ n4_ n5_ n6_; clear hb hbox hg) | ((with_reducible refine gate_dst (N := 3) rfl ?_); refine qX ?hg (N := 3) ?hd (cs := #[.int .i64 0, .slice none 0 0, .slice none 0 0, .int .i64 0]) (t := 66) ?hr ?_; (case hd => rfl); (case hg => rfl); (case hr => first | (go_simp; done) | (go_simp; rfl)); intro gb176 hg w5 hbox hb; have n0_ := qV.mk (qL (g := gb174) (o := .cells #[.int .i64 a0_0, .slice A0_1 l0_1.length c0_1, .slice A0_2 l0_2.length c0_2, .int .i64 a0_3] 61 (0, 0)) (by (with_reducible repeat (first | refine qH ?_ _ | refine qI ?_ | refine qG ?_ _)); exact BK174.out) hb); have n1_ := qV.mk (qL (g := gb175) (o := .cells #[.int .i64 0, .slice none 0 0, .slice none 0 0, .int .i64 0] 66 (0, 0)) (by (with_reducible repeat (first | refine qH ?_ _ | refine qI ?_ | refine qG ?_ _)); exact BK175.out) hb); have n2_ := qV.mk (qE (by repeat (first | (with_reducible first | exact HB.out | apply qA | apply qB | apply qC | refine qD ?_ GE174.out | refine qD ?_ GE175.out) | exact HB.out)) hb); have n3_ := qV.mk (hbox); have n4_ := qV.mk ((by rw [hg]; exact (qF (by repeat (first | (with_reducible first | exact HB.out | apply qA | apply qB | apply qC | refine qD ?_ GE174.out | refine qD ?_ GE175.out) | exact HB.out))) : w.heap.size ≤ gb176)); have n5_ := qV.mk ((by rw [hg]; exact (qF (by repeat (first | (with_reducible first | exact HB.out | apply qA | apply qB | apply qC | refine qD ?_ GE174.out | refine qD ?_ GE175.out) | exact HB.out))) : w.heap.size ≤ gb176)); have n6_ := qV.mk ((by rw [hg]; exact Nat.ne_of_lt (jR (g := gb174) (o := .cells #[.int .i64 a0_0, .slice A0_1 l0_1.length c0_1, .slice A0_2 l0_2.length c0_2, .int .i64 a0_3] 61 (0, 0)) (by (with_reducible repeat (first | refine qH ?_ _ | refine qI ?_ | refine qG ?_ _)); exact BK174.out)) : gb174 ≠ gb176)); have n7_ := qV.mk ((by rw [hg]; exact Nat.ne_of_gt (jR (g := gb174) (o := .cells #[.int .i64 a0_0, .slice A0_1 l0_1.length c0_1, .slice A0_2 l0_2.length c0_2, .int .i64 a0_3] 61 (0, 0)) (by (with_reducible repeat (first | refine qH ?_ _ | refine qI ?_ | refine qG ?_ _)); exact BK174.out)) : gb176 ≠ gb174)); have n8_ := qV.mk ((by rw [hg]; exact Nat.ne_of_lt (jR (g := gb175) (o := .cells #[.int .i64 0, .slice none 0 0, .slice none 0 0, .int .i64 0] 66 (0, 0)) (by (with_reducible repeat (first | refine qH ?_ _ | refine qI ?_ | refine qG ?_ _)); exact BK175.out)) : gb175 ≠ gb176)); have n9_ := qV.mk ((by rw [hg]; exact Nat.ne_of_gt (jR (g := gb175) (o := .cells #[.int .i64 0, .slice none 0 0, .slice none 0 0, .int .i64 0] 66 (0, 0)) (by (with_reducible repeat (first | refine qH ?_ _ | refine qI ?_ | refine qG ?_ _)); exact BK175.out)) : gb176 ≠ gb175)); clear BK174 BK175 HB; have BK174 := n0_; have BK175 := n1_; have HB := n2_; have BK176 := n3_; have GW176 := n4_; have GE176 := n5_; have NB174_176 := n6_; have NB176_174 := n7_; have NB175_176 := n8_; have NB176_175 := n9_; clear n0_ n1_ n2_ n3_ n4_ n5_ n6_ n7_ n8_ n9_ hb hbox hg; have hnb6 := NB174_175.out; have hnc6 := NB175_174.out; have hnb7 := NB174_176.out; have hnc7 := NB176_174.out; have hcz8_0 : w5.cell? ⟨gb174, 0, none⟩ = some (.int .i64 a0_0) := (qJ BK174.out 0).trans rfl; have hcz8_1 : w5.cell? ⟨gb174, 1, none⟩ = some (.slice A0_1 l0_1.length c0_1) := (qJ BK174.out 1).trans rfl; have hcz8_2 : w5.cell? ⟨gb174, 2, none⟩ = some (.slice A0_2 l0_2.length c0_2) := (qJ BK174.out 2).trans rfl; have hcz8_3 : w5.cell? ⟨gb174, 3, none⟩ = some (.int .i64 a0_3) := (qJ BK174.out 3).trans rfl; have hfz8_0 := qK BK174.out 0; have hfz8_1 := qK BK174.out 1; have hfz8_2 := qK BK174.out 2; have hfz8_3 := qK BK174.out 3; have hnb9 := NB176_175.out; have hnc9 := NB175_176.out; have hcz10_0 : w5.cell? ⟨gb176, 0, none⟩ = some (.int .i64 0) := (qJ BK176.out 0).trans rfl; have hcz10_1 : w5.cell? ⟨gb176, 1, none⟩ = some (.slice none 0 0) := (qJ BK176.out 1).trans rfl; have hcz10_2 : w5.cell? ⟨gb176, 2, none⟩ = some (.slice none 0 0) := (qJ BK176.out 2).trans rfl; have hcz10_3 : w5.cell? ⟨gb176, 3, none⟩ = some (.int .i64 0) := (qJ BK176.out 3).trans rfl; have hfz10_0 := qK BK176.out 0; have hfz10_1 := qK BK176.out 1; have hfz10_2 := qK BK176.out 2; have hfz10_3 := qK BK176.out 3) | ((with_reducible refine gate_callee (f := 104) rfl ?_); refine qW (some 9) rfl rfl Tryd.func104 (by kernel_rfl) rfl #[.agg #[.slice A0_1 l0_1.length c0_1, .slice A0_2 l0_2.length c0_2, .int .i64 a0_3]] rfl (by (try simp only [List.map_toArray, List.map_cons, List.map_nil]); first | done | rfl) ?_; (with_reducible refine (laws_toView.calls k _ _ l0_1 _ _ l0_2 a0_3 t177 t180 t183 _ ?side1 ?side2 ?side3 ?side4 A2.out).mono ?_); (case side1 => exact Kd.zA HR0_1.out (by repeat (first | (with_reducible first | exact HB.out | apply qA | apply qB | apply qC | refine qD ?_ GE174.out | refine qD ?_ GE175.out | refine qD ?_ GE176.out) | exact HB.out))); (case side2 => exact HC0_1.out); (case side3 => exact Kd.zA HR0_2.out (by repeat (first | (with_reducible first | exact HB.out | apply qA | apply qB | apply qC | refine qD ?_ GE174.out | refine qD ?_ GE175.out | refine qD ?_ GE176.out) | exact HB.out))); (case side4 => exact HC0_2.out); rintro e w11 ⟨v178, v181, rfl, ho0, ho1, hb⟩; refine ⟨_, rfl, ?_⟩; have n0_ := qV.mk (Kd.R_lower ho0 (qF (by repeat (first | (with_reducible first | exact HB.out | apply qA | apply qB | apply qC | refine qD ?_ GE174.out | refine qD ?_ GE175.out | refine qD ?_ GE176.out) | exact HB.out)))); have n1_ := qV.mk (Kd.R_lower ho1 (qF (by repeat (first | (with_reducible first | exact HB.out | apply qA | apply qB | apply qC | refine qD ?_ GE174.out | refine qD ?_ GE175.out | refine qD ?_ GE176.out) | exact HB.out)))); have n2_ := qV.mk (qL (g := gb174) (o := .cells #[.int .i64 a0_0, .slice A0_1 l0_1.length c0_1, .slice A0_2 l0_2.length c0_2, .int .i64 a0_3] 61 (0, 0)) (by (with_reducible repeat (first | refine qH ?_ _ | refine qI ?_ | refine qG ?_ _)); refine jO ?_ NB174_176.out _; (with_reducible repeat (first | refine qH ?_ _ | refine qI ?_ | refine qG ?_ _)); exact BK174.out) hb); have n3_ := qV.mk (qL (g := gb175) (o := .cells #[.int .i64 0, .slice none 0 0, .slice none 0 0, .int .i64 0] 66 (0, 0)) (by (with_reducible repeat (first | refine qH ?_ _ | refine qI ?_ | refine qG ?_ _)); refine jO ?_ NB175_176.out _; (with_reducible repeat (first | refine qH ?_ _ | refine qI ?_ | refine qG ?_ _)); exact BK175.out) hb); have n4_ := qV.mk (qL (g := gb176) (o := .cells #[.int .i64 a0_0, .slice none 0 0, .slice none 0 0, .int .i64 0] 66 (0, 0)) (by (with_reducible repeat (first | refine qH ?_ _ | refine qI ?_ | refine qG ?_ _)); refine jQ (cs := #[.int .i64 0, .slice none 0 0, .slice none 0 0, .int .i64 0]) ?_ 0 _ rfl; (with_reducible repeat (first | refine qH ?_ _ | refine qI ?_ | refine qG ?_ _)); exact BK176.out) hb); have n5_ := qV.mk (qE (by repeat (first | (with_reducible first | exact HB.out | apply qA | apply qB | apply qC | refine qD ?_ GE174.out | refine qD ?_ GE175.out | refine qD ?_ GE176.out) | exact HB.out)) hb); clear BK174 BK175 BK176 HB; have HO179 := n0_; have HO182 := n1_; have BK174 := n2_; have BK175 := n3_; have BK176 := n4_; have HB := n5_; clear n0_ n1_ n2_ n3_ n4_ n5_; (try clear hb); (try clear hb2); (try clear hk); (try clear hi); (try clear ho0); (try clear ho1); obtain ⟨Ao12, co12, eo12⟩ := Kd.zB HO179.out; subst eo12; have hcz13_0 : w11.cell? ⟨gb176, 0, none⟩ = some (.int .i64 a0_0) := (qJ BK176.out 0).trans rfl; have hcz13_1 : w11.cell? ⟨gb176, 1, none⟩ = some (.slice none 0 0) := (qJ BK176.out 1).trans rfl; have hcz13_2 : w11.cell? ⟨gb176, 2, none⟩ = some (.slice none 0 0) := (qJ BK176.out 2).trans rfl; have hcz13_3 : w11.cell? ⟨gb176, 3, none⟩ = some (.int .i64 0) := (qJ BK176.out 3).trans rfl; have hfz13_0 := qK BK176.out 0; have hfz13_1 := qK BK176.out 1; have hfz13_2 := qK BK176.out 2; have hfz13_3 := qK BK176.out 3; obtain ⟨Ao14, co14, eo14⟩ := Kd.zB HO182.out; subst eo14; have hcz15_0 : w11.cell? ⟨gb175, 0, none⟩ = some (.int .i64 0) := (qJ BK175.out 0).trans rfl; have hcz15_1 : w11.cell? ⟨gb175, 1, none⟩ = some (.slice none 0 0) := (qJ BK175.out 1).trans rfl; have hcz15_2 : w11.cell? ⟨gb175, 2, none⟩ = some (.slice none 0 0) := (qJ BK175.out 2).trans rfl; have hcz15_3 : w11.cell? ⟨gb175, 3, none⟩ = some (.int .i64 0) := (qJ BK175.out 3).trans rfl; have hfz15_0 := qK BK175.out 0; have hfz15_1 := qK BK175.out 1; have hfz15_2 := qK BK175.out 2; have hfz15_3 := qK BK175.out 3))
 refine bodyPost_ret (results_cell_row rfl _ _ gb175 66 #[.int .i64 a0_0, .slice Ao12 t177.length co12, .slice Ao14 t180.length co14, .int .i64 t183] (0, 0) _ rfl (by (with_reducible repeat (first | refine qH ?_ _ | refine qI ?_ | refine qG ?_ _)); refine jQ (cs := #[.int .i64 a0_0, .slice Ao12 t177.length co12, .slice Ao14 t180.length co14, .int .i64 0]) ?_ 3 _ rfl; (with_reducible repeat (first | refine qH ?_ _ | refine qI ?_ | refine qG ?_ _)); refine jQ (cs := #[.int .i64 a0_0, .slice Ao12 t177.length co12, .slice none 0 0, .int .i64 0]) ?_ 2 _ rfl; (with_reducible repeat (first | refine qH ?_ _ | refine qI ?_ | refine qG ?_ _)); refine jQ (cs := #[.int .i64 a0_0, .slice none 0 0, .slice none 0 0, .int .i64 0]) ?_ 1 _ rfl; (with_reducible repeat (first | refine qH ?_ _ | refine qI ?_ | refine qG ?_ _)); refine jQ (cs := #[.int .i64 0, .slice none 0 0, .slice none 0 0, .int .i64 0]) ?_ 0 _ rfl; (with_reducible repeat (first | refine qH ?_ _ | refine qI ?_ | refine qG ?_ _)); refine jO ?_ NB175_176.out _; (with_reducible repeat (first | refine qH ?_ _ | refine qI ?_ | refine qG ?_ _)); refine jO ?_ NB175_176.out _; (with_reducible repeat (first | refine qH ?_ _ | refine qI ?_ | refine qG ?_ _)); refine jO ?_ NB175_176.out _; (with_reducible repeat (first | refine qH ?_ _ | refine qI ?_ | refine qG ?_ _)); exact BK175.out) Tryd.underlying66 rfl (by kernel_rfl)) rfl ?_
 exact ⟨_, _, by first | rfl | (simp [zS, zR] <;> rfl) | (simp [*, zS, zR] <;> rfl), by (with_reducible repeat (first | apply Kd.qM | apply Kd.qN | apply Kd.qO)); exact Kd.zG (Kd.R_far (p := ⟨gb175, 3, none⟩) (Kd.R_far (p := ⟨gb175, 2, none⟩) (Kd.R_far (p := ⟨gb175, 1, none⟩) (Kd.R_far (p := ⟨gb175, 0, none⟩) (Kd.R_far (p := ⟨gb176, 3, none⟩) (Kd.R_far (p := ⟨gb176, 2, none⟩) (Kd.R_far (p := ⟨gb176, 1, none⟩) (Kd.R_types (Kd.R_types HO179.out BK176.out (by decide)) BK175.out (by decide)) (fun _ hk => hk.1.2) (.slice Ao12 t177.length co12)) (fun _ hk => hk.1.2) (.slice Ao14 t180.length co14)) (fun _ hk => hk.1.2) (.int .i64 t183)) (fun _ hk => hk.2) (.int .i64 a0_0)) (fun _ hk => hk.2) (.slice Ao12 t177.length co12)) (fun _ hk => hk.2) (.slice Ao14 t180.length co14)) (fun _ hk => hk.2) (.int .i64 t183)) (fun _ hk => hk.1.1), by (with_reducible repeat (first | apply Kd.qM | apply Kd.qN | apply Kd.qO)); exact Kd.zG (Kd.R_far (p := ⟨gb175, 3, none⟩) (Kd.R_far (p := ⟨gb175, 2, none⟩) (Kd.R_far (p := ⟨gb175, 1, none⟩) (Kd.R_far (p := ⟨gb175, 0, none⟩) (Kd.R_far (p := ⟨gb176, 3, none⟩) (Kd.R_far (p := ⟨gb176, 2, none⟩) (Kd.R_far (p := ⟨gb176, 1, none⟩) (Kd.R_types (Kd.R_types HO182.out BK176.out (by decide)) BK175.out (by decide)) (fun _ hk => hk.1.2) (.slice Ao12 t177.length co12)) (fun _ hk => hk.1.2) (.slice Ao14 t180.length co14)) (fun _ hk => hk.1.2) (.int .i64 t183)) (fun _ hk => hk.2) (.int .i64 a0_0)) (fun _ hk => hk.2) (.slice Ao12 t177.length co12)) (fun _ hk => hk.2) (.slice Ao14 t180.length co14)) (fun _ hk => hk.2) (.int .i64 t183)) (fun _ hk => hk.1.1), by repeat (first | (with_reducible first | exact HB.out | apply qA | apply qB | apply qC | refine qD ?_ GE174.out | refine qD ?_ GE175.out | refine qD ?_ GE176.out) | exact HB.out)⟩

def jH.l0 : Nat → List Int → List Int → Int → Option (Bool)
 | 0, _, _, _ => none
 | k + 1, x0, x1, x5 => if x5 < (x0.length : Int) then (if 0 ≤ x5 then (if x5 < (x1.length : Int) then (if (rd x0 x5) = (rd x1 x5) then (jH.l0 k x0 x1 (wrap64 (x5 + 1))) else (some false)) else (none)) else (none)) else (some true)
def jH.f (k : Nat) (l0 : List Int) (l1 : List Int) : Option (Bool) := if (l0.length : Int) = (l1.length : Int) then (jH.l0 k l0 l1 0) else (some false)
theorem jH.mono_l : ∀ k, (∀ y0 y1 y2, LeO (jH.l0 k y0 y1 y2) (jH.l0 (k + 1) y0 y1 y2))
 | 0 => fun _ _ _ r h => by simp [jH.l0] at h
 | k + 1 => by
  have ih0 := jH.mono_l k
  ·intro y0 y1 y2
   unfold jH.l0
   repeat' first
   | (with_reducible exact ih0 _ _ _)
   | (with_reducible exact LeO.refl _)
   | (with_reducible exact LeO.none _)
   | (with_reducible refine LeO.ite ?_ ?_)
   | (with_reducible refine LeO.bind ?_ (fun _ => ?_))
   | exact ih0 _ _ _
   | exact LeO.none _
   | refine LeO.ite ?_ ?_
   | refine LeO.bind ?_ (fun _ => ?_)
theorem jH.mono : ∀ a0 a1 k, LeO (jH.f k a0 a1) (jH.f (k + 1) a0 a1) := by
 intro a0 a1 k
 have ih0 := jH.mono_l k
 unfold jH.f
 repeat' first
   | (with_reducible exact ih0 _ _ _)
   | (with_reducible exact LeO.refl _)
   | (with_reducible exact LeO.none _)
   | (with_reducible refine LeO.ite ?_ ?_)
   | (with_reducible refine LeO.bind ?_ (fun _ => ?_))
   | exact ih0 _ _ _
   | exact LeO.none _
   | refine LeO.ite ?_ ?_
   | refine LeO.bind ?_ (fun _ => ?_)
set_option maxHeartbeats 8000000 in
set_option maxRecDepth 100000 in
theorem jH.calls (k : Nat) (A0 : Option Addr) (c0 : Nat) (l0 : List Int) (A1 : Option Addr) (c1 : Nat) (l1 : List Int) (r : Bool) (w : World) (hr0 : Kd.C (Kd.int .i64) w A0 l0.length l0) (hc0 : l0.length ≤ c0) (hr1 : Kd.C (Kd.int .i64) w A1 l1.length l1) (hc1 : l1.length ≤ c1) (h : jH.f k l0 l1 = some r) :
  Calls Tryd.prog 162 #[.slice A0 l0.length c0, .slice A1 l1.length c1] w fun e w' => e = .returned (.bool r) ∧ zI w w' := by
 have HR0 := qV.mk hr0
 have HC0 := qV.mk hc0
 clear hr0 hc0
 have HR1 := qV.mk hr1
 have HC1 := qV.mk hc1
 clear hr1 hc1
 have H : (if (l0.length : Int) = (l1.length : Int) then (jH.l0 k l0 l1 0) else (some false)) = some r := h
 clear h
 by_cases c3 : (l0.length : Int) = (l1.length : Int)
 ·rw [if_pos c3] at H
  have c3b0 : ((l0.length : Int) == (l1.length : Int)) = true := beq_iff_eq.mpr c3
  have c3b1 : ((l0.length : Int) != (l1.length : Int)) = false := bne_eq_false_iff_eq.mpr c3
  have c3b2 : (l0.length == l1.length) = true := by first | simpa using c3 | (simp at c3 ⊢; omega)
  clear c3
  have H' := qV.mk H
  clear H
  go_enter Tryd.func162, Tryd.ntmps162
  go_wp2
  repeat (go_quiet (fail); try go_wp2)
  go_loopg [5] k (fun kq v5 w' => ∃ (x5_1 : Int), v5 = .int .i64 x5_1 ∧ qV (jH.l0 kq l0 l1 x5_1 = some r) ∧ qV (kq ≤ k) ∧ zI w w')
  case atStart => exact ⟨(0), (by first | rfl | (simp; done) | (simp [*]; done)), H', ⟨Nat.le_refl _⟩, by repeat (first | exact zI.refl _ | apply zI.step)⟩
  case round =>
   clear H'
   try clear c1
   try clear p2
   try clear c3
   try clear c3b0
   try clear c3b1
   try clear c3b2
   obtain ⟨x5_1, rfl, HA, HK1, ⟨m1, rfl⟩⟩ := hrel
   cases gk with
   | zero => exact absurd HA.out (by simp [jH.l0])
   | succ k1 =>
    have H := HA.out
    clear HA
    simp only [jH.l0] at H
    by_cases c4 : x5_1 < (l0.length : Int)
    ·rw [if_pos c4] at H
     have c4b0 : decide (x5_1 < (l0.length : Int)) = true := decide_eq_true c4
     clear c4
     by_cases c5 : 0 ≤ x5_1
     ·rw [if_pos c5] at H
      have c5b0 : decide (0 ≤ x5_1) = true := decide_eq_true c5
      clear c5
      by_cases c6 : x5_1 < (l1.length : Int)
      ·rw [if_pos c6] at H
       have c6b0 : decide (x5_1 < (l1.length : Int)) = true := decide_eq_true c6
       clear c6
       by_cases c7 : (rd l0 x5_1) = (rd l1 x5_1)
       ·rw [if_pos c7] at H
        have c7b0 : ((rd l0 x5_1) == (rd l1 x5_1)) = true := beq_iff_eq.mpr c7
        have c7b1 : ((rd l0 x5_1) != (rd l1 x5_1)) = false := bne_eq_false_iff_eq.mpr c7
        clear c7
        have H' := qV.mk H
        clear H
        have p184 : 0 ≤ (x5_1 : Int) := of_decide_eq_true (by assumption)
        have q184 : x5_1 < (l0.length : Int) := of_decide_eq_true (by assumption)
        obtain ⟨ad184, e184, hx184_0⟩ := Kd.at_int HR0.out x5_1 p184 q184
        cases e184
        replace p184 := eq_true p184
        replace q184 := eq_true q184
        have p185 : 0 ≤ (x5_1 : Int) := of_decide_eq_true (by assumption)
        have q185 : x5_1 < (l1.length : Int) := of_decide_eq_true (by assumption)
        obtain ⟨ad185, e185, hx185_0⟩ := Kd.at_int HR1.out x5_1 p185 q185
        cases e185
        replace p185 := eq_true p185
        replace q185 := eq_true q185
        go_wp2
        repeat (go_quiet (fail); try go_wp2)
        go_roundg k1
        case measure => have := HK1.out; omega
        case rel => exact ⟨(wrap64 (x5_1 + 1)), (by first | rfl | (simp; done) | (simp [*]; done)), H', ⟨by have := HK1.out; omega⟩, by repeat (first | exact zI.refl _ | apply zI.step)⟩
       ·rw [if_neg c7] at H
        have c7b0 : ((rd l0 x5_1) == (rd l1 x5_1)) = false := beq_eq_false_iff_ne.mpr c7
        have c7b1 : ((rd l0 x5_1) != (rd l1 x5_1)) = true := bne_iff_ne.mpr c7
        obtain rfl := Option.some.inj H
        have p184 : 0 ≤ (x5_1 : Int) := of_decide_eq_true (by assumption)
        have q184 : x5_1 < (l0.length : Int) := of_decide_eq_true (by assumption)
        obtain ⟨ad184, e184, hx184_0⟩ := Kd.at_int HR0.out x5_1 p184 q184
        cases e184
        replace p184 := eq_true p184
        replace q184 := eq_true q184
        have p185 : 0 ≤ (x5_1 : Int) := of_decide_eq_true (by assumption)
        have q185 : x5_1 < (l1.length : Int) := of_decide_eq_true (by assumption)
        obtain ⟨ad185, e185, hx185_0⟩ := Kd.at_int HR1.out x5_1 p185 q185
        cases e185
        replace p185 := eq_true p185
        replace q185 := eq_true q185
        go_wp2
        repeat (go_quiet (fail); try go_wp2)
        go_ret
        exact ⟨by first | rfl | (simp; done) | (simp [*]; done), by repeat (first | exact zI.refl _ | apply zI.step)⟩
      ·rw [if_neg c6] at H
       exact absurd H (by simp)
     ·rw [if_neg c5] at H
      exact absurd H (by simp)
    ·rw [if_neg c4] at H
     have c4b0 : decide (x5_1 < (l0.length : Int)) = false := decide_eq_false c4
     clear c4
     obtain rfl := Option.some.inj H
     go_wp2
     repeat (go_quiet (fail); try go_wp2)
     go_ret
     exact ⟨by first | rfl | (simp; done) | (simp [*]; done), by repeat (first | exact zI.refl _ | apply zI.step)⟩
 ·rw [if_neg c3] at H
  have c3b0 : ((l0.length : Int) == (l1.length : Int)) = false := beq_eq_false_iff_ne.mpr c3
  have c3b1 : ((l0.length : Int) != (l1.length : Int)) = true := bne_iff_ne.mpr c3
  have c3b2 : (l0.length == l1.length) = false := by first | simpa using c3 | (simp at c3 ⊢; omega)
  obtain rfl := Option.some.inj H
  go_enter Tryd.func162, Tryd.ntmps162
  go_wp2
  repeat (go_quiet (fail); try go_wp2)
  go_ret
  exact ⟨by first | rfl | (simp; done) | (simp [*]; done), by repeat (first | exact zI.refl _ | apply zI.step)⟩

def laws_eqView.f (k : Nat) (l0_0 : List Int) (l0_1 : List Int) (a0_2 : Int) (l1_0 : List Int) (l1_1 : List Int) (a1_2 : Int) : Option (Bool) := (jH.f k l0_0 l1_0).bind fun t188 => (if t188 = true then ((jH.f k l0_1 l1_1).bind fun t189 => (if t189 = true then (if a0_2 = a1_2 then (some true) else (some false)) else (some false))) else (some false))
theorem laws_eqView.mono : ∀ a0 a1 a2 a3 a4 a5 k, LeO (laws_eqView.f k a0 a1 a2 a3 a4 a5) (laws_eqView.f (k + 1) a0 a1 a2 a3 a4 a5) := by
 intro a0 a1 a2 a3 a4 a5 k
 unfold laws_eqView.f
 repeat' first
   | (with_reducible exact jH.mono _ _ _)
   | (with_reducible exact LeO.refl _)
   | (with_reducible exact LeO.none _)
   | (with_reducible refine LeO.ite ?_ ?_)
   | (with_reducible refine LeO.bind ?_ (fun _ => ?_))
   | exact jH.mono _ _ _
   | exact LeO.none _
   | refine LeO.ite ?_ ?_
   | refine LeO.bind ?_ (fun _ => ?_)
set_option maxHeartbeats 8000000 in
set_option maxRecDepth 100000 in
theorem laws_eqView.calls (k : Nat) (A0_0 : Option Addr) (c0_0 : Nat) (l0_0 : List Int) (A0_1 : Option Addr) (c0_1 : Nat) (l0_1 : List Int) (a0_2 : Int) (A1_0 : Option Addr) (c1_0 : Nat) (l1_0 : List Int) (A1_1 : Option Addr) (c1_1 : Nat) (l1_1 : List Int) (a1_2 : Int) (r : Bool) (w : World) (hr0_0 : Kd.C (Kd.int .i64) w A0_0 l0_0.length l0_0) (hc0_0 : l0_0.length ≤ c0_0) (hr0_1 : Kd.C (Kd.int .i64) w A0_1 l0_1.length l0_1) (hc0_1 : l0_1.length ≤ c0_1) (hr1_0 : Kd.C (Kd.int .i64) w A1_0 l1_0.length l1_0) (hc1_0 : l1_0.length ≤ c1_0) (hr1_1 : Kd.C (Kd.int .i64) w A1_1 l1_1.length l1_1) (hc1_1 : l1_1.length ≤ c1_1) (h : laws_eqView.f k l0_0 l0_1 a0_2 l1_0 l1_1 a1_2 = some r) :
  Calls Tryd.prog 106 #[.agg #[.slice A0_0 l0_0.length c0_0, .slice A0_1 l0_1.length c0_1, .int .i64 a0_2], .agg #[.slice A1_0 l1_0.length c1_0, .slice A1_1 l1_1.length c1_1, .int .i64 a1_2]] w fun e w' => e = .returned (.bool r) ∧ Below w.heap.size w w' := by
 have hu64 := Tryd.underlying64
 have HR0_0 := qV.mk hr0_0
 have HC0_0 := qV.mk hc0_0
 clear hr0_0 hc0_0
 have HR0_1 := qV.mk hr0_1
 have HC0_1 := qV.mk hc0_1
 clear hr0_1 hc0_1
 have HR1_0 := qV.mk hr1_0
 have HC1_0 := qV.mk hc1_0
 clear hr1_0 hc1_0
 have HR1_1 := qV.mk hr1_1
 have HC1_1 := qV.mk hc1_1
 clear hr1_1 hc1_1
 have HB := qV.mk (Below.refl w.heap.size w)
 have H : ((jH.f k l0_0 l1_0).bind fun t188 => (if t188 = true then ((jH.f k l0_1 l1_1).bind fun t189 => (if t189 = true then (if a0_2 = a1_2 then (some true) else (some false)) else (some false))) else (some false))) = some r := h
 clear h
 replace H := Option.bind_eq_some_iff.mp H
 obtain ⟨t188, A30, H⟩ := H
 try dsimp only at H
 have A3 := qV.mk A30
 clear A30
 by_cases c4 : t188 = true
 ·subst c4
  rw [if_pos rfl] at H
  replace H := Option.bind_eq_some_iff.mp H
  obtain ⟨t189, A50, H⟩ := H
  try dsimp only at H
  have A5 := qV.mk A50
  clear A50
  by_cases c6 : t189 = true
  ·subst c6
   rw [if_pos rfl] at H
   by_cases c7 : a0_2 = a1_2
   ·rw [if_pos c7] at H
    have c7b0 : (a0_2 == a1_2) = true := beq_iff_eq.mpr c7
    have c7b1 : (a0_2 != a1_2) = false := bne_eq_false_iff_eq.mpr c7
    clear c7
    obtain rfl := Option.some.inj H
    go_enter Tryd.func106, Tryd.ntmps106
    go_wp2_with (first | ((with_reducible refine gate_dst (N := 2) rfl ?_); refine qX ?hg (N := 2) ?hd (cs := #[.slice A0_0 l0_0.length c0_0, .slice A0_1 l0_1.length c0_1, .int .i64 a0_2]) (t := 64) ?hr ?_; (case hd => rfl); (case hg => rfl); (case hr => first | (go_simp; done) | (go_simp; rfl)); intro gb186 hg w8 hbox hb; have n0_ := qV.mk (qE (by repeat (first | (with_reducible first | exact HB.out | apply qA | apply qB | apply qC) | exact HB.out)) hb); have n1_ := qV.mk (hbox); have n2_ := qV.mk ((by rw [hg]; exact (qF (by repeat (first | (with_reducible first | exact HB.out | apply qA | apply qB | apply qC) | exact HB.out))) : w.heap.size ≤ gb186)); have n3_ := qV.mk ((by rw [hg]; exact (qF (by repeat (first | (with_reducible first | exact HB.out | apply qA | apply qB | apply qC) | exact HB.out))) : w.heap.size ≤ gb186)); clear HB; have HB := n0_; have BK186 := n1_; have GW186 := n2_; have GE186 := n3_; clear n0_ n1_ n2_ n3_; clear hb hbox hg) | ((with_reducible refine gate_dst (N := 3) rfl ?_); refine qX ?hg (N := 3) ?hd (cs := #[.slice A1_0 l1_0.length c1_0, .slice A1_1 l1_1.length c1_1, .int .i64 a1_2]) (t := 64) ?hr ?_; (case hd => rfl); (case hg => rfl); (case hr => first | (go_simp; done) | (go_simp; rfl)); intro gb187 hg w9 hbox hb; have n0_ := qV.mk (qL (g := gb186) (o := .cells #[.slice A0_0 l0_0.length c0_0, .slice A0_1 l0_1.length c0_1, .int .i64 a0_2] 64 (0, 0)) (by (with_reducible repeat (first | refine qH ?_ _ | refine qI ?_ | refine qG ?_ _)); exact BK186.out) hb); have n1_ := qV.mk (qE (by repeat (first | (with_reducible first | exact HB.out | apply qA | apply qB | apply qC | refine qD ?_ GE186.out) | exact HB.out)) hb); have n2_ := qV.mk (hbox); have n3_ := qV.mk ((by rw [hg]; exact (qF (by repeat (first | (with_reducible first | exact HB.out | apply qA | apply qB | apply qC | refine qD ?_ GE186.out) | exact HB.out))) : w.heap.size ≤ gb187)); have n4_ := qV.mk ((by rw [hg]; exact (qF (by repeat (first | (with_reducible first | exact HB.out | apply qA | apply qB | apply qC | refine qD ?_ GE186.out) | exact HB.out))) : w.heap.size ≤ gb187)); have n5_ := qV.mk ((by rw [hg]; exact Nat.ne_of_lt (jR (g := gb186) (o := .cells #[.slice A0_0 l0_0.length c0_0, .slice A0_1 l0_1.length c0_1, .int .i64 a0_2] 64 (0, 0)) (by (with_reducible repeat (first | refine qH ?_ _ | refine qI ?_ | refine qG ?_ _)); exact BK186.out)) : gb186 ≠ gb187)); have n6_ := qV.mk ((by rw [hg]; exact Nat.ne_of_gt (jR (g := gb186) (o := .cells #[.slice A0_0 l0_0.length c0_0, .slice A0_1 l0_1.length c0_1, .int .i64 a0_2] 64 (0, 0)) (by (with_reducible repeat (first | refine qH ?_ _ | refine qI ?_ | refine qG ?_ _)); exact BK186.out)) : gb187 ≠ gb186)); clear BK186 HB; have BK186 := n0_; have HB := n1_; have BK187 := n2_; have GW187 := n3_; have GE187 := n4_; have NB186_187 := n5_; have NB187_186 := n6_; clear n0_ n1_ n2_ n3_ n4_ n5_ n6_ hb hbox hg; have hnb10 := NB186_187.out; have hnc10 := NB187_186.out; have hcz11_0 : w9.cell? ⟨gb186, 0, none⟩ = some (.slice A0_0 l0_0.length c0_0) := (qJ BK186.out 0).trans rfl; have hcz11_1 : w9.cell? ⟨gb186, 1, none⟩ = some (.slice A0_1 l0_1.length c0_1) := (qJ BK186.out 1).trans rfl; have hcz11_2 : w9.cell? ⟨gb186, 2, none⟩ = some (.int .i64 a0_2) := (qJ BK186.out 2).trans rfl; have hfz11_0 := qK BK186.out 0; have hfz11_1 := qK BK186.out 1; have hfz11_2 := qK BK186.out 2; have hcz12_0 : w9.cell? ⟨gb187, 0, none⟩ = some (.slice A1_0 l1_0.length c1_0) := (qJ BK187.out 0).trans rfl; have hcz12_1 : w9.cell? ⟨gb187, 1, none⟩ = some (.slice A1_1 l1_1.length c1_1) := (qJ BK187.out 1).trans rfl; have hcz12_2 : w9.cell? ⟨gb187, 2, none⟩ = some (.int .i64 a1_2) := (qJ BK187.out 2).trans rfl; have hfz12_0 := qK BK187.out 0; have hfz12_1 := qK BK187.out 1; have hfz12_2 := qK BK187.out 2) | ((with_reducible refine gate_callee (f := 162) rfl ?_); refine qW (some 9) rfl rfl Tryd.func162 (by kernel_rfl) rfl #[.slice A0_0 l0_0.length c0_0, .slice A1_0 l1_0.length c1_0] rfl (by (try simp only [List.map_toArray, List.map_cons, List.map_nil]); first | done | rfl) ?_; (with_reducible refine (jH.calls k _ _ l0_0 _ _ l1_0 true _ ?side1 ?side2 ?side3 ?side4 A3.out).mono ?_); (case side1 => repeat (first | exact (Kd.zA HR0_0.out HB.out) | (with_reducible refine Kd.qS ?_ _) | (with_reducible refine Kd.qT ?_ _) | (with_reducible refine Kd.qU ?_))); (case side2 => exact HC0_0.out); (case side3 => repeat (first | exact (Kd.zA HR1_0.out HB.out) | (with_reducible refine Kd.qS ?_ _) | (with_reducible refine Kd.qT ?_ _) | (with_reducible refine Kd.qU ?_))); (case side4 => exact HC1_0.out); rintro e w' ⟨rfl, ⟨nd, rfl⟩⟩; refine ⟨_, rfl, ?_⟩) | ((with_reducible refine gate_callee (f := 162) rfl ?_); refine qW (some 15) rfl rfl Tryd.func162 (by kernel_rfl) rfl #[.slice A0_1 l0_1.length c0_1, .slice A1_1 l1_1.length c1_1] rfl (by (try simp only [List.map_toArray, List.map_cons, List.map_nil]); first | done | rfl) ?_; (with_reducible refine (jH.calls k _ _ l0_1 _ _ l1_1 true _ ?side1 ?side2 ?side3 ?side4 A5.out).mono ?_); (case side1 => repeat (first | exact (Kd.zA HR0_1.out (by repeat (first | (with_reducible first | exact HB.out | apply qA | apply qB | apply qC | refine qD ?_ GE186.out | refine qD ?_ GE187.out) | exact HB.out))) | (with_reducible refine Kd.qS ?_ _) | (with_reducible refine Kd.qT ?_ _) | (with_reducible refine Kd.qU ?_))); (case side2 => exact HC0_1.out); (case side3 => repeat (first | exact (Kd.zA HR1_1.out (by repeat (first | (with_reducible first | exact HB.out | apply qA | apply qB | apply qC | refine qD ?_ GE186.out | refine qD ?_ GE187.out) | exact HB.out))) | (with_reducible refine Kd.qS ?_ _) | (with_reducible refine Kd.qT ?_ _) | (with_reducible refine Kd.qU ?_))); (case side4 => exact HC1_1.out); rintro e w' ⟨rfl, ⟨nd, rfl⟩⟩; refine ⟨_, rfl, ?_⟩))
    go_ret
    exact ⟨by first | rfl | (simp [zS, zR] <;> rfl) | (simp [*, zS, zR] <;> rfl), by repeat (first | (with_reducible first | exact HB.out | apply qA | apply qB | apply qC | refine qD ?_ GE186.out | refine qD ?_ GE187.out) | exact HB.out)⟩
   ·rw [if_neg c7] at H
    have c7b0 : (a0_2 == a1_2) = false := beq_eq_false_iff_ne.mpr c7
    have c7b1 : (a0_2 != a1_2) = true := bne_iff_ne.mpr c7
    obtain rfl := Option.some.inj H
    go_enter Tryd.func106, Tryd.ntmps106
    go_wp2_with (first | ((with_reducible refine gate_dst (N := 2) rfl ?_); refine qX ?hg (N := 2) ?hd (cs := #[.slice A0_0 l0_0.length c0_0, .slice A0_1 l0_1.length c0_1, .int .i64 a0_2]) (t := 64) ?hr ?_; (case hd => rfl); (case hg => rfl); (case hr => first | (go_simp; done) | (go_simp; rfl)); intro gb186 hg w13 hbox hb; have n0_ := qV.mk (qE (by repeat (first | (with_reducible first | exact HB.out | apply qA | apply qB | apply qC) | exact HB.out)) hb); have n1_ := qV.mk (hbox); have n2_ := qV.mk ((by rw [hg]; exact (qF (by repeat (first | (with_reducible first | exact HB.out | apply qA | apply qB | apply qC) | exact HB.out))) : w.heap.size ≤ gb186)); have n3_ := qV.mk ((by rw [hg]; exact (qF (by repeat (first | (with_reducible first | exact HB.out | apply qA | apply qB | apply qC) | exact HB.out))) : w.heap.size ≤ gb186)); clear HB; have HB := n0_; have BK186 := n1_; have GW186 := n2_; have GE186 := n3_; clear n0_ n1_ n2_ n3_; clear hb hbox hg) | ((with_reducible refine gate_dst (N := 3) rfl ?_); refine qX ?hg (N := 3) ?hd (cs := #[.slice A1_0 l1_0.length c1_0, .slice A1_1 l1_1.length c1_1, .int .i64 a1_2]) (t := 64) ?hr ?_; (case hd => rfl); (case hg => rfl); (case hr => first | (go_simp; done) | (go_simp; rfl)); intro gb187 hg w14 hbox hb; have n0_ := qV.mk (qL (g := gb186) (o := .cells #[.slice A0_0 l0_0.length c0_0, .slice A0_1 l0_1.length c0_1, .int .i64 a0_2] 64 (0, 0)) (by (with_reducible repeat (first | refine qH ?_ _ | refine qI ?_ | refine qG ?_ _)); exact BK186.out) hb); have n1_ := qV.mk (qE (by repeat (first | (with_reducible first | exact HB.out | apply qA | apply qB | apply qC | refine qD ?_ GE186.out) | exact HB.out)) hb); have n2_ := qV.mk (hbox); have n3_ := qV.mk ((by rw [hg]; exact (qF (by repeat (first | (with_reducible first | exact HB.out | apply qA | apply qB | apply qC | refine qD ?_ GE186.out) | exact HB.out))) : w.heap.size ≤ gb187)); have n4_ := qV.mk ((by rw [hg]; exact (qF (by repeat (first | (with_reducible first | exact HB.out | apply qA | apply qB | apply qC | refine qD ?_ GE186.out) | exact HB.out))) : w.heap.size ≤ gb187)); have n5_ := qV.mk ((by rw [hg]; exact Nat.ne_of_lt (jR (g := gb186) (o := .cells #[.slice A0_0 l0_0.length c0_0, .slice A0_1 l0_1.length c0_1, .int .i64 a0_2] 64 (0, 0)) (by (with_reducible repeat (first | refine qH ?_ _ | refine qI ?_ | refine qG ?_ _)); exact BK186.out)) : gb186 ≠ gb187)); have n6_ := qV.mk ((by rw [hg]; exact Nat.ne_of_gt (jR (g := gb186) (o := .cells #[.slice A0_0 l0_0.length c0_0, .slice A0_1 l0_1.length c0_1, .int .i64 a0_2] 64 (0, 0)) (by (with_reducible repeat (first | refine qH ?_ _ | refine qI ?_ | refine qG ?_ _)); exact BK186.out)) : gb187 ≠ gb186)); clear BK186 HB; have BK186 := n0_; have HB := n1_; have BK187 := n2_; have GW187 := n3_; have GE187 := n4_; have NB186_187 := n5_; have NB187_186 := n6_; clear n0_ n1_ n2_ n3_ n4_ n5_ n6_ hb hbox hg; have hnb15 := NB186_187.out; have hnc15 := NB187_186.out; have hcz16_0 : w14.cell? ⟨gb186, 0, none⟩ = some (.slice A0_0 l0_0.length c0_0) := (qJ BK186.out 0).trans rfl; have hcz16_1 : w14.cell? ⟨gb186, 1, none⟩ = some (.slice A0_1 l0_1.length c0_1) := (qJ BK186.out 1).trans rfl; have hcz16_2 : w14.cell? ⟨gb186, 2, none⟩ = some (.int .i64 a0_2) := (qJ BK186.out 2).trans rfl; have hfz16_0 := qK BK186.out 0; have hfz16_1 := qK BK186.out 1; have hfz16_2 := qK BK186.out 2; have hcz17_0 : w14.cell? ⟨gb187, 0, none⟩ = some (.slice A1_0 l1_0.length c1_0) := (qJ BK187.out 0).trans rfl; have hcz17_1 : w14.cell? ⟨gb187, 1, none⟩ = some (.slice A1_1 l1_1.length c1_1) := (qJ BK187.out 1).trans rfl; have hcz17_2 : w14.cell? ⟨gb187, 2, none⟩ = some (.int .i64 a1_2) := (qJ BK187.out 2).trans rfl; have hfz17_0 := qK BK187.out 0; have hfz17_1 := qK BK187.out 1; have hfz17_2 := qK BK187.out 2) | ((with_reducible refine gate_callee (f := 162) rfl ?_); refine qW (some 9) rfl rfl Tryd.func162 (by kernel_rfl) rfl #[.slice A0_0 l0_0.length c0_0, .slice A1_0 l1_0.length c1_0] rfl (by (try simp only [List.map_toArray, List.map_cons, List.map_nil]); first | done | rfl) ?_; (with_reducible refine (jH.calls k _ _ l0_0 _ _ l1_0 true _ ?side1 ?side2 ?side3 ?side4 A3.out).mono ?_); (case side1 => repeat (first | exact (Kd.zA HR0_0.out HB.out) | (with_reducible refine Kd.qS ?_ _) | (with_reducible refine Kd.qT ?_ _) | (with_reducible refine Kd.qU ?_))); (case side2 => exact HC0_0.out); (case side3 => repeat (first | exact (Kd.zA HR1_0.out HB.out) | (with_reducible refine Kd.qS ?_ _) | (with_reducible refine Kd.qT ?_ _) | (with_reducible refine Kd.qU ?_))); (case side4 => exact HC1_0.out); rintro e w' ⟨rfl, ⟨nd, rfl⟩⟩; refine ⟨_, rfl, ?_⟩) | ((with_reducible refine gate_callee (f := 162) rfl ?_); refine qW (some 15) rfl rfl Tryd.func162 (by kernel_rfl) rfl #[.slice A0_1 l0_1.length c0_1, .slice A1_1 l1_1.length c1_1] rfl (by (try simp only [List.map_toArray, List.map_cons, List.map_nil]); first | done | rfl) ?_; (with_reducible refine (jH.calls k _ _ l0_1 _ _ l1_1 true _ ?side1 ?side2 ?side3 ?side4 A5.out).mono ?_); (case side1 => repeat (first | exact (Kd.zA HR0_1.out (by repeat (first | (with_reducible first | exact HB.out | apply qA | apply qB | apply qC | refine qD ?_ GE186.out | refine qD ?_ GE187.out) | exact HB.out))) | (with_reducible refine Kd.qS ?_ _) | (with_reducible refine Kd.qT ?_ _) | (with_reducible refine Kd.qU ?_))); (case side2 => exact HC0_1.out); (case side3 => repeat (first | exact (Kd.zA HR1_1.out (by repeat (first | (with_reducible first | exact HB.out | apply qA | apply qB | apply qC | refine qD ?_ GE186.out | refine qD ?_ GE187.out) | exact HB.out))) | (with_reducible refine Kd.qS ?_ _) | (with_reducible refine Kd.qT ?_ _) | (with_reducible refine Kd.qU ?_))); (case side4 => exact HC1_1.out); rintro e w' ⟨rfl, ⟨nd, rfl⟩⟩; refine ⟨_, rfl, ?_⟩))
    go_ret
    exact ⟨by first | rfl | (simp [zS, zR] <;> rfl) | (simp [*, zS, zR] <;> rfl), by repeat (first | (with_reducible first | exact HB.out | apply qA | apply qB | apply qC | refine qD ?_ GE186.out | refine qD ?_ GE187.out) | exact HB.out)⟩
  ·replace c6 := Bool.eq_false_iff.mpr c6
   subst c6
   rw [if_neg (show ¬ (false = true) by decide)] at H
   obtain rfl := Option.some.inj H
   go_enter Tryd.func106, Tryd.ntmps106
   go_wp2_with (first | ((with_reducible refine gate_dst (N := 2) rfl ?_); refine qX ?hg (N := 2) ?hd (cs := #[.slice A0_0 l0_0.length c0_0, .slice A0_1 l0_1.length c0_1, .int .i64 a0_2]) (t := 64) ?hr ?_; (case hd => rfl); (case hg => rfl); (case hr => first | (go_simp; done) | (go_simp; rfl)); intro gb186 hg w18 hbox hb; have n0_ := qV.mk (qE (by repeat (first | (with_reducible first | exact HB.out | apply qA | apply qB | apply qC) | exact HB.out)) hb); have n1_ := qV.mk (hbox); have n2_ := qV.mk ((by rw [hg]; exact (qF (by repeat (first | (with_reducible first | exact HB.out | apply qA | apply qB | apply qC) | exact HB.out))) : w.heap.size ≤ gb186)); have n3_ := qV.mk ((by rw [hg]; exact (qF (by repeat (first | (with_reducible first | exact HB.out | apply qA | apply qB | apply qC) | exact HB.out))) : w.heap.size ≤ gb186)); clear HB; have HB := n0_; have BK186 := n1_; have GW186 := n2_; have GE186 := n3_; clear n0_ n1_ n2_ n3_; clear hb hbox hg) | ((with_reducible refine gate_dst (N := 3) rfl ?_); refine qX ?hg (N := 3) ?hd (cs := #[.slice A1_0 l1_0.length c1_0, .slice A1_1 l1_1.length c1_1, .int .i64 a1_2]) (t := 64) ?hr ?_; (case hd => rfl); (case hg => rfl); (case hr => first | (go_simp; done) | (go_simp; rfl)); intro gb187 hg w19 hbox hb; have n0_ := qV.mk (qL (g := gb186) (o := .cells #[.slice A0_0 l0_0.length c0_0, .slice A0_1 l0_1.length c0_1, .int .i64 a0_2] 64 (0, 0)) (by (with_reducible repeat (first | refine qH ?_ _ | refine qI ?_ | refine qG ?_ _)); exact BK186.out) hb); have n1_ := qV.mk (qE (by repeat (first | (with_reducible first | exact HB.out | apply qA | apply qB | apply qC | refine qD ?_ GE186.out) | exact HB.out)) hb); have n2_ := qV.mk (hbox); have n3_ := qV.mk ((by rw [hg]; exact (qF (by repeat (first | (with_reducible first | exact HB.out | apply qA | apply qB | apply qC | refine qD ?_ GE186.out) | exact HB.out))) : w.heap.size ≤ gb187)); have n4_ := qV.mk ((by rw [hg]; exact (qF (by repeat (first | (with_reducible first | exact HB.out | apply qA | apply qB | apply qC | refine qD ?_ GE186.out) | exact HB.out))) : w.heap.size ≤ gb187)); have n5_ := qV.mk ((by rw [hg]; exact Nat.ne_of_lt (jR (g := gb186) (o := .cells #[.slice A0_0 l0_0.length c0_0, .slice A0_1 l0_1.length c0_1, .int .i64 a0_2] 64 (0, 0)) (by (with_reducible repeat (first | refine qH ?_ _ | refine qI ?_ | refine qG ?_ _)); exact BK186.out)) : gb186 ≠ gb187)); have n6_ := qV.mk ((by rw [hg]; exact Nat.ne_of_gt (jR (g := gb186) (o := .cells #[.slice A0_0 l0_0.length c0_0, .slice A0_1 l0_1.length c0_1, .int .i64 a0_2] 64 (0, 0)) (by (with_reducible repeat (first | refine qH ?_ _ | refine qI ?_ | refine qG ?_ _)); exact BK186.out)) : gb187 ≠ gb186)); clear BK186 HB; have BK186 := n0_; have HB := n1_; have BK187 := n2_; have GW187 := n3_; have GE187 := n4_; have NB186_187 := n5_; have NB187_186 := n6_; clear n0_ n1_ n2_ n3_ n4_ n5_ n6_ hb hbox hg; have hnb20 := NB186_187.out; have hnc20 := NB187_186.out; have hcz21_0 : w19.cell? ⟨gb186, 0, none⟩ = some (.slice A0_0 l0_0.length c0_0) := (qJ BK186.out 0).trans rfl; have hcz21_1 : w19.cell? ⟨gb186, 1, none⟩ = some (.slice A0_1 l0_1.length c0_1) := (qJ BK186.out 1).trans rfl; have hcz21_2 : w19.cell? ⟨gb186, 2, none⟩ = some (.int .i64 a0_2) := (qJ BK186.out 2).trans rfl; have hfz21_0 := qK BK186.out 0; have hfz21_1 := qK BK186.out 1; have hfz21_2 := qK BK186.out 2; have hcz22_0 : w19.cell? ⟨gb187, 0, none⟩ = some (.slice A1_0 l1_0.length c1_0) := (qJ BK187.out 0).trans rfl; have hcz22_1 : w19.cell? ⟨gb187, 1, none⟩ = some (.slice A1_1 l1_1.length c1_1) := (qJ BK187.out 1).trans rfl; have hcz22_2 : w19.cell? ⟨gb187, 2, none⟩ = some (.int .i64 a1_2) := (qJ BK187.out 2).trans rfl; have hfz22_0 := qK BK187.out 0; have hfz22_1 := qK BK187.out 1; have hfz22_2 := qK BK187.out 2) | ((with_reducible refine gate_callee (f := 162) rfl ?_); refine qW (some 9) rfl rfl Tryd.func162 (by kernel_rfl) rfl #[.slice A0_0 l0_0.length c0_0, .slice A1_0 l1_0.length c1_0] rfl (by (try simp only [List.map_toArray, List.map_cons, List.map_nil]); first | done | rfl) ?_; (with_reducible refine (jH.calls k _ _ l0_0 _ _ l1_0 true _ ?side1 ?side2 ?side3 ?side4 A3.out).mono ?_); (case side1 => repeat (first | exact (Kd.zA HR0_0.out HB.out) | (with_reducible refine Kd.qS ?_ _) | (with_reducible refine Kd.qT ?_ _) | (with_reducible refine Kd.qU ?_))); (case side2 => exact HC0_0.out); (case side3 => repeat (first | exact (Kd.zA HR1_0.out HB.out) | (with_reducible refine Kd.qS ?_ _) | (with_reducible refine Kd.qT ?_ _) | (with_reducible refine Kd.qU ?_))); (case side4 => exact HC1_0.out); rintro e w' ⟨rfl, ⟨nd, rfl⟩⟩; refine ⟨_, rfl, ?_⟩) | ((with_reducible refine gate_callee (f := 162) rfl ?_); refine qW (some 15) rfl rfl Tryd.func162 (by kernel_rfl) rfl #[.slice A0_1 l0_1.length c0_1, .slice A1_1 l1_1.length c1_1] rfl (by (try simp only [List.map_toArray, List.map_cons, List.map_nil]); first | done | rfl) ?_; (with_reducible refine (jH.calls k _ _ l0_1 _ _ l1_1 false _ ?side1 ?side2 ?side3 ?side4 A5.out).mono ?_); (case side1 => repeat (first | exact (Kd.zA HR0_1.out (by repeat (first | (with_reducible first | exact HB.out | apply qA | apply qB | apply qC | refine qD ?_ GE186.out | refine qD ?_ GE187.out) | exact HB.out))) | (with_reducible refine Kd.qS ?_ _) | (with_reducible refine Kd.qT ?_ _) | (with_reducible refine Kd.qU ?_))); (case side2 => exact HC0_1.out); (case side3 => repeat (first | exact (Kd.zA HR1_1.out (by repeat (first | (with_reducible first | exact HB.out | apply qA | apply qB | apply qC | refine qD ?_ GE186.out | refine qD ?_ GE187.out) | exact HB.out))) | (with_reducible refine Kd.qS ?_ _) | (with_reducible refine Kd.qT ?_ _) | (with_reducible refine Kd.qU ?_))); (case side4 => exact HC1_1.out); rintro e w' ⟨rfl, ⟨nd, rfl⟩⟩; refine ⟨_, rfl, ?_⟩))
   go_ret
   exact ⟨by first | rfl | (simp [zS, zR] <;> rfl) | (simp [*, zS, zR] <;> rfl), by repeat (first | (with_reducible first | exact HB.out | apply qA | apply qB | apply qC | refine qD ?_ GE186.out | refine qD ?_ GE187.out) | exact HB.out)⟩
 ·replace c4 := Bool.eq_false_iff.mpr c4
  subst c4
  rw [if_neg (show ¬ (false = true) by decide)] at H
  obtain rfl := Option.some.inj H
  go_enter Tryd.func106, Tryd.ntmps106
  go_wp2_with (first | ((with_reducible refine gate_dst (N := 2) rfl ?_); refine qX ?hg (N := 2) ?hd (cs := #[.slice A0_0 l0_0.length c0_0, .slice A0_1 l0_1.length c0_1, .int .i64 a0_2]) (t := 64) ?hr ?_; (case hd => rfl); (case hg => rfl); (case hr => first | (go_simp; done) | (go_simp; rfl)); intro gb186 hg w23 hbox hb; have n0_ := qV.mk (qE (by repeat (first | (with_reducible first | exact HB.out | apply qA | apply qB | apply qC) | exact HB.out)) hb); have n1_ := qV.mk (hbox); have n2_ := qV.mk ((by rw [hg]; exact (qF (by repeat (first | (with_reducible first | exact HB.out | apply qA | apply qB | apply qC) | exact HB.out))) : w.heap.size ≤ gb186)); have n3_ := qV.mk ((by rw [hg]; exact (qF (by repeat (first | (with_reducible first | exact HB.out | apply qA | apply qB | apply qC) | exact HB.out))) : w.heap.size ≤ gb186)); clear HB; have HB := n0_; have BK186 := n1_; have GW186 := n2_; have GE186 := n3_; clear n0_ n1_ n2_ n3_; clear hb hbox hg) | ((with_reducible refine gate_dst (N := 3) rfl ?_); refine qX ?hg (N := 3) ?hd (cs := #[.slice A1_0 l1_0.length c1_0, .slice A1_1 l1_1.length c1_1, .int .i64 a1_2]) (t := 64) ?hr ?_; (case hd => rfl); (case hg => rfl); (case hr => first | (go_simp; done) | (go_simp; rfl)); intro gb187 hg w24 hbox hb; have n0_ := qV.mk (qL (g := gb186) (o := .cells #[.slice A0_0 l0_0.length c0_0, .slice A0_1 l0_1.length c0_1, .int .i64 a0_2] 64 (0, 0)) (by (with_reducible repeat (first | refine qH ?_ _ | refine qI ?_ | refine qG ?_ _)); exact BK186.out) hb); have n1_ := qV.mk (qE (by repeat (first | (with_reducible first | exact HB.out | apply qA | apply qB | apply qC | refine qD ?_ GE186.out) | exact HB.out)) hb); have n2_ := qV.mk (hbox); have n3_ := qV.mk ((by rw [hg]; exact (qF (by repeat (first | (with_reducible first | exact HB.out | apply qA | apply qB | apply qC | refine qD ?_ GE186.out) | exact HB.out))) : w.heap.size ≤ gb187)); have n4_ := qV.mk ((by rw [hg]; exact (qF (by repeat (first | (with_reducible first | exact HB.out | apply qA | apply qB | apply qC | refine qD ?_ GE186.out) | exact HB.out))) : w.heap.size ≤ gb187)); have n5_ := qV.mk ((by rw [hg]; exact Nat.ne_of_lt (jR (g := gb186) (o := .cells #[.slice A0_0 l0_0.length c0_0, .slice A0_1 l0_1.length c0_1, .int .i64 a0_2] 64 (0, 0)) (by (with_reducible repeat (first | refine qH ?_ _ | refine qI ?_ | refine qG ?_ _)); exact BK186.out)) : gb186 ≠ gb187)); have n6_ := qV.mk ((by rw [hg]; exact Nat.ne_of_gt (jR (g := gb186) (o := .cells #[.slice A0_0 l0_0.length c0_0, .slice A0_1 l0_1.length c0_1, .int .i64 a0_2] 64 (0, 0)) (by (with_reducible repeat (first | refine qH ?_ _ | refine qI ?_ | refine qG ?_ _)); exact BK186.out)) : gb187 ≠ gb186)); clear BK186 HB; have BK186 := n0_; have HB := n1_; have BK187 := n2_; have GW187 := n3_; have GE187 := n4_; have NB186_187 := n5_; have NB187_186 := n6_; clear n0_ n1_ n2_ n3_ n4_ n5_ n6_ hb hbox hg; have hnb25 := NB186_187.out; have hnc25 := NB187_186.out; have hcz26_0 : w24.cell? ⟨gb186, 0, none⟩ = some (.slice A0_0 l0_0.length c0_0) := (qJ BK186.out 0).trans rfl; have hcz26_1 : w24.cell? ⟨gb186, 1, none⟩ = some (.slice A0_1 l0_1.length c0_1) := (qJ BK186.out 1).trans rfl; have hcz26_2 : w24.cell? ⟨gb186, 2, none⟩ = some (.int .i64 a0_2) := (qJ BK186.out 2).trans rfl; have hfz26_0 := qK BK186.out 0; have hfz26_1 := qK BK186.out 1; have hfz26_2 := qK BK186.out 2; have hcz27_0 : w24.cell? ⟨gb187, 0, none⟩ = some (.slice A1_0 l1_0.length c1_0) := (qJ BK187.out 0).trans rfl; have hcz27_1 : w24.cell? ⟨gb187, 1, none⟩ = some (.slice A1_1 l1_1.length c1_1) := (qJ BK187.out 1).trans rfl; have hcz27_2 : w24.cell? ⟨gb187, 2, none⟩ = some (.int .i64 a1_2) := (qJ BK187.out 2).trans rfl; have hfz27_0 := qK BK187.out 0; have hfz27_1 := qK BK187.out 1; have hfz27_2 := qK BK187.out 2) | ((with_reducible refine gate_callee (f := 162) rfl ?_); refine qW (some 9) rfl rfl Tryd.func162 (by kernel_rfl) rfl #[.slice A0_0 l0_0.length c0_0, .slice A1_0 l1_0.length c1_0] rfl (by (try simp only [List.map_toArray, List.map_cons, List.map_nil]); first | done | rfl) ?_; (with_reducible refine (jH.calls k _ _ l0_0 _ _ l1_0 false _ ?side1 ?side2 ?side3 ?side4 A3.out).mono ?_); (case side1 => repeat (first | exact (Kd.zA HR0_0.out HB.out) | (with_reducible refine Kd.qS ?_ _) | (with_reducible refine Kd.qT ?_ _) | (with_reducible refine Kd.qU ?_))); (case side2 => exact HC0_0.out); (case side3 => repeat (first | exact (Kd.zA HR1_0.out HB.out) | (with_reducible refine Kd.qS ?_ _) | (with_reducible refine Kd.qT ?_ _) | (with_reducible refine Kd.qU ?_))); (case side4 => exact HC1_0.out); rintro e w' ⟨rfl, ⟨nd, rfl⟩⟩; refine ⟨_, rfl, ?_⟩))
  go_ret
  exact ⟨by first | rfl | (simp [zS, zR] <;> rfl) | (simp [*, zS, zR] <;> rfl), by repeat (first | (with_reducible first | exact HB.out | apply qA | apply qB | apply qC | refine qD ?_ GE186.out | refine qD ?_ GE187.out) | exact HB.out)⟩

def laws_eqArray.f (k : Nat) (a0_0 : Int) (l0_1 : List Int) (l0_2 : List Int) (a0_3 : Int) (a1_0 : Int) (l1_1 : List Int) (l1_2 : List Int) (a1_3 : Int) : Option (Bool) := if a0_0 = a1_0 then ((laws_eqView.f k l0_1 l0_2 a0_3 l1_1 l1_2 a1_3).bind fun t192 => (if t192 = true then (some true) else (some false))) else (some false)
theorem laws_eqArray.mono : ∀ a0 a1 a2 a3 a4 a5 a6 a7 k, LeO (laws_eqArray.f k a0 a1 a2 a3 a4 a5 a6 a7) (laws_eqArray.f (k + 1) a0 a1 a2 a3 a4 a5 a6 a7) := by
 intro a0 a1 a2 a3 a4 a5 a6 a7 k
 unfold laws_eqArray.f
 repeat' first
   | (with_reducible exact laws_eqView.mono _ _ _ _ _ _ _)
   | (with_reducible exact LeO.refl _)
   | (with_reducible exact LeO.none _)
   | (with_reducible refine LeO.ite ?_ ?_)
   | (with_reducible refine LeO.bind ?_ (fun _ => ?_))
   | exact laws_eqView.mono _ _ _ _ _ _ _
   | exact LeO.none _
   | refine LeO.ite ?_ ?_
   | refine LeO.bind ?_ (fun _ => ?_)
set_option maxHeartbeats 8000000 in
set_option maxRecDepth 100000 in
theorem laws_eqArray.calls (k : Nat) (a0_0 : Int) (A0_1 : Option Addr) (c0_1 : Nat) (l0_1 : List Int) (A0_2 : Option Addr) (c0_2 : Nat) (l0_2 : List Int) (a0_3 : Int) (a1_0 : Int) (A1_1 : Option Addr) (c1_1 : Nat) (l1_1 : List Int) (A1_2 : Option Addr) (c1_2 : Nat) (l1_2 : List Int) (a1_3 : Int) (r : Bool) (w : World) (hr0_1 : Kd.C (Kd.int .i64) w A0_1 l0_1.length l0_1) (hc0_1 : l0_1.length ≤ c0_1) (hr0_2 : Kd.C (Kd.int .i64) w A0_2 l0_2.length l0_2) (hc0_2 : l0_2.length ≤ c0_2) (hr1_1 : Kd.C (Kd.int .i64) w A1_1 l1_1.length l1_1) (hc1_1 : l1_1.length ≤ c1_1) (hr1_2 : Kd.C (Kd.int .i64) w A1_2 l1_2.length l1_2) (hc1_2 : l1_2.length ≤ c1_2) (h : laws_eqArray.f k a0_0 l0_1 l0_2 a0_3 a1_0 l1_1 l1_2 a1_3 = some r) :
  Calls Tryd.prog 39 #[.agg #[.int .i64 a0_0, .slice A0_1 l0_1.length c0_1, .slice A0_2 l0_2.length c0_2, .int .i64 a0_3], .agg #[.int .i64 a1_0, .slice A1_1 l1_1.length c1_1, .slice A1_2 l1_2.length c1_2, .int .i64 a1_3]] w fun e w' => e = .returned (.bool r) ∧ Below w.heap.size w w' := by
 have hu66 := Tryd.underlying66
 have hu64 := Tryd.underlying64
 have HR0_1 := qV.mk hr0_1
 have HC0_1 := qV.mk hc0_1
 clear hr0_1 hc0_1
 have HR0_2 := qV.mk hr0_2
 have HC0_2 := qV.mk hc0_2
 clear hr0_2 hc0_2
 have HR1_1 := qV.mk hr1_1
 have HC1_1 := qV.mk hc1_1
 clear hr1_1 hc1_1
 have HR1_2 := qV.mk hr1_2
 have HC1_2 := qV.mk hc1_2
 clear hr1_2 hc1_2
 have HB := qV.mk (Below.refl w.heap.size w)
 have H : (if a0_0 = a1_0 then ((laws_eqView.f k l0_1 l0_2 a0_3 l1_1 l1_2 a1_3).bind fun t192 => (if t192 = true then (some true) else (some false))) else (some false)) = some r := h
 clear h
 by_cases c3 : a0_0 = a1_0
 ·rw [if_pos c3] at H
  have c3b0 : (a0_0 == a1_0) = true := beq_iff_eq.mpr c3
  have c3b1 : (a0_0 != a1_0) = false := bne_eq_false_iff_eq.mpr c3
  clear c3
  replace H := Option.bind_eq_some_iff.mp H
  obtain ⟨t192, A40, H⟩ := H
  try dsimp only at H
  have A4 := qV.mk A40
  clear A40
  by_cases c5 : t192 = true
  ·subst c5
   rw [if_pos rfl] at H
   obtain rfl := Option.some.inj H
   go_enter Tryd.func39, Tryd.ntmps39
   go_wp2_with (first | ((with_reducible refine gate_dst (N := 2) rfl ?_); refine qX ?hg (N := 2) ?hd (cs := #[.int .i64 a0_0, .slice A0_1 l0_1.length c0_1, .slice A0_2 l0_2.length c0_2, .int .i64 a0_3]) (t := 66) ?hr ?_; (case hd => rfl); (case hg => rfl); (case hr => first | (go_simp; done) | (go_simp; rfl)); intro gb190 hg w6 hbox hb; have n0_ := qV.mk (qE (by repeat (first | (with_reducible first | exact HB.out | apply qA | apply qB | apply qC) | exact HB.out)) hb); have n1_ := qV.mk (hbox); have n2_ := qV.mk ((by rw [hg]; exact (qF (by repeat (first | (with_reducible first | exact HB.out | apply qA | apply qB | apply qC) | exact HB.out))) : w.heap.size ≤ gb190)); have n3_ := qV.mk ((by rw [hg]; exact (qF (by repeat (first | (with_reducible first | exact HB.out | apply qA | apply qB | apply qC) | exact HB.out))) : w.heap.size ≤ gb190)); clear HB; have HB := n0_; have BK190 := n1_; have GW190 := n2_; have GE190 := n3_; clear n0_ n1_ n2_ n3_; clear hb hbox hg) | ((with_reducible refine gate_dst (N := 3) rfl ?_); refine qX ?hg (N := 3) ?hd (cs := #[.int .i64 a1_0, .slice A1_1 l1_1.length c1_1, .slice A1_2 l1_2.length c1_2, .int .i64 a1_3]) (t := 66) ?hr ?_; (case hd => rfl); (case hg => rfl); (case hr => first | (go_simp; done) | (go_simp; rfl)); intro gb191 hg w7 hbox hb; have n0_ := qV.mk (qL (g := gb190) (o := .cells #[.int .i64 a0_0, .slice A0_1 l0_1.length c0_1, .slice A0_2 l0_2.length c0_2, .int .i64 a0_3] 66 (0, 0)) (by (with_reducible repeat (first | refine qH ?_ _ | refine qI ?_ | refine qG ?_ _)); exact BK190.out) hb); have n1_ := qV.mk (qE (by repeat (first | (with_reducible first | exact HB.out | apply qA | apply qB | apply qC | refine qD ?_ GE190.out) | exact HB.out)) hb); have n2_ := qV.mk (hbox); have n3_ := qV.mk ((by rw [hg]; exact (qF (by repeat (first | (with_reducible first | exact HB.out | apply qA | apply qB | apply qC | refine qD ?_ GE190.out) | exact HB.out))) : w.heap.size ≤ gb191)); have n4_ := qV.mk ((by rw [hg]; exact (qF (by repeat (first | (with_reducible first | exact HB.out | apply qA | apply qB | apply qC | refine qD ?_ GE190.out) | exact HB.out))) : w.heap.size ≤ gb191)); have n5_ := qV.mk ((by rw [hg]; exact Nat.ne_of_lt (jR (g := gb190) (o := .cells #[.int .i64 a0_0, .slice A0_1 l0_1.length c0_1, .slice A0_2 l0_2.length c0_2, .int .i64 a0_3] 66 (0, 0)) (by (with_reducible repeat (first | refine qH ?_ _ | refine qI ?_ | refine qG ?_ _)); exact BK190.out)) : gb190 ≠ gb191)); have n6_ := qV.mk ((by rw [hg]; exact Nat.ne_of_gt (jR (g := gb190) (o := .cells #[.int .i64 a0_0, .slice A0_1 l0_1.length c0_1, .slice A0_2 l0_2.length c0_2, .int .i64 a0_3] 66 (0, 0)) (by (with_reducible repeat (first | refine qH ?_ _ | refine qI ?_ | refine qG ?_ _)); exact BK190.out)) : gb191 ≠ gb190)); clear BK190 HB; have BK190 := n0_; have HB := n1_; have BK191 := n2_; have GW191 := n3_; have GE191 := n4_; have NB190_191 := n5_; have NB191_190 := n6_; clear n0_ n1_ n2_ n3_ n4_ n5_ n6_ hb hbox hg; have hnb8 := NB190_191.out; have hnc8 := NB191_190.out; have hcz9_0 : w7.cell? ⟨gb190, 0, none⟩ = some (.int .i64 a0_0) := (qJ BK190.out 0).trans rfl; have hcz9_1 : w7.cell? ⟨gb190, 1, none⟩ = some (.slice A0_1 l0_1.length c0_1) := (qJ BK190.out 1).trans rfl; have hcz9_2 : w7.cell? ⟨gb190, 2, none⟩ = some (.slice A0_2 l0_2.length c0_2) := (qJ BK190.out 2).trans rfl; have hcz9_3 : w7.cell? ⟨gb190, 3, none⟩ = some (.int .i64 a0_3) := (qJ BK190.out 3).trans rfl; have hfz9_0 := qK BK190.out 0; have hfz9_1 := qK BK190.out 1; have hfz9_2 := qK BK190.out 2; have hfz9_3 := qK BK190.out 3; have hcz10_0 : w7.cell? ⟨gb191, 0, none⟩ = some (.int .i64 a1_0) := (qJ BK191.out 0).trans rfl; have hcz10_1 : w7.cell? ⟨gb191, 1, none⟩ = some (.slice A1_1 l1_1.length c1_1) := (qJ BK191.out 1).trans rfl; have hcz10_2 : w7.cell? ⟨gb191, 2, none⟩ = some (.slice A1_2 l1_2.length c1_2) := (qJ BK191.out 2).trans rfl; have hcz10_3 : w7.cell? ⟨gb191, 3, none⟩ = some (.int .i64 a1_3) := (qJ BK191.out 3).trans rfl; have hfz10_0 := qK BK191.out 0; have hfz10_1 := qK BK191.out 1; have hfz10_2 := qK BK191.out 2; have hfz10_3 := qK BK191.out 3) | ((with_reducible refine gate_callee (f := 106) rfl ?_); refine qW (some 14) rfl rfl Tryd.func106 (by kernel_rfl) rfl #[.agg #[.slice A0_1 l0_1.length c0_1, .slice A0_2 l0_2.length c0_2, .int .i64 a0_3], .agg #[.slice A1_1 l1_1.length c1_1, .slice A1_2 l1_2.length c1_2, .int .i64 a1_3]] rfl (by (try simp only [List.map_toArray, List.map_cons, List.map_nil]); first | done | rfl) ?_; (with_reducible refine (laws_eqView.calls k _ _ l0_1 _ _ l0_2 a0_3 _ _ l1_1 _ _ l1_2 a1_3 true _ ?side1 ?side2 ?side3 ?side4 ?side5 ?side6 ?side7 ?side8 A4.out).mono ?_); (case side1 => repeat (first | exact (Kd.zA HR0_1.out HB.out) | (with_reducible refine Kd.qS ?_ _) | (with_reducible refine Kd.qT ?_ _) | (with_reducible refine Kd.qU ?_))); (case side2 => exact HC0_1.out); (case side3 => repeat (first | exact (Kd.zA HR0_2.out HB.out) | (with_reducible refine Kd.qS ?_ _) | (with_reducible refine Kd.qT ?_ _) | (with_reducible refine Kd.qU ?_))); (case side4 => exact HC0_2.out); (case side5 => repeat (first | exact (Kd.zA HR1_1.out HB.out) | (with_reducible refine Kd.qS ?_ _) | (with_reducible refine Kd.qT ?_ _) | (with_reducible refine Kd.qU ?_))); (case side6 => exact HC1_1.out); (case side7 => repeat (first | exact (Kd.zA HR1_2.out HB.out) | (with_reducible refine Kd.qS ?_ _) | (with_reducible refine Kd.qT ?_ _) | (with_reducible refine Kd.qU ?_))); (case side8 => exact HC1_2.out); rintro e w11 ⟨rfl, hb⟩; refine ⟨_, rfl, ?_⟩; have n0_ := qV.mk (qL (g := gb190) (o := .cells #[.int .i64 a0_0, .slice A0_1 l0_1.length c0_1, .slice A0_2 l0_2.length c0_2, .int .i64 a0_3] 66 (0, 0)) (by (with_reducible repeat (first | refine qH ?_ _ | refine qI ?_ | refine qG ?_ _)); exact BK190.out) hb); have n1_ := qV.mk (qL (g := gb191) (o := .cells #[.int .i64 a1_0, .slice A1_1 l1_1.length c1_1, .slice A1_2 l1_2.length c1_2, .int .i64 a1_3] 66 (0, 0)) (by (with_reducible repeat (first | refine qH ?_ _ | refine qI ?_ | refine qG ?_ _)); exact BK191.out) hb); have n2_ := qV.mk (qE (by repeat (first | (with_reducible first | exact HB.out | apply qA | apply qB | apply qC | refine qD ?_ GE190.out | refine qD ?_ GE191.out) | exact HB.out)) hb); clear BK190 BK191 HB; have BK190 := n0_; have BK191 := n1_; have HB := n2_; clear n0_ n1_ n2_; (try clear hb); (try clear hb2); (try clear hk); (try clear hi)))
   go_ret
   exact ⟨by first | rfl | (simp [zS, zR] <;> rfl) | (simp [*, zS, zR] <;> rfl), by repeat (first | (with_reducible first | exact HB.out | apply qA | apply qB | apply qC | refine qD ?_ GE190.out | refine qD ?_ GE191.out) | exact HB.out)⟩
  ·replace c5 := Bool.eq_false_iff.mpr c5
   subst c5
   rw [if_neg (show ¬ (false = true) by decide)] at H
   obtain rfl := Option.some.inj H
   go_enter Tryd.func39, Tryd.ntmps39
   go_wp2_with (first | ((with_reducible refine gate_dst (N := 2) rfl ?_); refine qX ?hg (N := 2) ?hd (cs := #[.int .i64 a0_0, .slice A0_1 l0_1.length c0_1, .slice A0_2 l0_2.length c0_2, .int .i64 a0_3]) (t := 66) ?hr ?_; (case hd => rfl); (case hg => rfl); (case hr => first | (go_simp; done) | (go_simp; rfl)); intro gb190 hg w12 hbox hb; have n0_ := qV.mk (qE (by repeat (first | (with_reducible first | exact HB.out | apply qA | apply qB | apply qC) | exact HB.out)) hb); have n1_ := qV.mk (hbox); have n2_ := qV.mk ((by rw [hg]; exact (qF (by repeat (first | (with_reducible first | exact HB.out | apply qA | apply qB | apply qC) | exact HB.out))) : w.heap.size ≤ gb190)); have n3_ := qV.mk ((by rw [hg]; exact (qF (by repeat (first | (with_reducible first | exact HB.out | apply qA | apply qB | apply qC) | exact HB.out))) : w.heap.size ≤ gb190)); clear HB; have HB := n0_; have BK190 := n1_; have GW190 := n2_; have GE190 := n3_; clear n0_ n1_ n2_ n3_; clear hb hbox hg) | ((with_reducible refine gate_dst (N := 3) rfl ?_); refine qX ?hg (N := 3) ?hd (cs := #[.int .i64 a1_0, .slice A1_1 l1_1.length c1_1, .slice A1_2 l1_2.length c1_2, .int .i64 a1_3]) (t := 66) ?hr ?_; (case hd => rfl); (case hg => rfl); (case hr => first | (go_simp; done) | (go_simp; rfl)); intro gb191 hg w13 hbox hb; have n0_ := qV.mk (qL (g := gb190) (o := .cells #[.int .i64 a0_0, .slice A0_1 l0_1.length c0_1, .slice A0_2 l0_2.length c0_2, .int .i64 a0_3] 66 (0, 0)) (by (with_reducible repeat (first | refine qH ?_ _ | refine qI ?_ | refine qG ?_ _)); exact BK190.out) hb); have n1_ := qV.mk (qE (by repeat (first | (with_reducible first | exact HB.out | apply qA | apply qB | apply qC | refine qD ?_ GE190.out) | exact HB.out)) hb); have n2_ := qV.mk (hbox); have n3_ := qV.mk ((by rw [hg]; exact (qF (by repeat (first | (with_reducible first | exact HB.out | apply qA | apply qB | apply qC | refine qD ?_ GE190.out) | exact HB.out))) : w.heap.size ≤ gb191)); have n4_ := qV.mk ((by rw [hg]; exact (qF (by repeat (first | (with_reducible first | exact HB.out | apply qA | apply qB | apply qC | refine qD ?_ GE190.out) | exact HB.out))) : w.heap.size ≤ gb191)); have n5_ := qV.mk ((by rw [hg]; exact Nat.ne_of_lt (jR (g := gb190) (o := .cells #[.int .i64 a0_0, .slice A0_1 l0_1.length c0_1, .slice A0_2 l0_2.length c0_2, .int .i64 a0_3] 66 (0, 0)) (by (with_reducible repeat (first | refine qH ?_ _ | refine qI ?_ | refine qG ?_ _)); exact BK190.out)) : gb190 ≠ gb191)); have n6_ := qV.mk ((by rw [hg]; exact Nat.ne_of_gt (jR (g := gb190) (o := .cells #[.int .i64 a0_0, .slice A0_1 l0_1.length c0_1, .slice A0_2 l0_2.length c0_2, .int .i64 a0_3] 66 (0, 0)) (by (with_reducible repeat (first | refine qH ?_ _ | refine qI ?_ | refine qG ?_ _)); exact BK190.out)) : gb191 ≠ gb190)); clear BK190 HB; have BK190 := n0_; have HB := n1_; have BK191 := n2_; have GW191 := n3_; have GE191 := n4_; have NB190_191 := n5_; have NB191_190 := n6_; clear n0_ n1_ n2_ n3_ n4_ n5_ n6_ hb hbox hg; have hnb14 := NB190_191.out; have hnc14 := NB191_190.out; have hcz15_0 : w13.cell? ⟨gb190, 0, none⟩ = some (.int .i64 a0_0) := (qJ BK190.out 0).trans rfl; have hcz15_1 : w13.cell? ⟨gb190, 1, none⟩ = some (.slice A0_1 l0_1.length c0_1) := (qJ BK190.out 1).trans rfl; have hcz15_2 : w13.cell? ⟨gb190, 2, none⟩ = some (.slice A0_2 l0_2.length c0_2) := (qJ BK190.out 2).trans rfl; have hcz15_3 : w13.cell? ⟨gb190, 3, none⟩ = some (.int .i64 a0_3) := (qJ BK190.out 3).trans rfl; have hfz15_0 := qK BK190.out 0; have hfz15_1 := qK BK190.out 1; have hfz15_2 := qK BK190.out 2; have hfz15_3 := qK BK190.out 3; have hcz16_0 : w13.cell? ⟨gb191, 0, none⟩ = some (.int .i64 a1_0) := (qJ BK191.out 0).trans rfl; have hcz16_1 : w13.cell? ⟨gb191, 1, none⟩ = some (.slice A1_1 l1_1.length c1_1) := (qJ BK191.out 1).trans rfl; have hcz16_2 : w13.cell? ⟨gb191, 2, none⟩ = some (.slice A1_2 l1_2.length c1_2) := (qJ BK191.out 2).trans rfl; have hcz16_3 : w13.cell? ⟨gb191, 3, none⟩ = some (.int .i64 a1_3) := (qJ BK191.out 3).trans rfl; have hfz16_0 := qK BK191.out 0; have hfz16_1 := qK BK191.out 1; have hfz16_2 := qK BK191.out 2; have hfz16_3 := qK BK191.out 3) | ((with_reducible refine gate_callee (f := 106) rfl ?_); refine qW (some 14) rfl rfl Tryd.func106 (by kernel_rfl) rfl #[.agg #[.slice A0_1 l0_1.length c0_1, .slice A0_2 l0_2.length c0_2, .int .i64 a0_3], .agg #[.slice A1_1 l1_1.length c1_1, .slice A1_2 l1_2.length c1_2, .int .i64 a1_3]] rfl (by (try simp only [List.map_toArray, List.map_cons, List.map_nil]); first | done | rfl) ?_; (with_reducible refine (laws_eqView.calls k _ _ l0_1 _ _ l0_2 a0_3 _ _ l1_1 _ _ l1_2 a1_3 false _ ?side1 ?side2 ?side3 ?side4 ?side5 ?side6 ?side7 ?side8 A4.out).mono ?_); (case side1 => repeat (first | exact (Kd.zA HR0_1.out HB.out) | (with_reducible refine Kd.qS ?_ _) | (with_reducible refine Kd.qT ?_ _) | (with_reducible refine Kd.qU ?_))); (case side2 => exact HC0_1.out); (case side3 => repeat (first | exact (Kd.zA HR0_2.out HB.out) | (with_reducible refine Kd.qS ?_ _) | (with_reducible refine Kd.qT ?_ _) | (with_reducible refine Kd.qU ?_))); (case side4 => exact HC0_2.out); (case side5 => repeat (first | exact (Kd.zA HR1_1.out HB.out) | (with_reducible refine Kd.qS ?_ _) | (with_reducible refine Kd.qT ?_ _) | (with_reducible refine Kd.qU ?_))); (case side6 => exact HC1_1.out); (case side7 => repeat (first | exact (Kd.zA HR1_2.out HB.out) | (with_reducible refine Kd.qS ?_ _) | (with_reducible refine Kd.qT ?_ _) | (with_reducible refine Kd.qU ?_))); (case side8 => exact HC1_2.out); rintro e w17 ⟨rfl, hb⟩; refine ⟨_, rfl, ?_⟩; have n0_ := qV.mk (qL (g := gb190) (o := .cells #[.int .i64 a0_0, .slice A0_1 l0_1.length c0_1, .slice A0_2 l0_2.length c0_2, .int .i64 a0_3] 66 (0, 0)) (by (with_reducible repeat (first | refine qH ?_ _ | refine qI ?_ | refine qG ?_ _)); exact BK190.out) hb); have n1_ := qV.mk (qL (g := gb191) (o := .cells #[.int .i64 a1_0, .slice A1_1 l1_1.length c1_1, .slice A1_2 l1_2.length c1_2, .int .i64 a1_3] 66 (0, 0)) (by (with_reducible repeat (first | refine qH ?_ _ | refine qI ?_ | refine qG ?_ _)); exact BK191.out) hb); have n2_ := qV.mk (qE (by repeat (first | (with_reducible first | exact HB.out | apply qA | apply qB | apply qC | refine qD ?_ GE190.out | refine qD ?_ GE191.out) | exact HB.out)) hb); clear BK190 BK191 HB; have BK190 := n0_; have BK191 := n1_; have HB := n2_; clear n0_ n1_ n2_; (try clear hb); (try clear hb2); (try clear hk); (try clear hi)))
   go_ret
   exact ⟨by first | rfl | (simp [zS, zR] <;> rfl) | (simp [*, zS, zR] <;> rfl), by repeat (first | (with_reducible first | exact HB.out | apply qA | apply qB | apply qC | refine qD ?_ GE190.out | refine qD ?_ GE191.out) | exact HB.out)⟩
 ·rw [if_neg c3] at H
  have c3b0 : (a0_0 == a1_0) = false := beq_eq_false_iff_ne.mpr c3
  have c3b1 : (a0_0 != a1_0) = true := bne_iff_ne.mpr c3
  obtain rfl := Option.some.inj H
  go_enter Tryd.func39, Tryd.ntmps39
  go_wp2_with (first | ((with_reducible refine gate_dst (N := 2) rfl ?_); refine qX ?hg (N := 2) ?hd (cs := #[.int .i64 a0_0, .slice A0_1 l0_1.length c0_1, .slice A0_2 l0_2.length c0_2, .int .i64 a0_3]) (t := 66) ?hr ?_; (case hd => rfl); (case hg => rfl); (case hr => first | (go_simp; done) | (go_simp; rfl)); intro gb190 hg w18 hbox hb; have n0_ := qV.mk (qE (by repeat (first | (with_reducible first | exact HB.out | apply qA | apply qB | apply qC) | exact HB.out)) hb); have n1_ := qV.mk (hbox); have n2_ := qV.mk ((by rw [hg]; exact (qF (by repeat (first | (with_reducible first | exact HB.out | apply qA | apply qB | apply qC) | exact HB.out))) : w.heap.size ≤ gb190)); have n3_ := qV.mk ((by rw [hg]; exact (qF (by repeat (first | (with_reducible first | exact HB.out | apply qA | apply qB | apply qC) | exact HB.out))) : w.heap.size ≤ gb190)); clear HB; have HB := n0_; have BK190 := n1_; have GW190 := n2_; have GE190 := n3_; clear n0_ n1_ n2_ n3_; clear hb hbox hg) | ((with_reducible refine gate_dst (N := 3) rfl ?_); refine qX ?hg (N := 3) ?hd (cs := #[.int .i64 a1_0, .slice A1_1 l1_1.length c1_1, .slice A1_2 l1_2.length c1_2, .int .i64 a1_3]) (t := 66) ?hr ?_; (case hd => rfl); (case hg => rfl); (case hr => first | (go_simp; done) | (go_simp; rfl)); intro gb191 hg w19 hbox hb; have n0_ := qV.mk (qL (g := gb190) (o := .cells #[.int .i64 a0_0, .slice A0_1 l0_1.length c0_1, .slice A0_2 l0_2.length c0_2, .int .i64 a0_3] 66 (0, 0)) (by (with_reducible repeat (first | refine qH ?_ _ | refine qI ?_ | refine qG ?_ _)); exact BK190.out) hb); have n1_ := qV.mk (qE (by repeat (first | (with_reducible first | exact HB.out | apply qA | apply qB | apply qC | refine qD ?_ GE190.out) | exact HB.out)) hb); have n2_ := qV.mk (hbox); have n3_ := qV.mk ((by rw [hg]; exact (qF (by repeat (first | (with_reducible first | exact HB.out | apply qA | apply qB | apply qC | refine qD ?_ GE190.out) | exact HB.out))) : w.heap.size ≤ gb191)); have n4_ := qV.mk ((by rw [hg]; exact (qF (by repeat (first | (with_reducible first | exact HB.out | apply qA | apply qB | apply qC | refine qD ?_ GE190.out) | exact HB.out))) : w.heap.size ≤ gb191)); have n5_ := qV.mk ((by rw [hg]; exact Nat.ne_of_lt (jR (g := gb190) (o := .cells #[.int .i64 a0_0, .slice A0_1 l0_1.length c0_1, .slice A0_2 l0_2.length c0_2, .int .i64 a0_3] 66 (0, 0)) (by (with_reducible repeat (first | refine qH ?_ _ | refine qI ?_ | refine qG ?_ _)); exact BK190.out)) : gb190 ≠ gb191)); have n6_ := qV.mk ((by rw [hg]; exact Nat.ne_of_gt (jR (g := gb190) (o := .cells #[.int .i64 a0_0, .slice A0_1 l0_1.length c0_1, .slice A0_2 l0_2.length c0_2, .int .i64 a0_3] 66 (0, 0)) (by (with_reducible repeat (first | refine qH ?_ _ | refine qI ?_ | refine qG ?_ _)); exact BK190.out)) : gb191 ≠ gb190)); clear BK190 HB; have BK190 := n0_; have HB := n1_; have BK191 := n2_; have GW191 := n3_; have GE191 := n4_; have NB190_191 := n5_; have NB191_190 := n6_; clear n0_ n1_ n2_ n3_ n4_ n5_ n6_ hb hbox hg; have hnb20 := NB190_191.out; have hnc20 := NB191_190.out; have hcz21_0 : w19.cell? ⟨gb190, 0, none⟩ = some (.int .i64 a0_0) := (qJ BK190.out 0).trans rfl; have hcz21_1 : w19.cell? ⟨gb190, 1, none⟩ = some (.slice A0_1 l0_1.length c0_1) := (qJ BK190.out 1).trans rfl; have hcz21_2 : w19.cell? ⟨gb190, 2, none⟩ = some (.slice A0_2 l0_2.length c0_2) := (qJ BK190.out 2).trans rfl; have hcz21_3 : w19.cell? ⟨gb190, 3, none⟩ = some (.int .i64 a0_3) := (qJ BK190.out 3).trans rfl; have hfz21_0 := qK BK190.out 0; have hfz21_1 := qK BK190.out 1; have hfz21_2 := qK BK190.out 2; have hfz21_3 := qK BK190.out 3; have hcz22_0 : w19.cell? ⟨gb191, 0, none⟩ = some (.int .i64 a1_0) := (qJ BK191.out 0).trans rfl; have hcz22_1 : w19.cell? ⟨gb191, 1, none⟩ = some (.slice A1_1 l1_1.length c1_1) := (qJ BK191.out 1).trans rfl; have hcz22_2 : w19.cell? ⟨gb191, 2, none⟩ = some (.slice A1_2 l1_2.length c1_2) := (qJ BK191.out 2).trans rfl; have hcz22_3 : w19.cell? ⟨gb191, 3, none⟩ = some (.int .i64 a1_3) := (qJ BK191.out 3).trans rfl; have hfz22_0 := qK BK191.out 0; have hfz22_1 := qK BK191.out 1; have hfz22_2 := qK BK191.out 2; have hfz22_3 := qK BK191.out 3))
  go_ret
  exact ⟨by first | rfl | (simp [zS, zR] <;> rfl) | (simp [*, zS, zR] <;> rfl), by repeat (first | (with_reducible first | exact HB.out | apply qA | apply qB | apply qC | refine qD ?_ GE190.out | refine qD ?_ GE191.out) | exact HB.out)⟩

def zQ.f (a0 : Int) (a1_0 : Int) (a1_1 : Int) (a1_2 : Int) : Option (Bool) := if a1_1.toNat < 18446744073709551616 ∧ a1_2.toNat < 18446744073709551616 then some (Vc.vcell a0 a1_0 a1_1.toNat a1_2.toNat) else none
theorem zQ.calls (a0 : Int) (a1_0 : Int) (a1_1 : Int) (a1_2 : Int) (r : Bool) (w : World) (h : zQ.f a0 a1_0 a1_1 a1_2 = some r) :
  Calls Tryd.prog 17 #[.int .i64 a0, .agg #[.int .i64 a1_0, .float .f64 (Int.toNat a1_1), .float .f64 (Int.toNat a1_2)]] w fun e w' => e = .returned (.bool r) ∧ Below w.heap.size w w' := by
 unfold zQ.f at h
 split at h
 ·rename_i hb
  obtain rfl := Option.some.inj h
  exact Vc.spec_vcell a0 a1_0 a1_1.toNat a1_2.toNat hb.1 hb.2 w
 ·cases h

def spec_l1IsDType.f (a0 : Int) : Option (Bool) := if a0 ≥ 1 then (some (decide (a0 ≤ 9))) else (some false)
set_option maxHeartbeats 8000000 in
set_option maxRecDepth 100000 in
theorem spec_l1IsDType.calls (a0 : Int) (r : Bool) (w : World) (h : spec_l1IsDType.f a0 = some r) :
  Calls Tryd.prog 65 #[.int .i64 a0] w fun e w' => e = .returned (.bool r) ∧ zI w w' := by
 have H : (if a0 ≥ 1 then (some (decide (a0 ≤ 9))) else (some false)) = some r := h
 clear h
 by_cases c2 : a0 ≥ 1
 ·rw [if_pos c2] at H
  have c2b0 : decide (1 ≤ a0) = true := decide_eq_true c2
  clear c2
  obtain rfl := Option.some.inj H
  go_enter Tryd.func65, Tryd.ntmps65
  go_wp2
  go_ret
  exact ⟨by first | rfl | (simp; done) | (simp [*]; done), by repeat (first | exact zI.refl _ | apply zI.step)⟩
 ·rw [if_neg c2] at H
  have c2b0 : decide (1 ≤ a0) = false := decide_eq_false c2
  clear c2
  obtain rfl := Option.some.inj H
  go_enter Tryd.func65, Tryd.ntmps65
  go_wp2
  go_ret
  exact ⟨by first | rfl | (simp; done) | (simp [*]; done), by repeat (first | exact zI.refl _ | apply zI.step)⟩

end Go.Proofs.YtpmdgmnpkdoamabDoor.DFnExactRead
