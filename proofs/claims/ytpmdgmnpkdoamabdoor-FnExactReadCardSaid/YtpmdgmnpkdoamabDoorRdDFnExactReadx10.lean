/- Proved here: what the functions answer that the law on Read comes to (the lines were written by a program). Conditions: those that stand ahead in each theorem. -/
import Derived.Test.YtpmdgmnpkdoamabDoorRdDFnExactReadx0
import Derived.Test.YtpmdgmnpkdoamabDoorRdDFnExactReadx9
namespace Go.Proofs.YtpmdgmnpkdoamabDoor.DFnExactRead
open Go.RowKit Go.Proofs.YtpmdgmnpkdoamabDoorW.PrintWords Go.Proofs.YtpmdgmnpkdoamabDoorW.PrintLast Go.Proofs.YtpmdgmnpkdoamabDoorW.PrintMore
attribute [local go_sem] fcv_nat Vc.run_store_float' max2_int min2_int max_two min_two max_three min_three max_four min_four   -- for this text's walks alone
set_option linter.unusedVariables false
set_option linter.unusedSimpArgs false

def laws_markArray.f (k : Nat) (a0_0 : Int) (l0_1 : List Int) (l0_2 : List Int) (a0_3 : Int) (a1 : Int) : Option (Int × List Int × List Int) := (laws_markView.f k l0_1 l0_2 a0_3 a1).bind fun bt314 => (some (bt314.1, bt314.2.1, bt314.2.2))
theorem laws_markArray.mono : ∀ a0 a1 a2 a3 a4 k, LeO (laws_markArray.f k a0 a1 a2 a3 a4) (laws_markArray.f (k + 1) a0 a1 a2 a3 a4) := by
 intro a0 a1 a2 a3 a4 k
 unfold laws_markArray.f
 repeat' first
   | (with_reducible exact laws_markView.mono _ _ _ _ _)
   | (with_reducible exact LeO.refl _)
   | (with_reducible exact LeO.none _)
   | (with_reducible refine LeO.ite ?_ ?_)
   | (with_reducible refine LeO.bind ?_ (fun _ => ?_))
   | exact laws_markView.mono _ _ _ _ _
   | exact LeO.none _
   | refine LeO.ite ?_ ?_
   | refine LeO.bind ?_ (fun _ => ?_)
set_option maxHeartbeats 8000000 in
set_option maxRecDepth 100000 in
theorem laws_markArray.calls (k : Nat) (a0_0 : Int) (P0_1_ : Nat → Prop) (u9000_ : Value) (l0_1 : List Int) (P0_2_ : Nat → Prop) (u9001_ : Value) (l0_2 : List Int) (a0_3 : Int) (a1 : Int) (r1 : Int) (r2 : List Int) (r3 : List Int) (w0 w : World) (hB : Below w0.heap.size w0 w) (ho0_1 : Kd.R (Kd.int .i64) 2 w w0.heap.size P0_1_ u9000_ l0_1) (hp0_1_0_2 : ∀ k_, P0_1_ k_ → ¬ P0_2_ k_) (ho0_2 : Kd.R (Kd.int .i64) 2 w w0.heap.size P0_2_ u9001_ l0_2) (hp0_2_0_1 : ∀ k_, P0_2_ k_ → ¬ P0_1_ k_) (h : laws_markArray.f k a0_0 l0_1 l0_2 a0_3 a1 = some (r1, r2, r3)) :
  Calls Tryd.prog 49 #[.agg #[.int .i64 a0_0, u9000_, u9001_, .int .i64 a0_3], .int .i64 a1] w fun e w' => e = .returned (.int .i64 r1) ∧ Kd.R (Kd.int .i64) 2 w' w0.heap.size (fun k_ => ((P0_1_ k_ ∨ P0_2_ k_) ∨ w.heap.size ≤ k_)) u9000_ r2 ∧ Kd.R (Kd.int .i64) 2 w' w0.heap.size (fun k_ => ((P0_1_ k_ ∨ P0_2_ k_) ∨ w.heap.size ≤ k_)) u9001_ r3 ∧ Below w0.heap.size w0 w' ∧ Kept w w' (fun k_ => P0_1_ k_ ∨ P0_2_ k_) := by
 have hu66 := Tryd.underlying66
 have hu64 := Tryd.underlying64
 have HO0_1 := qV.mk (show Kd.R (Kd.int .i64) 2 w w0.heap.size (fun k_ => ((P0_1_ k_ ∨ P0_2_ k_) ∨ w.heap.size ≤ k_) ∧ some k_ ≠ (u9001_ : Value).ownBlock) u9000_ l0_1 from Kd.zG ho0_1 (fun k_ hk => ⟨(.inl (.inl hk)), fun e_ => hp0_1_0_2 k_ hk (ho0_2.1 k_ e_.symm)⟩))
 have HO0_2 := qV.mk (show Kd.R (Kd.int .i64) 2 w w0.heap.size (fun k_ => ((P0_1_ k_ ∨ P0_2_ k_) ∨ w.heap.size ≤ k_) ∧ some k_ ≠ (u9000_ : Value).ownBlock) u9001_ l0_2 from Kd.zG ho0_2 (fun k_ hk => ⟨(.inl (.inr hk)), fun e_ => hp0_2_0_1 k_ hk (ho0_1.1 k_ e_.symm)⟩))
 have HK := qV.mk (Kept.refl w (fun k_ => P0_1_ k_ ∨ P0_2_ k_))
 have HW0 := qV.mk hB.size
 have HB := qV.mk hB
 clear hB
 have H : ((laws_markView.f k l0_1 l0_2 a0_3 a1).bind fun bt314 => (some (bt314.1, bt314.2.1, bt314.2.2))) = some (r1, r2, r3) := h
 clear h
 replace H := Option.bind_eq_some_iff.mp H
 obtain ⟨⟨t314, t315, t316⟩, A30, H⟩ := H
 try dsimp only at H
 have A3 := qV.mk A30
 clear A30
 simp only [Option.some.injEq, Prod.mk.injEq] at H
 obtain ⟨rfl, rfl, rfl⟩ := H
 obtain ⟨Ao4, co4, eo4⟩ := Kd.zB HO0_1.out
 subst eo4
 obtain ⟨Ao5, co5, eo5⟩ := Kd.zB HO0_2.out
 subst eo5
 go_enter Tryd.func49, Tryd.ntmps49
 go_wp2_with (first | ((with_reducible refine gate_dst (N := 2) rfl ?_); refine qX ?hg (N := 2) ?hd (cs := #[.int .i64 a0_0, .slice Ao4 l0_1.length co4, .slice Ao5 l0_2.length co5, .int .i64 a0_3]) (t := 66) ?hr ?_; (case hd => rfl); (case hg => rfl); (case hr => first | (go_simp; done) | (go_simp; rfl)); intro gb313 hg w6 hbox hb; have n0_ := qV.mk (Kd.qY (by (with_reducible repeat (first | apply Kd.qM | apply Kd.qN | apply Kd.qO)); exact HO0_1.out) hb); have n1_ := qV.mk (Kd.qY (by (with_reducible repeat (first | apply Kd.qM | apply Kd.qN | apply Kd.qO)); exact HO0_2.out) hb); have n2_ := qV.mk (Kept.below (S := (fun k_ => P0_1_ k_ ∨ P0_2_ k_)) (by repeat (first | (with_reducible first | exact HK.out | apply Kept.alloc | apply Kept.drewN | apply Kept.drew) | exact HK.out)) hb); have n3_ := qV.mk (qE (by repeat (first | (with_reducible first | exact HB.out | apply qA | apply qB | apply qC) | exact HB.out)) hb); have n4_ := qV.mk (hbox); have n5_ := qV.mk ((by rw [hg]; exact (by first | exact HK.out.1 | exact (show Kept w _ (fun k_ => P0_1_ k_ ∨ P0_2_ k_) from by repeat (first | (with_reducible first | exact HK.out | apply Kept.alloc | apply Kept.drewN | apply Kept.drew) | exact HK.out)).1) : w.heap.size ≤ gb313)); have n6_ := qV.mk ((by rw [hg]; exact (qF (by repeat (first | (with_reducible first | exact HB.out | apply qA | apply qB | apply qC) | exact HB.out))) : w0.heap.size ≤ gb313)); clear HO0_1 HO0_2 HK HB; have HO0_1 := n0_; have HO0_2 := n1_; have HK := n2_; have HB := n3_; have BK313 := n4_; have GW313 := n5_; have GE313 := n6_; clear n0_ n1_ n2_ n3_ n4_ n5_ n6_ hb hbox hg; have hcz7_0 : w6.cell? ⟨gb313, 0, none⟩ = some (.int .i64 a0_0) := (qJ BK313.out 0).trans rfl; have hcz7_1 : w6.cell? ⟨gb313, 1, none⟩ = some (.slice Ao4 l0_1.length co4) := (qJ BK313.out 1).trans rfl; have hcz7_2 : w6.cell? ⟨gb313, 2, none⟩ = some (.slice Ao5 l0_2.length co5) := (qJ BK313.out 2).trans rfl; have hcz7_3 : w6.cell? ⟨gb313, 3, none⟩ = some (.int .i64 a0_3) := (qJ BK313.out 3).trans rfl; have hfz7_0 := qK BK313.out 0; have hfz7_1 := qK BK313.out 1; have hfz7_2 := qK BK313.out 2; have hfz7_3 := qK BK313.out 3) | ((with_reducible refine gate_callee (f := 114) rfl ?_); refine qW (some 8) rfl rfl Tryd.func114 (by kernel_rfl) rfl #[.agg #[.slice Ao4 l0_1.length co4, .slice Ao5 l0_2.length co5, .int .i64 a0_3], .int .i64 a1] rfl (by (try simp only [List.map_toArray, List.map_cons, List.map_nil]); first | done | rfl) ?_; (with_reducible refine (laws_markView.calls k (fun k_ => some k_ = (.slice Ao4 l0_1.length co4 : Value).ownBlock) (.slice Ao4 l0_1.length co4) l0_1 (fun k_ => some k_ = (.slice Ao5 l0_2.length co5 : Value).ownBlock) (.slice Ao5 l0_2.length co5) l0_2 a0_3 a1 t314 t315 t316 w0 _ ?side1 ?side2 ?side3 ?side4 ?side5 A3.out).mono ?_); (case side1 => repeat (first | (with_reducible first | exact HB.out | apply qA | apply qB | apply qC | refine qD ?_ GE313.out) | exact HB.out)); (case side2 => exact Kd.zK rfl HO0_1.out); (case side3 => exact fun k_ e_ => (HO0_1.out.1 k_ e_.symm).2); (case side4 => exact Kd.zK rfl HO0_2.out); (case side5 => exact fun k_ e_ => (HO0_2.out.1 k_ e_.symm).2); rintro e w8 ⟨rfl, hy0, hy1, hb, hkp⟩; refine ⟨_, rfl, ?_⟩; have n0_ := qV.mk (Kd.R_reok rfl hy0 (fun k_ e_ => HO0_1.out.1 k_ e_)); have n1_ := qV.mk (Kd.R_reok rfl hy1 (fun k_ e_ => HO0_2.out.1 k_ e_)); have n2_ := qV.mk (zO (by (with_reducible repeat (first | refine qH ?_ _ | refine qI ?_ | refine qG ?_ _)); exact BK313.out) hkp (fun hs_ => Or.elim hs_ (fun e_ => (fun e_ => (Kd.R_ne HO0_1.out BK313.out (by decide)) e_) e_) (fun e_ => (fun e_ => (Kd.R_ne HO0_2.out BK313.out (by decide)) e_) e_))); have n3_ := qV.mk (Kept.then_ (S := (fun k_ => P0_1_ k_ ∨ P0_2_ k_)) (by repeat (first | (with_reducible first | exact HK.out | apply Kept.alloc | apply Kept.drewN | apply Kept.drew | refine Kept.setCell ?_ (.inr GW313.out) _) | exact HK.out)) hkp (fun k_ hs_ => Or.elim hs_ (fun e_ => (fun e_ => (HO0_1.out.1 k_ e_.symm).1) e_) (fun e_ => (fun e_ => (HO0_2.out.1 k_ e_.symm).1) e_))); have n4_ := qV.mk (hb); clear HO0_1 HO0_2 BK313 HK HB; have HO0_1 := n0_; have HO0_2 := n1_; have BK313 := n2_; have HK := n3_; have HB := n4_; clear n0_ n1_ n2_ n3_ n4_; (try clear hb); (try clear hkp); (try clear hy0); (try clear hy1)))
 go_ret
 exact ⟨by first | rfl | (simp [zS, zR] <;> rfl) | (simp [*, zS, zR] <;> rfl), by (with_reducible repeat (first | apply Kd.qM | apply Kd.qN | apply Kd.qO)); exact Kd.zG HO0_1.out (fun _ hk => hk.1), by (with_reducible repeat (first | apply Kd.qM | apply Kd.qN | apply Kd.qO)); exact Kd.zG HO0_2.out (fun _ hk => hk.1), by repeat (first | (with_reducible first | exact HB.out | apply qA | apply qB | apply qC | refine qD ?_ GE313.out) | exact HB.out), by repeat (first | (with_reducible first | exact HK.out | apply Kept.alloc | apply Kept.drewN | apply Kept.drew | refine Kept.setCell ?_ (.inr GW313.out) _) | exact HK.out)⟩

def jC.l0 : Nat → List (S27) → Int → Int → Option (Int × (List (S27)))
 | 0, _, _, _ => none
 | k + 1, x0, x1, x5 => if x5 < (x0.length : Int) then (if 0 ≤ x5 then ((some (x0.set (x5 : Int).toNat (⟨x1, (zU x0 x5).f1, (zU x0 x5).f2⟩ : S27) : List (S27))).bind fun y317 => ((some (y317.set (x5 : Int).toNat (⟨(zU y317 x5).f0, fcv (wrap64 (x1 + 1)), (zU y317 x5).f2⟩ : S27) : List (S27))).bind fun y318 => (jC.l0 k (y318.set (x5 : Int).toNat (⟨(zU y318 x5).f0, (zU y318 x5).f1, fcv (wrap64 ((wrap64 (x1 + 1)) + 1))⟩ : S27)) (wrap64 ((wrap64 ((wrap64 (x1 + 1)) + 1)) + 1)) (wrap64 (x5 + 1))))) else (none)) else (some (x1, x0))
def jC.f (k : Nat) (l0 : List (S27)) (a1 : Int) : Option (Int × (List (S27))) := jC.l0 k l0 a1 0
theorem jC.mono_l : ∀ k, (∀ y0 y1 y2, LeO (jC.l0 k y0 y1 y2) (jC.l0 (k + 1) y0 y1 y2))
 | 0 => fun _ _ _ r h => by simp [jC.l0] at h
 | k + 1 => by
  have ih0 := jC.mono_l k
  ·intro y0 y1 y2
   unfold jC.l0
   repeat' first
   | (with_reducible exact ih0 _ _ _)
   | (with_reducible exact LeO.refl _)
   | (with_reducible exact LeO.none _)
   | (with_reducible refine LeO.ite ?_ ?_)
   | (with_reducible refine LeO.bind ?_ (fun _ => ?_))
   | exact ih0 _ _ _
   | exact LeO.none _
   | refine LeO.ite ?_ ?_
   | refine LeO.bind ?_ (fun _ => ?_)
theorem jC.mono : ∀ a0 a1 k, LeO (jC.f k a0 a1) (jC.f (k + 1) a0 a1) := by
 intro a0 a1 k
 have ih0 := jC.mono_l k
 unfold jC.f
 repeat' first
   | (with_reducible exact ih0 _ _ _)
   | (with_reducible exact LeO.refl _)
   | (with_reducible exact LeO.none _)
   | (with_reducible refine LeO.ite ?_ ?_)
   | (with_reducible refine LeO.bind ?_ (fun _ => ?_))
   | exact ih0 _ _ _
   | exact LeO.none _
   | refine LeO.ite ?_ ?_
   | refine LeO.bind ?_ (fun _ => ?_)
set_option maxHeartbeats 8000000 in
set_option maxRecDepth 100000 in
theorem jC.calls (k : Nat) (P0_ : Nat → Prop) (u9000_ : Value) (l0 : List (S27)) (a1 : Int) (r1 : Int) (r2 : List (S27)) (w0 w : World) (hB : Below w0.heap.size w0 w) (ho0 : Kd.R k27 27 w w0.heap.size P0_ u9000_ l0) (h : jC.f k l0 a1 = some (r1, r2)) :
  Calls Tryd.prog 50 #[u9000_, .int .i64 a1] w fun e w' => e = .returned (.int .i64 r1) ∧ Kd.R k27 27 w' w0.heap.size (fun k_ => (P0_ k_ ∨ w.heap.size ≤ k_)) u9000_ r2 ∧ Below w0.heap.size w0 w' ∧ Kept w w' (fun k_ => P0_ k_) := by
 have HO0 := qV.mk (show Kd.R k27 27 w w0.heap.size (fun k_ => (P0_ k_ ∨ w.heap.size ≤ k_)) u9000_ l0 from Kd.zG ho0 (fun k_ hk => (.inl hk)))
 have HK := qV.mk (Kept.refl w (fun k_ => P0_ k_))
 have HW0 := qV.mk hB.size
 have HB := qV.mk hB
 clear hB
 have H : (jC.l0 k l0 a1 0) = some (r1, r2) := h
 clear h
 have H' := qV.mk H
 clear H
 go_enter Tryd.func50, Tryd.ntmps50
 go_wp2
 go_loopg [1, 5] k (fun kq v1 v5 w' => ∃ (x0_1 : List (S27)) (x1_1 : Int) (x5_1 : Int), v1 = .int .i64 x1_1 ∧ v5 = .int .i64 x5_1 ∧ qV (jC.l0 kq x0_1 x1_1 x5_1 = some (r1, r2)) ∧ qV (kq ≤ k) ∧ qV (Kd.R k27 27 w' w0.heap.size (fun k_ => (P0_ k_ ∨ w.heap.size ≤ k_)) u9000_ x0_1) ∧ qV (Kept w w' (fun k_ => P0_ k_)) ∧ qV (Below w0.heap.size w0 w'))
 case atStart => exact ⟨(l0), (a1), (0), (by first | rfl | (simp; done) | (simp [*]; done)), (by first | rfl | (simp; done) | (simp [*]; done)), H', ⟨Nat.le_refl _⟩, ⟨by (with_reducible repeat (first | apply Kd.qM | apply Kd.qN | apply Kd.qO)); exact HO0.out⟩, ⟨by repeat (first | (with_reducible first | exact HK.out | apply Kept.alloc | apply Kept.drewN | apply Kept.drew) | exact HK.out)⟩, ⟨by repeat (first | (with_reducible first | exact HB.out | apply qA | apply qB | apply qC) | exact HB.out)⟩⟩
 case round =>
  clear H'
  try clear p2
  obtain ⟨x0_1, x1_1, x5_1, rfl, rfl, HA, HK1, HO_0, HK, HB⟩ := hrel
  cases gk with
  | zero => exact absurd HA.out (by simp [jC.l0])
  | succ k1 =>
   have H := HA.out
   clear HA
   simp only [jC.l0] at H
   by_cases c3 : x5_1 < (x0_1.length : Int)
   ·rw [if_pos c3] at H
    have c3b0 : decide (x5_1 < (x0_1.length : Int)) = true := decide_eq_true c3
    clear c3
    by_cases c4 : 0 ≤ x5_1
    ·rw [if_pos c4] at H
     have c4b0 : decide (0 ≤ x5_1) = true := decide_eq_true c4
     clear c4
     obtain ⟨y317, hy317⟩ : ∃ y_ : List (S27), y_ = (x0_1.set (x5_1 : Int).toNat (⟨x1_1, (zU x0_1 x5_1).f1, (zU x0_1 x5_1).f2⟩ : S27)) := ⟨_, rfl⟩
     replace H : ((some (y317.set (x5_1 : Int).toNat (⟨(zU y317 x5_1).f0, fcv (wrap64 (x1_1 + 1)), (zU y317 x5_1).f2⟩ : S27) : List (S27))).bind fun y318 => (jC.l0 k1 (y318.set (x5_1 : Int).toNat (⟨(zU y318 x5_1).f0, (zU y318 x5_1).f1, fcv (wrap64 ((wrap64 (x1_1 + 1)) + 1))⟩ : S27)) (wrap64 ((wrap64 ((wrap64 (x1_1 + 1)) + 1)) + 1)) (wrap64 (x5_1 + 1)))) = some (r1, r2) := by first | (rw [hy317]; with_reducible exact H) | (have H2_ := (Option.bind_some _ _).symm.trans H; rw [hy317]; with_reducible exact H2_) | (have H2_ := (Option.bind_some _ _).symm.trans H; with_reducible exact H2_) | with_reducible exact H | (rw [hy317]; exact H) | exact H
     have Ny317 := qV.mk hy317
     clear hy317
     obtain ⟨y318, hy318⟩ : ∃ y_ : List (S27), y_ = (y317.set (x5_1 : Int).toNat (⟨(zU y317 x5_1).f0, fcv (wrap64 (x1_1 + 1)), (zU y317 x5_1).f2⟩ : S27)) := ⟨_, rfl⟩
     replace H : (jC.l0 k1 (y318.set (x5_1 : Int).toNat (⟨(zU y318 x5_1).f0, (zU y318 x5_1).f1, fcv (wrap64 ((wrap64 (x1_1 + 1)) + 1))⟩ : S27)) (wrap64 ((wrap64 ((wrap64 (x1_1 + 1)) + 1)) + 1)) (wrap64 (x5_1 + 1))) = some (r1, r2) := by first | (rw [hy318]; with_reducible exact H) | (have H2_ := (Option.bind_some _ _).symm.trans H; rw [hy318]; with_reducible exact H2_) | (have H2_ := (Option.bind_some _ _).symm.trans H; with_reducible exact H2_) | with_reducible exact H | (rw [hy318]; exact H) | exact H
     have Ny318 := qV.mk hy318
     clear hy318
     obtain ⟨y319, hy319⟩ : ∃ y_ : List (S27), y_ = (y318.set (x5_1 : Int).toNat (⟨(zU y318 x5_1).f0, (zU y318 x5_1).f1, fcv (wrap64 ((wrap64 (x1_1 + 1)) + 1))⟩ : S27)) := ⟨_, rfl⟩
     replace H : (jC.l0 k1 y319 (wrap64 ((wrap64 ((wrap64 (x1_1 + 1)) + 1)) + 1)) (wrap64 (x5_1 + 1))) = some (r1, r2) := by first | (rw [hy319]; with_reducible exact H) | (have H2_ := (Option.bind_some _ _).symm.trans H; rw [hy319]; with_reducible exact H2_) | (have H2_ := (Option.bind_some _ _).symm.trans H; with_reducible exact H2_) | with_reducible exact H | (rw [hy319]; exact H) | exact H
     have Ny319 := qV.mk hy319
     clear hy319
     have H' := qV.mk H
     clear H
     obtain ⟨Ao8, co8, eo8⟩ := Kd.zB HO_0.out
     subst eo8
     have p5 : 0 ≤ (x5_1 : Int) := of_decide_eq_true (by assumption)
     have q5 : (x5_1 : Int) < ((x0_1.length : Int) : Int) := of_decide_eq_true (by assumption)
     obtain ⟨go5, co5, eo5, gb5, gl5, cl5, HG5⟩ := Kd.R_form HO_0.out (by omega)
     (first | cases eo5 | (injection eo5 with ea_ en_ ec_; (first | subst ea_ | (injection ea_ with ea_; subst ea_)); subst ec_; clear en_))
     have GB5 := qV.mk gb5
     have GG5 := qV.mk HG5
     clear gb5 gl5 HG5
     have HMgo5 := qV.mk (show (P0_ go5 ∨ w.heap.size ≤ go5) from (HO_0.out.1 _ rfl))
     obtain ⟨ce5, hcl5, hM5, hcc5, hfr5⟩ := Kd.R_elem HO_0.out z27 (x5_1 : Int) p5 q5
     obtain rfl := k27_openM hM5
     have hx5_0 : wr.cell? ⟨go5, (x5_1 : Int).toNat * 3, none⟩ = some (.int .i64 ((zU x0_1 x5_1).f0)) := hcc5 0 _ rfl
     have hx5_1 : wr.cell? ⟨go5, (x5_1 : Int).toNat * 3 + 1, none⟩ = some (.float .f64 (Int.toNat ((zU x0_1 x5_1).f1))) := hcc5 1 _ rfl
     have hx5_2 : wr.cell? ⟨go5, (x5_1 : Int).toNat * 3 + 2, none⟩ = some (.float .f64 (Int.toNat ((zU x0_1 x5_1).f2))) := hcc5 2 _ rfl
     have hf5_0 : wr.frozen? ⟨go5, (x5_1 : Int).toNat * 3, none⟩ = false := hfr5 0
     have hf5_1 : wr.frozen? ⟨go5, (x5_1 : Int).toNat * 3 + 1, none⟩ = false := hfr5 1
     have hf5_2 : wr.frozen? ⟨go5, (x5_1 : Int).toNat * 3 + 2, none⟩ = false := hfr5 2
     clear hcl5 hcc5 hfr5 hM5
     replace p5 := eq_true p5
     replace q5 := eq_true q5
     have HX9 := qV.mk (show Kd.R k27 27 wr w0.heap.size (fun k_ => (P0_ k_ ∨ w.heap.size ≤ k_)) (.slice (some ⟨go5, 0, none⟩) x0_1.length co8) x0_1 from (by (with_reducible repeat (first | apply Kd.qM | apply Kd.qN | apply Kd.qO)); exact HO_0.out))
     obtain ⟨ce9, hcl9, hM9, hcc9, hfr9⟩ := Kd.R_elem HX9.out z27 (x5_1 : Int) (of_decide_eq_true (by assumption)) (by have h_ : (x5_1 : Int) < ((x0_1.length : Int) : Int) := of_decide_eq_true (by assumption); first | exact h_ | (have e_ := (Kd.zC HO_0.out).1; omega) | simpa using h_)
     obtain rfl := k27_openM hM9
     have HP9 := Kd.R_seg HX9.out (x5_1 : Int) (of_decide_eq_true (by assumption)) (by have h_ : (x5_1 : Int) < ((x0_1.length : Int) : Int) := of_decide_eq_true (by assumption); first | exact h_ | (have e_ := (Kd.zC HO_0.out).1; omega) | simpa using h_) (seg := [.int .i64 x1_1]) (j := 0) hcl9 hcc9 (show 1 ≤ 3 from by decide) (x' := (⟨x1_1, (zU x0_1 x5_1).f1, (zU x0_1 x5_1).f2⟩ : S27)) (k27_mkM _ _ _ (⟨x1_1, (zU x0_1 x5_1).f1, (zU x0_1 x5_1).f2⟩ : S27) ) (fun _ hk => hk)
     have hx9_0 := hcc9 0 _ rfl
     (try simp only [show (k27).sz = 3 from rfl, Nat.mul_one, Nat.add_zero] at hx9_0)
     have hf9_0 := hfr9 0
     (try simp only [show (k27).sz = 3 from rfl, Nat.mul_one, Nat.add_zero] at hf9_0)
     clear hcl9 hcc9 hfr9 hM9
     go_wp2_with (first | ((with_reducible refine gate_store (t := 2) (p := 16) rfl ?_); refine zJ (t := 2) (p := 16) (v := ?vo_w10) (w1 := (wr.setCell ⟨go5, (x5_1 : Int).toNat * 3, none⟩ (.int .i64 x1_1))) ?hg ?ho ?hn ?hr ?_; (case ho => rfl); (case hg => rfl); (case hn => rfl); (case hr => first | (go_simp; done) | (go_simp; rfl)); intro w10 hw; have hg : wr.grownBy w10 (some go5) := (by rw [hw]; exact HP9.2); have hp_ : Kd.R k27 27 w10 w0.heap.size (fun k_ => (P0_ k_ ∨ w.heap.size ≤ k_)) (.slice (some ⟨go5, 0, none⟩) x0_1.length co8) y317 := (by rw [hw, Ny317.out]; exact HP9.1); clear HP9; have n0_ := qV.mk (hp_); have n1_ := qV.mk ((by rw [hw]; exact qD (HB.out) GB5.out : Below w0.heap.size w0 w10)); have n2_ := qV.mk (Kept.of_grown (S := (fun k_ => P0_ k_)) hg (by repeat (first | (with_reducible first | exact HK.out | apply Kept.alloc | apply Kept.drewN | apply Kept.drew) | exact HK.out)) (fun k_ e_ => (HO_0.out.1 k_ e_))); clear HO_0 HB HK; have HO_0 := n0_; have HB := n1_; have HK := n2_; clear n0_ n1_ n2_ hg hw hp_; have p6 : 0 ≤ (x5_1 : Int) := of_decide_eq_true (by assumption); have q6 : (x5_1 : Int) < ((x0_1.length : Int) : Int) := of_decide_eq_true (by assumption); obtain ⟨ce6, hcl6, hM6, hcc6, hfr6⟩ := Kd.R_elem HO_0.out z27 (x5_1 : Int) p6 q6; obtain rfl := k27_openM hM6; have hx6_0 : w10.cell? ⟨go5, (x5_1 : Int).toNat * 3, none⟩ = some (.int .i64 ((zU y317 x5_1).f0)) := hcc6 0 _ rfl; have hx6_1 : w10.cell? ⟨go5, (x5_1 : Int).toNat * 3 + 1, none⟩ = some (.float .f64 (Int.toNat ((zU y317 x5_1).f1))) := hcc6 1 _ rfl; have hx6_2 : w10.cell? ⟨go5, (x5_1 : Int).toNat * 3 + 2, none⟩ = some (.float .f64 (Int.toNat ((zU y317 x5_1).f2))) := hcc6 2 _ rfl; have hf6_0 : w10.frozen? ⟨go5, (x5_1 : Int).toNat * 3, none⟩ = false := hfr6 0; have hf6_1 : w10.frozen? ⟨go5, (x5_1 : Int).toNat * 3 + 1, none⟩ = false := hfr6 1; have hf6_2 : w10.frozen? ⟨go5, (x5_1 : Int).toNat * 3 + 2, none⟩ = false := hfr6 2; clear hcl6 hcc6 hfr6 hM6; replace p6 := eq_true p6; replace q6 := eq_true q6; have HX11 := qV.mk (show Kd.R k27 27 w10 w0.heap.size (fun k_ => (P0_ k_ ∨ w.heap.size ≤ k_)) (.slice (some ⟨go5, 0, none⟩) x0_1.length co8) y317 from (by (with_reducible repeat (first | apply Kd.qM | apply Kd.qN | apply Kd.qO)); exact HO_0.out)); obtain ⟨ce11, hcl11, hM11, hcc11, hfr11⟩ := Kd.R_elem HX11.out z27 (x5_1 : Int) (of_decide_eq_true (by assumption)) (by have h_ : (x5_1 : Int) < ((x0_1.length : Int) : Int) := of_decide_eq_true (by assumption); first | exact h_ | (have e_ := (Kd.zC HO_0.out).1; omega) | simpa using h_); obtain rfl := k27_openM hM11; have HP11 := Kd.R_seg HX11.out (x5_1 : Int) (of_decide_eq_true (by assumption)) (by have h_ : (x5_1 : Int) < ((x0_1.length : Int) : Int) := of_decide_eq_true (by assumption); first | exact h_ | (have e_ := (Kd.zC HO_0.out).1; omega) | simpa using h_) (seg := [.float .f64 (Int.toNat (fcv (wrap64 (x1_1 + 1))))]) (j := 1) hcl11 hcc11 (show 2 ≤ 3 from by decide) (x' := (⟨(zU y317 x5_1).f0, fcv (wrap64 (x1_1 + 1)), (zU y317 x5_1).f2⟩ : S27)) (k27_mkM _ _ _ (⟨(zU y317 x5_1).f0, fcv (wrap64 (x1_1 + 1)), (zU y317 x5_1).f2⟩ : S27) ) (fun _ hk => hk); have hx11_1 := hcc11 1 _ rfl; (try simp only [show (k27).sz = 3 from rfl, Nat.mul_one, Nat.add_zero] at hx11_1); have hf11_1 := hfr11 1; (try simp only [show (k27).sz = 3 from rfl, Nat.mul_one, Nat.add_zero] at hf11_1); clear hcl11 hcc11 hfr11 hM11) | ((with_reducible refine gate_store (t := 23) (p := 24) rfl ?_); refine zJ (t := 23) (p := 24) (v := ?vo_w12) (w1 := (w10.setCell ⟨go5, (x5_1 : Int).toNat * 3 + 1, none⟩ (.float .f64 (Int.toNat (fcv (wrap64 (x1_1 + 1))))))) ?hg ?ho ?hn ?hr ?_; (case ho => rfl); (case hg => rfl); (case hn => rfl); (case hr => first | (go_simp; done) | (go_simp; rfl)); intro w12 hw; have hg : w10.grownBy w12 (some go5) := (by rw [hw]; exact HP11.2); have hp_ : Kd.R k27 27 w12 w0.heap.size (fun k_ => (P0_ k_ ∨ w.heap.size ≤ k_)) (.slice (some ⟨go5, 0, none⟩) x0_1.length co8) y318 := (by rw [hw, Ny318.out]; exact HP11.1); clear HP11; have n0_ := qV.mk (hp_); have n1_ := qV.mk ((by rw [hw]; exact qD (HB.out) GB5.out : Below w0.heap.size w0 w12)); have n2_ := qV.mk (Kept.of_grown (S := (fun k_ => P0_ k_)) hg (by repeat (first | (with_reducible first | exact HK.out | apply Kept.alloc | apply Kept.drewN | apply Kept.drew) | exact HK.out)) (fun k_ e_ => (HO_0.out.1 k_ e_))); clear HO_0 HB HK; have HO_0 := n0_; have HB := n1_; have HK := n2_; clear n0_ n1_ n2_ hg hw hp_; have p7 : 0 ≤ (x5_1 : Int) := of_decide_eq_true (by assumption); have q7 : (x5_1 : Int) < ((x0_1.length : Int) : Int) := of_decide_eq_true (by assumption); obtain ⟨ce7, hcl7, hM7, hcc7, hfr7⟩ := Kd.R_elem HO_0.out z27 (x5_1 : Int) p7 q7; obtain rfl := k27_openM hM7; have hx7_0 : w12.cell? ⟨go5, (x5_1 : Int).toNat * 3, none⟩ = some (.int .i64 ((zU y318 x5_1).f0)) := hcc7 0 _ rfl; have hx7_1 : w12.cell? ⟨go5, (x5_1 : Int).toNat * 3 + 1, none⟩ = some (.float .f64 (Int.toNat ((zU y318 x5_1).f1))) := hcc7 1 _ rfl; have hx7_2 : w12.cell? ⟨go5, (x5_1 : Int).toNat * 3 + 2, none⟩ = some (.float .f64 (Int.toNat ((zU y318 x5_1).f2))) := hcc7 2 _ rfl; have hf7_0 : w12.frozen? ⟨go5, (x5_1 : Int).toNat * 3, none⟩ = false := hfr7 0; have hf7_1 : w12.frozen? ⟨go5, (x5_1 : Int).toNat * 3 + 1, none⟩ = false := hfr7 1; have hf7_2 : w12.frozen? ⟨go5, (x5_1 : Int).toNat * 3 + 2, none⟩ = false := hfr7 2; clear hcl7 hcc7 hfr7 hM7; replace p7 := eq_true p7; replace q7 := eq_true q7; have HX13 := qV.mk (show Kd.R k27 27 w12 w0.heap.size (fun k_ => (P0_ k_ ∨ w.heap.size ≤ k_)) (.slice (some ⟨go5, 0, none⟩) x0_1.length co8) y318 from (by (with_reducible repeat (first | apply Kd.qM | apply Kd.qN | apply Kd.qO)); exact HO_0.out)); obtain ⟨ce13, hcl13, hM13, hcc13, hfr13⟩ := Kd.R_elem HX13.out z27 (x5_1 : Int) (of_decide_eq_true (by assumption)) (by have h_ : (x5_1 : Int) < ((x0_1.length : Int) : Int) := of_decide_eq_true (by assumption); first | exact h_ | (have e_ := (Kd.zC HO_0.out).1; omega) | simpa using h_); obtain rfl := k27_openM hM13; have HP13 := Kd.R_seg HX13.out (x5_1 : Int) (of_decide_eq_true (by assumption)) (by have h_ : (x5_1 : Int) < ((x0_1.length : Int) : Int) := of_decide_eq_true (by assumption); first | exact h_ | (have e_ := (Kd.zC HO_0.out).1; omega) | simpa using h_) (seg := [.float .f64 (Int.toNat (fcv (wrap64 ((wrap64 (x1_1 + 1)) + 1))))]) (j := 2) hcl13 hcc13 (show 3 ≤ 3 from by decide) (x' := (⟨(zU y318 x5_1).f0, (zU y318 x5_1).f1, fcv (wrap64 ((wrap64 (x1_1 + 1)) + 1))⟩ : S27)) (k27_mkM _ _ _ (⟨(zU y318 x5_1).f0, (zU y318 x5_1).f1, fcv (wrap64 ((wrap64 (x1_1 + 1)) + 1))⟩ : S27) ) (fun _ hk => hk); have hx13_2 := hcc13 2 _ rfl; (try simp only [show (k27).sz = 3 from rfl, Nat.mul_one, Nat.add_zero] at hx13_2); have hf13_2 := hfr13 2; (try simp only [show (k27).sz = 3 from rfl, Nat.mul_one, Nat.add_zero] at hf13_2); clear hcl13 hcc13 hfr13 hM13) | ((with_reducible refine gate_store (t := 23) (p := 32) rfl ?_); refine zJ (t := 23) (p := 32) (v := ?vo_w14) (w1 := (w12.setCell ⟨go5, (x5_1 : Int).toNat * 3 + 2, none⟩ (.float .f64 (Int.toNat (fcv (wrap64 ((wrap64 (x1_1 + 1)) + 1))))))) ?hg ?ho ?hn ?hr ?_; (case ho => rfl); (case hg => rfl); (case hn => rfl); (case hr => first | (go_simp; done) | (go_simp; rfl)); intro w14 hw; have hg : w12.grownBy w14 (some go5) := (by rw [hw]; exact HP13.2); have hp_ : Kd.R k27 27 w14 w0.heap.size (fun k_ => (P0_ k_ ∨ w.heap.size ≤ k_)) (.slice (some ⟨go5, 0, none⟩) x0_1.length co8) y319 := (by rw [hw, Ny319.out]; exact HP13.1); clear HP13; have n0_ := qV.mk (hp_); have n1_ := qV.mk ((by rw [hw]; exact qD (HB.out) GB5.out : Below w0.heap.size w0 w14)); have n2_ := qV.mk (Kept.of_grown (S := (fun k_ => P0_ k_)) hg (by repeat (first | (with_reducible first | exact HK.out | apply Kept.alloc | apply Kept.drewN | apply Kept.drew) | exact HK.out)) (fun k_ e_ => (HO_0.out.1 k_ e_))); clear HO_0 HB HK; have HO_0 := n0_; have HB := n1_; have HK := n2_; clear n0_ n1_ n2_; clear hg hw hp_))
     go_roundg k1
     case measure => have := HK1.out; omega
     case rel => exact ⟨(y319), (wrap64 ((wrap64 ((wrap64 (x1_1 + 1)) + 1)) + 1)), (wrap64 (x5_1 + 1)), (by first | rfl | (simp; done) | (simp [*]; done)), (by first | rfl | (simp; done) | (simp [*]; done)), H', ⟨by have := HK1.out; omega⟩, ⟨by (with_reducible repeat (first | apply Kd.qM | apply Kd.qN | apply Kd.qO)); exact HO_0.out⟩, ⟨by repeat (first | (with_reducible first | exact HK.out | apply Kept.alloc | apply Kept.drewN | apply Kept.drew) | exact HK.out)⟩, ⟨by repeat (first | (with_reducible first | exact HB.out | apply qA | apply qB | apply qC) | exact HB.out)⟩⟩
    ·rw [if_neg c4] at H
     exact absurd H (by simp)
   ·rw [if_neg c3] at H
    have c3b0 : decide (x5_1 < (x0_1.length : Int)) = false := decide_eq_false c3
    clear c3
    simp only [Option.some.injEq, Prod.mk.injEq] at H
    obtain ⟨rfl, rfl⟩ := H
    obtain ⟨Ao15, co15, eo15⟩ := Kd.zB HO_0.out
    subst eo15
    go_wp2
    go_ret
    exact ⟨by first | rfl | (simp [zS, zR] <;> rfl) | (simp [*, zS, zR] <;> rfl), by (with_reducible repeat (first | apply Kd.qM | apply Kd.qN | apply Kd.qO)); exact HO_0.out, by repeat (first | (with_reducible first | exact HB.out | apply qA | apply qB | apply qC) | exact HB.out), by repeat (first | (with_reducible first | exact HK.out | apply Kept.alloc | apply Kept.drewN | apply Kept.drew) | exact HK.out)⟩

def feq (a b : Int) : Bool := FloatKind.f64.format.order (Int.toNat a) (Int.toNat b) == some .eq
theorem feq_ne {a b : Int} (h : feq a (fcv b) = true) : (FloatKind.f64.format.order (Int.toNat a) (floatOfInt .f64 b) != some .eq) = false := by
 unfold feq at h; rw [fcv_nat] at h; simp [bne, h]
theorem feq_nn {a b : Int} (h : ¬ feq a (fcv b) = true) : (FloatKind.f64.format.order (Int.toNat a) (floatOfInt .f64 b) != some .eq) = true := by
 unfold feq at h; rw [fcv_nat] at h; simp [bne, h]
def jL.l0 : Nat → List (S27) → Int → Int → Option (Int)
 | 0, _, _, _ => none
 | k + 1, x0, x1, x5 => if x5 < (x0.length : Int) then (if 0 ≤ x5 then (if ((zU x0 x5).f0) = x1 then (if feq ((zU x0 x5).f1) (fcv (wrap64 (x1 + 1))) = true then (if feq ((zU x0 x5).f2) (fcv (wrap64 ((wrap64 (x1 + 1)) + 1))) = true then (jL.l0 k x0 (wrap64 ((wrap64 ((wrap64 (x1 + 1)) + 1)) + 1)) (wrap64 (x5 + 1))) else (some (-1))) else (some (-1))) else (some (-1))) else (none)) else (some x1)
def jL.f (k : Nat) (l0 : List (S27)) (a1 : Int) : Option (Int) := jL.l0 k l0 a1 0
theorem jL.mono_l : ∀ k, (∀ y0 y1 y2, LeO (jL.l0 k y0 y1 y2) (jL.l0 (k + 1) y0 y1 y2))
 | 0 => fun _ _ _ r h => by simp [jL.l0] at h
 | k + 1 => by
  have ih0 := jL.mono_l k
  ·intro y0 y1 y2
   unfold jL.l0
   repeat' first
   | (with_reducible exact ih0 _ _ _)
   | (with_reducible exact LeO.refl _)
   | (with_reducible exact LeO.none _)
   | (with_reducible refine LeO.ite ?_ ?_)
   | (with_reducible refine LeO.bind ?_ (fun _ => ?_))
   | exact ih0 _ _ _
   | exact LeO.none _
   | refine LeO.ite ?_ ?_
   | refine LeO.bind ?_ (fun _ => ?_)
theorem jL.mono : ∀ a0 a1 k, LeO (jL.f k a0 a1) (jL.f (k + 1) a0 a1) := by
 intro a0 a1 k
 have ih0 := jL.mono_l k
 unfold jL.f
 repeat' first
   | (with_reducible exact ih0 _ _ _)
   | (with_reducible exact LeO.refl _)
   | (with_reducible exact LeO.none _)
   | (with_reducible refine LeO.ite ?_ ?_)
   | (with_reducible refine LeO.bind ?_ (fun _ => ?_))
   | exact ih0 _ _ _
   | exact LeO.none _
   | refine LeO.ite ?_ ?_
   | refine LeO.bind ?_ (fun _ => ?_)
set_option maxHeartbeats 8000000 in
set_option maxRecDepth 100000 in
theorem jL.calls (k : Nat) (A0 : Option Addr) (c0 : Nat) (l0 : List (S27)) (a1 : Int) (r : Int) (w : World) (hr0 : Kd.C k27 w A0 l0.length l0) (hc0 : l0.length ≤ c0) (h : jL.f k l0 a1 = some r) :
  Calls Tryd.prog 51 #[.slice A0 l0.length c0, .int .i64 a1] w fun e w' => e = .returned (.int .i64 r) ∧ zI w w' := by
 have HR0 := qV.mk hr0
 have HC0 := qV.mk hc0
 clear hr0 hc0
 have H : (jL.l0 k l0 a1 0) = some r := h
 clear h
 have H' := qV.mk H
 clear H
 go_enter Tryd.func51, Tryd.ntmps51
 go_wp2
 go_loopg [1, 5] k (fun kq v1 v5 w' => ∃ (x1_1 : Int) (x5_1 : Int), v1 = .int .i64 x1_1 ∧ v5 = .int .i64 x5_1 ∧ qV (jL.l0 kq l0 x1_1 x5_1 = some r) ∧ qV (kq ≤ k) ∧ zI w w')
 case atStart => exact ⟨(a1), (0), (by first | rfl | (simp; done) | (simp [*]; done)), (by first | rfl | (simp; done) | (simp [*]; done)), H', ⟨Nat.le_refl _⟩, by repeat (first | exact zI.refl _ | apply zI.step)⟩
 case round =>
  clear H'
  try clear p2
  obtain ⟨x1_1, x5_1, rfl, rfl, HA, HK1, ⟨m1, rfl⟩⟩ := hrel
  cases gk with
  | zero => exact absurd HA.out (by simp [jL.l0])
  | succ k1 =>
   have H := HA.out
   clear HA
   simp only [jL.l0] at H
   by_cases c3 : x5_1 < (l0.length : Int)
   ·rw [if_pos c3] at H
    have c3b0 : decide (x5_1 < (l0.length : Int)) = true := decide_eq_true c3
    clear c3
    by_cases c4 : 0 ≤ x5_1
    ·rw [if_pos c4] at H
     have c4b0 : decide (0 ≤ x5_1) = true := decide_eq_true c4
     clear c4
     by_cases c5 : ((zU l0 x5_1).f0) = x1_1
     ·rw [if_pos c5] at H
      have c5b0 : (((zU l0 x5_1).f0) == x1_1) = true := beq_iff_eq.mpr c5
      have c5b1 : (((zU l0 x5_1).f0) != x1_1) = false := bne_eq_false_iff_eq.mpr c5
      clear c5
      by_cases c6 : feq ((zU l0 x5_1).f1) (fcv (wrap64 (x1_1 + 1))) = true
      ·rw [if_pos c6] at H
       have c6b1 := feq_ne c6
       clear c6
       by_cases c7 : feq ((zU l0 x5_1).f2) (fcv (wrap64 ((wrap64 (x1_1 + 1)) + 1))) = true
       ·rw [if_pos c7] at H
        have c7b1 := feq_ne c7
        clear c7
        have H' := qV.mk H
        clear H
        have p320 : 0 ≤ (x5_1 : Int) := of_decide_eq_true (by assumption)
        have q320 : x5_1 < (l0.length : Int) := of_decide_eq_true (by assumption)
        obtain ⟨ad320, e320, hx320_0, hx320_1, hx320_2⟩ := at_T27 HR0.out x5_1 p320 q320
        cases e320
        replace p320 := eq_true p320
        replace q320 := eq_true q320
        have p321 : 0 ≤ (x5_1 : Int) := of_decide_eq_true (by assumption)
        have q321 : x5_1 < (l0.length : Int) := of_decide_eq_true (by assumption)
        obtain ⟨ad321, e321, hx321_0, hx321_1, hx321_2⟩ := at_T27 HR0.out x5_1 p321 q321
        obtain rfl : ad320 = ad321 := (by injection e321)
        replace p321 := eq_true p321
        replace q321 := eq_true q321
        have p322 : 0 ≤ (x5_1 : Int) := of_decide_eq_true (by assumption)
        have q322 : x5_1 < (l0.length : Int) := of_decide_eq_true (by assumption)
        obtain ⟨ad322, e322, hx322_0, hx322_1, hx322_2⟩ := at_T27 HR0.out x5_1 p322 q322
        obtain rfl : ad320 = ad322 := (by injection e322)
        replace p322 := eq_true p322
        replace q322 := eq_true q322
        go_wp2
        go_roundg k1
        case measure => have := HK1.out; omega
        case rel => exact ⟨(wrap64 ((wrap64 ((wrap64 (x1_1 + 1)) + 1)) + 1)), (wrap64 (x5_1 + 1)), (by first | rfl | (simp; done) | (simp [*]; done)), (by first | rfl | (simp; done) | (simp [*]; done)), H', ⟨by have := HK1.out; omega⟩, by repeat (first | exact zI.refl _ | apply zI.step)⟩
       ·rw [if_neg c7] at H
        have c7b1 := feq_nn c7
        obtain rfl := Option.some.inj H
        have p320 : 0 ≤ (x5_1 : Int) := of_decide_eq_true (by assumption)
        have q320 : x5_1 < (l0.length : Int) := of_decide_eq_true (by assumption)
        obtain ⟨ad320, e320, hx320_0, hx320_1, hx320_2⟩ := at_T27 HR0.out x5_1 p320 q320
        cases e320
        replace p320 := eq_true p320
        replace q320 := eq_true q320
        have p321 : 0 ≤ (x5_1 : Int) := of_decide_eq_true (by assumption)
        have q321 : x5_1 < (l0.length : Int) := of_decide_eq_true (by assumption)
        obtain ⟨ad321, e321, hx321_0, hx321_1, hx321_2⟩ := at_T27 HR0.out x5_1 p321 q321
        obtain rfl : ad320 = ad321 := (by injection e321)
        replace p321 := eq_true p321
        replace q321 := eq_true q321
        have p322 : 0 ≤ (x5_1 : Int) := of_decide_eq_true (by assumption)
        have q322 : x5_1 < (l0.length : Int) := of_decide_eq_true (by assumption)
        obtain ⟨ad322, e322, hx322_0, hx322_1, hx322_2⟩ := at_T27 HR0.out x5_1 p322 q322
        obtain rfl : ad320 = ad322 := (by injection e322)
        replace p322 := eq_true p322
        replace q322 := eq_true q322
        go_wp2
        go_ret
        exact ⟨by first | rfl | (simp; done) | (simp [*]; done), by repeat (first | exact zI.refl _ | apply zI.step)⟩
      ·rw [if_neg c6] at H
       have c6b1 := feq_nn c6
       obtain rfl := Option.some.inj H
       have p320 : 0 ≤ (x5_1 : Int) := of_decide_eq_true (by assumption)
       have q320 : x5_1 < (l0.length : Int) := of_decide_eq_true (by assumption)
       obtain ⟨ad320, e320, hx320_0, hx320_1, hx320_2⟩ := at_T27 HR0.out x5_1 p320 q320
       cases e320
       replace p320 := eq_true p320
       replace q320 := eq_true q320
       have p321 : 0 ≤ (x5_1 : Int) := of_decide_eq_true (by assumption)
       have q321 : x5_1 < (l0.length : Int) := of_decide_eq_true (by assumption)
       obtain ⟨ad321, e321, hx321_0, hx321_1, hx321_2⟩ := at_T27 HR0.out x5_1 p321 q321
       obtain rfl : ad320 = ad321 := (by injection e321)
       replace p321 := eq_true p321
       replace q321 := eq_true q321
       go_wp2
       go_ret
       exact ⟨by first | rfl | (simp; done) | (simp [*]; done), by repeat (first | exact zI.refl _ | apply zI.step)⟩
     ·rw [if_neg c5] at H
      have c5b0 : (((zU l0 x5_1).f0) == x1_1) = false := beq_eq_false_iff_ne.mpr c5
      have c5b1 : (((zU l0 x5_1).f0) != x1_1) = true := bne_iff_ne.mpr c5
      obtain rfl := Option.some.inj H
      have p320 : 0 ≤ (x5_1 : Int) := of_decide_eq_true (by assumption)
      have q320 : x5_1 < (l0.length : Int) := of_decide_eq_true (by assumption)
      obtain ⟨ad320, e320, hx320_0, hx320_1, hx320_2⟩ := at_T27 HR0.out x5_1 p320 q320
      cases e320
      replace p320 := eq_true p320
      replace q320 := eq_true q320
      go_wp2
      go_ret
      exact ⟨by first | rfl | (simp; done) | (simp [*]; done), by repeat (first | exact zI.refl _ | apply zI.step)⟩
    ·rw [if_neg c4] at H
     exact absurd H (by simp)
   ·rw [if_neg c3] at H
    have c3b0 : decide (x5_1 < (l0.length : Int)) = false := decide_eq_false c3
    clear c3
    obtain rfl := Option.some.inj H
    go_wp2
    go_ret
    exact ⟨by first | rfl | (simp; done) | (simp [*]; done), by repeat (first | exact zI.refl _ | apply zI.step)⟩
theorem wid {n : Int} (h0 : -9223372036854775808 ≤ n) (h1 : n ≤ 9223372036854775807) : wrap64 n = n := by
 have := IntKind.wrap_i64 n
 unfold wrap64
 omega
theorem jC.out_l : ∀ (n k : Nat) (l : List S27) (a i : Int), 0 ≤ i → (l.length : Int) - i = n → n < k → 0 ≤ a → a + 3 * n ≤ 4000000000000 → l.length ≤ 4000000000000 → ∃ l1, jC.l0 k l a i = some (a + 3 * n, l1)
 | 0, k, l, a, i, h0, hn, hk, _, _, _ => by
  obtain ⟨k, rfl⟩ : ∃ m, k = m + 1 := ⟨k - 1, by omega⟩
  exact ⟨l, by rw [jC.l0, if_neg (by omega)]; simp⟩
 | n + 1, k, l, a, i, h0, hn, hk, ha, hb, hl => by
  obtain ⟨k, rfl⟩ : ∃ m, k = m + 1 := ⟨k - 1, by omega⟩
  have w1 : wrap64 (a + 1) = a + 1 := wid (by omega) (by omega)
  have w2 : wrap64 (a + 1 + 1) = a + 1 + 1 := wid (by omega) (by omega)
  have w3 : wrap64 (a + 1 + 1 + 1) = a + 1 + 1 + 1 := wid (by omega) (by omega)
  have w4 : wrap64 (i + 1) = i + 1 := wid (by omega) (by omega)
  rw [jC.l0, if_pos (by omega), if_pos h0]
  simp only [w1, w2, w3, w4]
  simp only [Option.bind_some]
  have e : a + 3 * ((n + 1 : Nat) : Int) = a + 1 + 1 + 1 + 3 * (n : Int) := by omega
  rw [e]
  exact jC.out_l n k _ (a + 1 + 1 + 1) (i + 1) (by omega) (by simp only [List.length_set]; omega) (by omega) (by omega) (by omega) (by simpa using hl)
theorem mtot_len : ∀ l : List S85, (l.length : Int) ≤ mtot l
 | [] => by simp [mtot]
 | s :: l => by have := mtot_len l; simp only [mtot, List.map_cons, List.sum_cons, List.length_cons] at this ⊢; omega
theorem mtot_nonneg : ∀ l : List S85, 0 ≤ mtot l
 | [] => by simp [mtot]
 | s :: l => by have := mtot_nonneg l; simp only [mtot, List.map_cons, List.sum_cons] at this ⊢; omega
theorem mtot_take (l : List S85) (i : Nat) (s : S85) (h : l[i]? = some s) : mtot (l.take (i + 1)) = mtot (l.take i) + 1 + 3 * (s.f1.length : Int) := by
 rw [List.take_add_one, h]
 simp [mtot]
 omega
theorem mtot_le (l : List S85) (i : Nat) : mtot (l.take i) ≤ mtot l := by
 have e : mtot (l.take i ++ l.drop i) = mtot (l.take i) + mtot (l.drop i) := by simp only [mtot, List.map_append, List.sum_append]
 rw [List.take_append_drop] at e
 have := mtot_nonneg (l.drop i)
 omega
theorem H_move {α : Type} {d : Kd α} {e : Nat} {w w1 : World} {base : Nat} {ok oki : Nat → Prop} {v : Value} {xs : List α} {i : Int} {c : List Value} (h : Kd.H d e w base ok v xs i oki c)
  (hm : ∀ k, ok k → ¬ oki k → k < w.heap.size → w1.heap[k]? = w.heap[k]?) : Kd.H d e w1 base ok v xs i oki c := by
 obtain ⟨h0, f, hR⟩ := h
 exact ⟨h0, f, Kd.R_step hR (fun k hk hl => hm k hk.1 hk.2 hl)⟩
def Hb (P : Nat → Prop) (w : World) (base : Nat) (k : Nat) : Prop := P k ∧ base ≤ k ∧ k < w.heap.size ∧ ∃ q, q ∈ 85 :: k85.E ∧ ∃ cells, w.heap[k]? = some (.cells cells q (0, 0))
set_option maxHeartbeats 8000000 in
set_option maxRecDepth 100000 in
theorem laws_markStoreS.calls (P : Nat → Prop) (u : Value) (l0 : List (S85)) (a1 : Int) (r : Int) (w0 w : World) (hB : Below w0.heap.size w0 w) (ho : Kd.S k85 85 w w0.heap.size P u l0) (h : laws_markStoreS.f l0 a1 = some r) :
  Calls Tryd.prog 113 #[u, .int .i64 a1] w fun e w' => e = .returned (.int .i64 r) ∧ Below w0.heap.size w0 w' ∧ Kept w w' (Hb P w w0.heap.size) ∧ ∃ l1, Kd.S k85 85 w' w0.heap.size P u l1 := by
 unfold laws_markStoreS.f at h
 split at h
 ·rename_i hb
  obtain rfl := Option.some.inj h
  clear h
  have HO := qV.mk (show Kd.S k85 85 w w0.heap.size (Hb P w w0.heap.size) u l0 from Kd.S_bound ho)
  obtain ⟨A, c, rfl⟩ := Kd.S_slice ho
  clear ho
  have HB := qV.mk hB
  have HN := qV.mk hb
  clear hB hb
  obtain ⟨N, hN⟩ : ∃ N, N = l0.length := ⟨_, rfl⟩
  rw [← hN]
  go_enter Tryd.func113, Tryd.ntmps113
  go_wp2
  go_loopg [1, 5] (N + 1) (fun kq v1 v5 w' => ∃ (i : Nat) (l : List S85), v1 = .int .i64 (a1 + mtot (l0.take i)) ∧ v5 = .int .i64 (i : Int) ∧ qV (i ≤ N ∧ kq + i = N + 1) ∧ qV (l.length = N ∧ ∀ j, i ≤ j → l[j]? = l0[j]?) ∧ qV (Kd.S k85 85 w' w0.heap.size (Hb P w w0.heap.size) (.slice A N c) l) ∧ qV (Kept w w' (Hb P w w0.heap.size)) ∧ qV (Below w0.heap.size w0 w'))
  case atStart => exact ⟨0, l0, by simp [mtot], rfl, ⟨Nat.zero_le _, rfl⟩, ⟨hN.symm, fun _ _ => rfl⟩, ⟨by rw [hN]; exact HO.out⟩, ⟨Kept.refl _ _⟩, HB⟩
  case round =>
   obtain ⟨i, l, rfl, rfl, HI, HL, HS, HK, HW⟩ := hrel
   by_cases c3 : (i : Int) < (N : Int)
   ·have c3b0 : decide ((i : Int) < (N : Int)) = true := decide_eq_true c3
    have hi : i < N := by omega
    obtain ⟨s, hs⟩ : ∃ s, l0[i]? = some s := ⟨_, List.getElem?_eq_getElem (by omega)⟩
    have hl := HL.out.1
    have hli : l[i]? = some s := (HL.out.2 i (Nat.le_refl _)).trans hs
    obtain ⟨g, cap, e, hg0, _, _, hgt⟩ := Kd.S_form HS.out (by omega)
    rw [hl] at e
    simp only [Value.slice.injEq, true_and] at e
    obtain ⟨rfl, rfl⟩ := e
    obtain ⟨oki, cc, hcl, hM, hcc, hfr, hoki, hH⟩ := Kd.S_elem HS.out z85 (i : Int) (by omega) (by omega)
    rw [Int.toNat_natCast, List.getD_eq_getElem?_getD, hli] at hM
    obtain ⟨v1, rfl, hR⟩ := k85_openM hM
    have x0 : wr.cell? ⟨g, i * 2, none⟩ = some (.int .i64 s.f0) := hcc 0 _ rfl
    have x1 : wr.cell? ⟨g, i * 2 + 1, none⟩ = some v1 := hcc 1 _ rfl
    have y0 : wr.frozen? ⟨g, i * 2, none⟩ = false := hfr 0
    have hHb : Hb P w w0.heap.size g := (Kd.S_R HS.out).1 g rfl
    obtain ⟨x, hx⟩ : ∃ x, x = a1 + mtot (l0.take i) := ⟨_, rfl⟩
    have m1 := mtot_take l0 i s hs
    have m2 := mtot_le l0 (i + 1)
    have m3 := mtot_nonneg (l0.take i)
    have hn := HN.out
    have hNb : (N : Int) ≤ 1000000000000 := by have := mtot_len l0; omega
    have hib := HI.out.1
    have wx := qV.mk (wid (n := x + 1) (by omega) (by omega))
    have wi := qV.mk (wid (n := (i : Int) + 1) (by omega) (by omega))
    obtain ⟨hH1, hgr1⟩ := Kd.H_seg hH (by omega) (by omega) (seg := [.int .i64 x]) (j := 0) (by show 0 + 1 ≤ 2; omega) (by simp [Value.oneCell'])
    obtain ⟨W1, hW1⟩ : ∃ W1, W1 = wr.setCell ⟨g, i * 2, none⟩ (.int .i64 x) := ⟨_, rfl⟩
    replace hH1 : Kd.H k85 85 W1 w0.heap.size (Hb P w w0.heap.size) (.slice (some ⟨g, 0, none⟩) l.length c) l i oki [.int .i64 x, v1] := by rw [hW1, hl]; exact hH1
    replace hgr1 : wr.grownBy W1 (some g) := by rw [hW1]; exact hgr1
    have hR1 : k27.R 27 W1 w0.heap.size (fun k_ => some k_ = v1.ownBlock) v1 s.f1 := Kd.R_step (Kd.zK rfl hR) (fun k hk hlt => hgr1.block k hlt (by
     have := (hoki k (hR.1 k hk.symm)).2
     simpa using this))
    have hB1 : Below w0.heap.size w0 W1 := by rw [hW1]; exact HW.out.setCell hg0 _
    have hK1 : Kept w W1 (Hb P w w0.heap.size) := by rw [hW1]; exact HK.out.setCell (.inl hHb) _
    have x11 : W1.cell? ⟨g, i * 2 + 1, none⟩ = some v1 := by rw [hW1]; exact (World.cell?_setCell_other _ _ _ _ (by simp)).trans x1
    obtain ⟨r2, hr2⟩ := jC.out_l s.f1.length (s.f1.length + 1) s.f1 (x + 1) 0 (by omega) (by omega) (by omega) (by omega) (by omega) (by omega)
    have HM := qV.mk (show jC.f (s.f1.length + 1) s.f1 (x + 1) = some (x + 1 + 3 * (s.f1.length : Int), r2) from hr2)
    have HH1 := qV.mk hH1
    have HR := qV.mk hR
    have HR1 := qV.mk hR1
    have HG := qV.mk hoki
    have HB1 := qV.mk hB1
    have HK1 := qV.mk hK1
    rw [← hx]
    have HX := qV.mk hx
    have HNN := qV.mk hN
    have m4 : 0 ≤ x := by omega
    have m5 : x ≤ 1000000000000 := by omega
    clear hx hN m1 m2 m3 hn
    clear hH hH1 hR hR1 hoki hB1 hK1 hgr1 hM hr2 hcc hfr hcl
    go_wp2_with (go_at_call 50; rw [← hW1]; refine (jC.calls (s.f1.length + 1) (fun k_ => some k_ = v1.ownBlock) v1 s.f1 (x + 1) _ r2 w0 W1 HB1.out HR1.out HM.out).mono ?_; rintro e w2 ⟨rfl, hR2, hB2, hK2⟩)
    go_roundg (N - i)
    case measure => have := HI.out; omega
    case rel =>
     have hRo : ∀ k, some k = v1.ownBlock → oki k := fun k hk => HR.out.1 k hk.symm
     have hH2 := H_move HH1.out (w1 := w2) (fun k _ hno hl => hK2.2 k hl (fun e => hno (hRo k e)))
     have hS2 := Kd.H_back hH2 (x' := (⟨x, r2⟩ : S85)) (okp := fun k => some k = v1.ownBlock) (k85_mkM w2 w0.heap.size _ ⟨x, r2⟩ (Kd.zK rfl hR2)) hRo
     have hset : ∀ j, i + 1 ≤ j → (l.set i (⟨x, r2⟩ : S85))[j]? = l0[j]? := fun j hj => by rw [List.getElem?_set_ne (by omega)]; exact HL.out.2 j (by omega)
     have hx2 : x + 1 + 3 * (s.f1.length : Int) = a1 + mtot (l0.take (i + 1)) := by rw [mtot_take l0 i s hs, HX.out]; omega
     refine ⟨i + 1, l.set i (⟨x, r2⟩ : S85), by rw [hx2], by simp, ⟨by omega, by omega⟩, ⟨by rw [List.length_set]; exact hl, hset⟩, ⟨?_⟩, ⟨HK1.out.then_ hK2 (fun k hk => .inl ?_)⟩, ⟨hB2⟩⟩
     ·have := hS2
      rw [Int.toNat_natCast, hl] at this
      exact this
     ·exact (HG.out k (hRo k hk)).1
   ·have c3b0 : decide ((i : Int) < (N : Int)) = false := decide_eq_false c3
    have hi : i = N := by have := HI.out.1; omega
    have e1 : mtot (l0.take i) = mtot l0 := by rw [hi, hN, List.take_length]
    rw [e1]
    go_wp2
    go_ret
    exact ⟨rfl, HW.out, HK.out, l, hN ▸ Kd.zH HS.out (fun k (hk : Hb P w w0.heap.size k) => hk.1)⟩
 ·cases h
theorem S_gone {α : Type} {d : Kd α} {e : Nat} {w : World} {base : Nat} {ok : Nat → Prop} {v : Value} {xs : List α} (_h : Kd.S d e w base ok v xs) (w1 : World) : Kd.S d e w1 base ok (.slice none 0 0) ([] : List α) := ⟨fun _ => 0, Kd.R_nil _ _ _ _ _⟩
theorem tag_none {w : World} {k t : Nat} {cs : Array Value} {l : List Nat} (h : w.heap[k]? = some (.cells cs t (0, 0))) (hn : ∀ q, q ∈ l → q ≠ t) (hs : ∃ q, q ∈ l ∧ ∃ cells, w.heap[k]? = some (.cells cells q (0, 0))) : False := by
 obtain ⟨q, hq, c2, h2⟩ := hs
 rw [h] at h2
 injection h2 with h2
 injection h2 with _ e _
 exact hn q hq e.symm
theorem tag_apart {w : World} {k : Nat} {l : List Nat} (h : ∃ q, q ∈ 2 :: l ∧ ∃ cells, w.heap[k]? = some (.cells cells q (0, 0))) (hs : ∃ q, q ∈ 85 :: k85.E ∧ ∃ cells, w.heap[k]? = some (.cells cells q (0, 0))) (hl : l = [] := by rfl) : False := by
 subst hl
 obtain ⟨q, hq, c1, h1⟩ := h
 obtain rfl : q = 2 := by simpa using hq
 exact tag_none h1 (by decide) hs
set_option maxHeartbeats 8000000 in
set_option maxRecDepth 100000 in
theorem laws_markHeap.calls (P : Nat → Prop) (u : Value) (l0 : List (S85)) (a1 : Int) (r : Int) (w0 w : World) (hB : Below w0.heap.size w0 w) (ho : Kd.S k85 85 w w0.heap.size P u l0) (h : laws_markHeap.f l0 a1 = some r) :
  Calls Tryd.prog 48 #[.agg #[u], .int .i64 a1] w fun e w' => e = .returned (.int .i64 r) ∧ Below w0.heap.size w0 w' ∧ Kept w w' (Hb P w w0.heap.size) ∧ ∃ l1, Kd.S k85 85 w' w0.heap.size P u l1 := by
 have hu39 := Tryd.underlying39
 unfold laws_markHeap.f at h
 obtain ⟨r', h1, h2⟩ := Option.bind_eq_some_iff.1 h
 obtain rfl := Option.some.inj h2
 clear h h2
 have hS := qV.mk ho
 have HB := qV.mk hB
 have H1 := qV.mk h1
 obtain ⟨A, c, rfl⟩ := Kd.S_slice ho
 clear ho hB h1
 have hz0 : (w.alloc (.cells #[.slice A l0.length c] 39)).cell? ⟨w.heap.size, 0, none⟩ = some (.slice A l0.length c) := (qJ (blk_new w _) 0).trans rfl
 go_enter Tryd.func48, Tryd.ntmps48
 go_wp2_with (go_at_call 113; refine (laws_markStoreS.calls P _ l0 a1 _ w0 _ (qA HB.out _) (Kd.qP hS.out _) H1.out).mono ?_; rintro e w2 ⟨rfl, hB2, hK2, l1, hS2⟩)
 go_ret
 refine ⟨rfl, hB2, ?_, l1, hS2⟩
 refine Kept.then_ (Kept.of_below (qA (Below.refl _ _) _) _) hK2 (fun k hk => ?_)
 by_cases hl : k < w.heap.size
 ·refine .inl ⟨hk.1, hk.2.1, hl, ?_⟩
  obtain ⟨q, hq, cs, hcs⟩ := hk.2.2.2
  exact ⟨q, hq, cs, by rw [← hcs]; exact (Below.heap_alloc w _ k hl).symm⟩
 ·exact .inr (by omega)
end Go.Proofs.YtpmdgmnpkdoamabDoor.DFnExactRead
