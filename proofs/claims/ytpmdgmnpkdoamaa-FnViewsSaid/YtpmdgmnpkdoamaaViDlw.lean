/- Proved here: the law on views answers true. Conditions: the bytes handed in can be read. -/
import Derived.Test.YtpmdgmnpkdoamaaViDsb
import Derived.Test.YtpmdgmnpkdoamaaViOwr
import Derived.Test.YtpmdgmnpkdoamaaViVpl
namespace Go.Proofs.Ytpmdgmnpkdoamaa.Ow
open Go.RowKit Go.Proofs.YtpmdgmnpkdoamaaW.PrintWords Go.Proofs.YtpmdgmnpkdoamaaW.PrintLast Go.Proofs.YtpmdgmnpkdoamaaW.PrintMore
open DFnViews
set_option linter.unusedVariables false
set_option linter.unusedSimpArgs false
section
variable {W w w1 : World} {its : List It} {A0 A1 A2 : Option Addr} {k0 k1 k2 : Nat} {xs ys zs : List Int}
theorem ans {P : Program} {f : Nat} {args : Array Value} {r1 : Int} {r2 r3 : List Int} {r4 : Int} (ho : Own W w its) (h : Calls P f args w fun e w' => ∃ v1_ v2_ : Value, e = .returned (.agg #[.int .i64 r1, v1_, v2_, .int .i64 r4]) ∧ Kd.R (Kd.int .i64) 2 w' w.heap.size (fun k_ => some k_ ≠ (v2_ : Value).ownBlock) v1_ r2 ∧ Kd.R (Kd.int .i64) 2 w' w.heap.size (fun k_ => some k_ ≠ (v1_ : Value).ownBlock) v2_ r3 ∧ Below w.heap.size w w') :
  Calls P f args w fun e w' => ∃ (A1 A2 : Option Addr) (k1 k2 : Nat), e = .returned (.agg #[.int .i64 r1, .slice A1 r2.length k1, .slice A2 r3.length k2, .int .i64 r4]) ∧ qS (r2.length ≤ k1 ∧ r3.length ≤ k2) ∧ qS (Own W w' (rds [(A1, r2), (A2, r3)] :: its)) := by
 refine h.mono ?_
 rintro e w' ⟨v1, v2, rfl, h1, h2, hb⟩
 obtain ⟨A1, c1, rfl⟩ := Kd.qX h1
 obtain ⟨A2, c2, rfl⟩ := Kd.qX h2
 have e1 := (Dv.CF.of h1).2
 have e2 := (Dv.CF.of h2).2
 refine ⟨A1, A2, c1, c2, rfl, ⟨⟨e1.1, e2.1⟩⟩, ⟨ho.reads hb _ ?_⟩⟩
 intro p hp
 simp at hp
 rcases hp with rfl | rfl
 ·exact e1.2
 ·exact e2.2
theorem Own.cf2 (ho : Own W w its) (hb : Below w.heap.size w w1) (h : Dv.CF w w1 A0 k0 xs ∧ Dv.CF w w1 A1 k1 ys) : Own W w1 (rds [(A0, xs), (A1, ys)] :: its) := by
 refine ho.reads hb _ ?_
 intro p hp
 simp at hp
 rcases hp with rfl | rfl
 ·exact h.1.2
 ·exact h.2.2
theorem Own.cf3 (ho : Own W w its) (hb : Below w.heap.size w w1) (h : Dv.CF w w1 A0 k0 xs ∧ Dv.CF w w1 A1 k1 ys ∧ Dv.CF w w1 A2 k2 zs) : Own W w1 (rds [(A0, xs), (A1, ys), (A2, zs)] :: its) := by
 refine ho.reads hb _ ?_
 intro p hp
 simp at hp
 rcases hp with rfl | rfl | rfl
 ·exact h.1.2
 ·exact h.2.1.2
 ·exact h.2.2.2
end
def T5 : Bool × List (List Nat × List Nat) := (true, [([], []), ([0], [0]), ([], []), ([], []), ([], []), ([], []), ([], []), ([2, 3, 4, 5, 6], [2, 3, 4, 5, 6]), ([7], [7]), ([1, 8], [1, 8])])
def B5 : List Nat := [0, 1, 0, 0, 0, 0, 0, 124, 252, 511]
theorem tab5 : rtab .any (opsOf Try.f18 5) = T5 := by kernel_rfl
theorem bits5 : waitsOk T5.2 B5 = true := by kernel_rfl
def T8 : Bool × List (List Nat × List Nat) := (true, [([], []), ([], []), ([1], [1]), ([], []), ([], []), ([], []), ([], []), ([], []), ([], []), ([4, 5, 6, 7, 8], [4, 5, 6, 7, 8]), ([9], [9]), ([], []), ([], []), ([0, 2, 3, 10, 11, 12, 9], [0, 2, 3, 10, 11, 12]), ([13], [13])])
def B8 : List Nat := [0, 0, 2, 0, 0, 0, 0, 0, 0, 496, 1008, 0, 0, 8191, 16383]
theorem tab8 : rtab .any (opsOf Try.f18 8) = T8 := by kernel_rfl
theorem bits8 : waitsOk T8.2 B8 = true := by kernel_rfl
def T12 : Bool × List (List Nat × List Nat) := (true, [([], []), ([0], [0]), ([], []), ([], []), ([2, 3], [2, 3]), ([4], [4]), ([1, 5], [1, 5])])
def B12 : List Nat := [0, 1, 0, 0, 12, 28, 63]
theorem tab12 : rtab .any (opsOf Try.f18 12) = T12 := by kernel_rfl
theorem tab18 : rtab .any (opsOf Try.f18 18) = T12 := by kernel_rfl
theorem bits12 : waitsOk T12.2 B12 = true := by kernel_rfl
theorem RC_nil (w : World) (A : Option Addr) : RC w A [] := ⟨rfl, by simp, fun h => absurd h (Nat.lt_irrefl 0)⟩
theorem nil_ {P : Program} {ops : Array Oper} {Q : Exit → Act → World → Prop} {oi : Oper} {N : Option Tmp} {a : Act} {w : World} {K : Act → World → Prop} (hw : Region.wanted oi (yielded ops a.tmps) = true) (hN : oi.dst = N) (hrun : (execOp a.eval oi).run P w = .ok (.value (.slice (some ⟨w.heap.size, 0, none⟩) 0 0)) (w.alloc (.cells #[] 2)))
  (h : K (a.put N (.slice (some ⟨w.heap.size, 0, none⟩) 0 0)) (w.alloc (.cells #[] 2))) : if Region.wanted oi (yielded ops a.tmps) = true then Oper.wp P oi a w K Q else K (a.put N undef) w := value_ hw hN hrun h
theorem f530 (r p : Int) (A1 A2 : Option Addr) (n1 k1 n2 k2 : Nat) (w : World) : (Instr.field 53 (.agg #[.int .i64 r, .slice A1 n1 k1, .slice A2 n2 k2, .int .i64 p]) 0).run Try.prog w = .ok (.int .i64 r) w := by kernel_rfl
attribute [local go_sem] f530 Dv.field53
section
variable {W w : World} {its : List It} {g8 g3 : Nat} {a0 a1 a2 a3 b0 b1 b2 : Value}
theorem sA (h : qS (Own W w its)) (i j : Nat) (hi : its[i]? = some (box g8 #[a0, a1, a2, a3] 53) := by rfl) (hj : its[j]? = some (box g3 #[b0, b1, b2] 32) := by rfl) : w.cell? ⟨g8, 0, none⟩ = some a0 ∧ w.cell? ⟨g8, 1, none⟩ = some a1 ∧ w.cell? ⟨g8, 2, none⟩ = some a2 ∧ w.cell? ⟨g8, 3, none⟩ = some a3 ∧ w.cell? ⟨g3, 0, none⟩ = some b0 ∧ w.cell? ⟨g3, 1, none⟩ = some b1 ∧ w.cell? ⟨g3, 2, none⟩ = some b2 := by
 obtain ⟨c0, c1, c2, c3, -⟩ := bx4 (qS.mk (h.out.boxAt i hi))
 obtain ⟨d0, d1, d2, -⟩ := bx3 (qS.mk (h.out.boxAt j hj))
 exact ⟨c0, c1, c2, c3, d0, d1, d2⟩
end
set_option maxHeartbeats 8000000 in
set_option maxRecDepth 100000 in
theorem law_run (A : Option Addr) (c0 : Nat) (l0 : List Int) (w : World) (hr0 : Kd.C (Kd.int .u8) w A l0.length l0) (hc0 : l0.length ≤ c0) (hl : ∀ x ∈ l0, (Lit.int .u8 x).wf = true) :
  Calls Try.prog 18 #[.slice A l0.length c0] w fun e w' => e = .returned (.bool true) ∧ Below w.heap.size w w' := by
 have hu32 := Try.underlying32
 have hu53 := Try.underlying53
 replace hr0 := qS.mk hr0
 replace hc0 := qS.mk hc0
 replace hl := qS.mk hl
 have HO := qS.mk (Own.start w)
 by_cases c2 : (l0.length : Int) > 1048576
 ·have c2b0 : decide (1048576 < (l0.length : Int)) = true := decide_eq_true c2
  have c2b1 : decide (1048576 < l0.length) = true := decide_eq_true (by omega)
  clear c2
  go_enter Try.func18, Try.ntmps18
  go_wp2
  go_ret
  exact ⟨rfl, Below.refl _ _⟩
 have c2b0 : decide (1048576 < (l0.length : Int)) = false := decide_eq_false c2
 have c2b1 : decide (1048576 < l0.length) = false := decide_eq_false (by omega)
 clear c2
 go_enter Try.func18, Try.ntmps18
 go_wp2_with (first | (go_at_call 70; refine (Dv.drawSlice_run A c0 l0 _ (by first | exact hr0.out | exact Kd.qW hr0.out (Own.at HO).below) hc0.out hl.out).mono ?_; rintro e wq ⟨A0, A1, k0, k1, p, a, b, c, d, xs, ys, rfl, hxy, hcf, hb⟩; have hk := qS.mk (And.intro hcf.out.1.1 hcf.out.2.1); replace HO := qS.mk (Own.cf2 (Own.at HO) hb.out hcf.out); clear hcf hb; obtain ⟨e, L1, L2, q, hsf, hif, hsl⟩ := slice_alike xs ys p a b c d 5000000 (by have := hxy.out; omega) (by have := hxy.out; omega) (by omega); replace hsf := qS.mk hsf; replace hif := qS.mk hif; replace hsl := qS.mk hsl) | ((with_reducible refine gate_dst (N := 3) rfl ?_); refine Own.boxed HO 3 #[.slice none 0 0, .slice none 0 0, .int .i64 0] 32 ?_; intro g3 wb h4; replace HO := h4; clear h4) | ((with_reducible refine gate_store (t := 32) (p := 3) rfl ?_); refine Own.store 0 HO 32 (.tmp 3) (.tmp 17) [_, _, _] ?_; intro ws h4; replace HO := h4; clear h4; (try clear c30 c31 c32 f30 f31 f32); obtain ⟨c30, c31, c32, f30, f31, f32⟩ := bx3 (qS.mk (HO.out.boxAt 0))) | (go_at_call 60; refine (ans (Own.at HO) (impl_Slice.calls 5000000 A0 k0 xs A1 k1 ys p a b c d e L1 L2 q _ ((Own.at HO).rdAt 1 0) hk.out.1 ((Own.at HO).rdAt 1 1) hk.out.2 hif.out)).mono ?_; rintro e wq ⟨B1, B2, j1, j2, rfl, hj, h4⟩; replace HO := h4; clear h4; (try clear c30 c31 c32 f30 f31 f32); obtain ⟨c30, c31, c32, f30, f31, f32⟩ := bx3 (qS.mk (HO.out.boxAt 1))) | ((with_reducible refine gate_dst (N := 8) rfl ?_); refine Own.boxed HO 8 #[.int .i64 0, .slice none 0 0, .slice none 0 0, .int .i64 0] 53 ?_; intro g8 wb h4; replace HO := h4; clear h4) | ((with_reducible refine gate_store (t := 53) (p := 8) rfl ?_); refine Own.store 0 HO 53 (.tmp 8) (.tmp 27) [_, _, _, _] ?_; intro ws h4; replace HO := h4; clear h4; (try clear c80 c81 c82 c83 f80 f81 f82 f83); obtain ⟨c80, c81, c82, c83, f80, f81, f82, f83⟩ := bx4 (qS.mk (HO.out.boxAt 0)); (try clear c30 c31 c32 f30 f31 f32); obtain ⟨c30, c31, c32, f30, f31, f32⟩ := bx3 (qS.mk (HO.out.boxAt 2))))
 replace HO : qS (Own w _ [box g8 #[.int .i64 e, .slice B1 L1.length j1, .slice B2 L2.length j2, .int .i64 q] 53, rds [(B1, L1), (B2, L2)], box g3 #[.slice A0 xs.length k0, .slice A1 ys.length k1, .int .i64 p] 32, rds [(A0, xs), (A1, ys)]]) := ⟨HO.out.drew⟩
 (try clear c80 c81 c82 c83 f80 f81 f82 f83 c30 c31 c32 f30 f31 f32)
 refine start_ (n := 10) (S := fun w' => w'.cell? ⟨g8, 0, none⟩ = some (.int .i64 e) ∧ w'.cell? ⟨g8, 1, none⟩ = some (.slice B1 L1.length j1) ∧ w'.cell? ⟨g8, 2, none⟩ = some (.slice B2 L2.length j2) ∧ w'.cell? ⟨g8, 3, none⟩ = some (.int .i64 q) ∧ w'.cell? ⟨g3, 0, none⟩ = some (.slice A0 xs.length k0) ∧ w'.cell? ⟨g3, 1, none⟩ = some (.slice A1 ys.length k1) ∧ w'.cell? ⟨g3, 2, none⟩ = some (.int .i64 p)) (ds := []) #[false, false, false, false, false, false, false, false, false, false] (by kernel_rfl) rfl rfl (sA HO 0 2) (fun hHeld => ?_); refine with_tabW tab5 bits5 (fun HT_ HW_ => ?_)
 replace HO := qS.mk HO.out
 generalize World.drew _ = wr at HO hHeld ⊢
 refine pS 0 28 (bs 10 1) HT_ ?_
 refine pS 3 31 (bs 10 9) HT_ ?_
 refine pS 4 32 (bs 10 25) HT_ ?_
 refine pS 5 33 (bs 10 57) HT_ ?_
 refine pS 6 34 (bs 10 121) HT_ ?_
 refine tS 1 29 (bs 10 123) HT_ HW_ hHeld ?_
 refine tS 2 30 (bs 10 127) HT_ HW_ hHeld ?_
 refine one_ (i := 7) (N := some 35) (bs 10 255) rfl rfl (one_of HT_.out (by kernel_rfl)) (by decide) (fun K hK => ?_)
 refine goes_ Try.func59 (by kernel_rfl) rfl #[.agg #[.slice A0 xs.length k0, .slice A1 ys.length k1, .int .i64 p], .int .i64 a, .int .i64 b, .int .i64 c, .int .i64 d] (by rfl) rfl rfl (by (try simp only [List.map_toArray, List.map_cons, List.map_nil]); first | done | rfl) ?_
 refine (ans (Own.at HO) (spec_Slice.calls 5000000 A0 k0 xs A1 k1 ys p a b c d _ L1 L2 q _ ((Own.at HO).rdAt 3 0) hk.out.1 ((Own.at HO).rdAt 3 1) hk.out.2 hsf.out)).mono ?_
 rintro e wq ⟨D1, D2, m1, m2, rfl, hm, h4⟩
 refine ⟨_, rfl, ?_⟩
 replace HO := h4; clear h4
 refine hK.out _ _ (sA HO 1 3) (fun hHeld => ?_)
 clear hK K
 refine norm_ (a' := ?_) ?_ ?_
 rotate_left
 ·show Act.put _ (some 35) _ = _
  simp only [Act.put, List.setIfInBounds_toArray, List.set_cons_zero, List.set_cons_succ, i64_w, i32_w]
  rfl
 refine pS 8 36 (bs 10 511) HT_ ?_
 refine pS 9 37 (bs 10 1023) HT_ ?_
 refine done_ (done_of HT_.out (by kernel_rfl)) ?_
 go_upto_if 40 with (fail)
 go_cut [] (fun wc => ∃ d0 d1 d2 d3 x0 x1 x2 : Value, qS (Own w wc [box g8 #[d0, d1, d2, d3] 53, box g3 #[x0, x1, x2] 32]))
 case first =>
  rcases hsl.out with ⟨he, -⟩ | ⟨rfl, hv, i, ha, hi, hS⟩
  ·have he1 : (e == 0) = false := beq_eq_false_iff_ne.mpr he
   go_wp2
   all_goals go_meet
   all_goals case rel => exact ⟨_, _, _, _, _, _, _, ⟨(Own.at HO).two_of 1 3 (by decide)⟩⟩
  have hpl := qS.mk (places_slice xs ys p a d i L1 L2 q hv ha hi hS)
  clear hv ha hi hS hsl
  go_wp2
  replace HO : qS (Own w _ [rds [(D1, L1), (D2, L2)], box g8 #[.int .i64 0, .slice B1 L1.length j1, .slice B2 L2.length j2, .int .i64 q] 53, rds [(B1, L1), (B2, L2)], box g3 #[.slice A0 xs.length k0, .slice A1 ys.length k1, .int .i64 p] 32, rds [(A0, xs), (A1, ys)]]) := ⟨HO.out.drew⟩
  (try clear c80 c81 c82 c83 f80 f81 f82 f83 c30 c31 c32 f30 f31 f32)
  refine start_ (n := 15) (S := fun w' => w'.cell? ⟨g8, 0, none⟩ = some (.int .i64 0) ∧ w'.cell? ⟨g8, 1, none⟩ = some (.slice B1 L1.length j1) ∧ w'.cell? ⟨g8, 2, none⟩ = some (.slice B2 L2.length j2) ∧ w'.cell? ⟨g8, 3, none⟩ = some (.int .i64 q) ∧ w'.cell? ⟨g3, 0, none⟩ = some (.slice A0 xs.length k0) ∧ w'.cell? ⟨g3, 1, none⟩ = some (.slice A1 ys.length k1) ∧ w'.cell? ⟨g3, 2, none⟩ = some (.int .i64 p)) (ds := []) #[false, false, false, false, false, false, false, false, false, false, false, false, false, false, false] (by kernel_rfl) rfl rfl (sA HO 1 3) (fun hHeld => ?_); refine with_tabW tab8 bits8 (fun HT_ HW_ => ?_)
  replace HO := qS.mk HO.out
  generalize World.drew _ = wr at HO hHeld ⊢
  refine pS 1 42 (bs 15 2) HT_ ?_
  refine pS 3 44 (bs 15 10) HT_ ?_
  refine pS 5 46 (bs 15 42) HT_ ?_
  refine pS 6 47 (bs 15 106) HT_ ?_
  refine pS 7 48 (bs 15 234) HT_ ?_
  refine pS 8 49 (bs 15 490) HT_ ?_
  refine pS 11 52 (bs 15 2538) HT_ ?_
  refine tS 0 41 (bs 15 2539) HT_ HW_ hHeld ?_
  refine tS 2 43 (bs 15 2543) HT_ HW_ hHeld ?_
  refine tS 4 45 (bs 15 2559) HT_ HW_ hHeld ?_
  refine join_ (σ := (Option Addr × Nat × Option Addr × Nat × Nat)) 2 (bs 15 8191) (fun s => [(50, .agg #[.int .i64 0, .slice s.1 L1.length s.2.1, .slice s.2.2.1 L2.length s.2.2.2.1, .int .i64 q]), (51, .agg #[.slice s.1 L1.length s.2.1, .slice s.2.2.1 L2.length s.2.2.2.1, .int .i64 q]), (53, .slice (some ⟨s.2.2.2.2, 0, none⟩) 0 0)]) (fun s w' => (fun w' => w'.cell? ⟨g8, 0, none⟩ = some (.int .i64 0) ∧ w'.cell? ⟨g8, 1, none⟩ = some (.slice B1 L1.length j1) ∧ w'.cell? ⟨g8, 2, none⟩ = some (.slice B2 L2.length j2) ∧ w'.cell? ⟨g8, 3, none⟩ = some (.int .i64 q) ∧ w'.cell? ⟨g3, 0, none⟩ = some (.slice A0 xs.length k0) ∧ w'.cell? ⟨g3, 1, none⟩ = some (.slice A1 ys.length k1) ∧ w'.cell? ⟨g3, 2, none⟩ = some (.int .i64 p)) w' ∧ qS (L1.length ≤ s.2.1 ∧ L2.length ≤ s.2.2.2.1) ∧ qS (Own w w' (rds [(s.1, L1), (s.2.2.1, L2)] :: [rds [(D1, L1), (D2, L2)], box g8 #[.int .i64 0, .slice B1 L1.length j1, .slice B2 L2.length j2, .int .i64 q] 53, rds [(B1, L1), (B2, L2)], box g3 #[.slice A0 xs.length k0, .slice A1 ys.length k1, .int .i64 p] 32, rds [(A0, xs), (A1, ys)]]))) ?_ ?_
  rotate_left
  ·intro hJ
   refine two_ (i := 9) (j := 12) (Ni := some 50) (Nj := some 53) (bs 15 3071) (bs 15 6655) rfl rfl rfl rfl (two_of HT_.out (by kernel_rfl)) (by decide) (by decide) (fun K hK => ?_) (fun K hK => ?_)
   ·skip
    refine goes_ Try.func59 (by kernel_rfl) rfl #[.agg #[.slice A0 xs.length k0, .slice A1 ys.length k1, .int .i64 p], .int .i64 a, .int .i64 b, .int .i64 c, .int .i64 d] (by rfl) rfl rfl (by (try simp only [List.map_toArray, List.map_cons, List.map_nil]); first | done | rfl) ?_
    refine (ans (Own.at HO) (spec_Slice.calls 5000000 A0 k0 xs A1 k1 ys p a b c d _ L1 L2 q _ ((Own.at HO).rdAt 4 0) hk.out.1 ((Own.at HO).rdAt 4 1) hk.out.2 hsf.out)).mono ?_
    rintro e wq ⟨E1, E2, n1, n2, rfl, hn, h4⟩
    refine ⟨_, rfl, ?_⟩
    replace HO := h4; clear h4
    refine hK.out _ _ (sA HO 2 4) (fun hHeld => ?_)
    clear hK K
    refine norm_ (a' := ?_) ?_ ?_
    rotate_left
    ·show Act.put _ (some 50) _ = _
     simp only [Act.put, List.setIfInBounds_toArray, List.set_cons_zero, List.set_cons_succ, i64_w, i32_w]
     rfl
    refine pS 10 51 (bs 15 4095) HT_ ?_
    refine one_ (i := 12) (N := some 53) (bs 15 8191) rfl rfl (one_of HT_.out (by kernel_rfl)) (by decide) (fun K hK => ?_)
    refine nil_ (by rfl) rfl (by first | (go_simp; done) | (go_simp; rfl)) ?_
    replace HO := qS.mk (Own.alloc HO.out (.cells #[] 2))
    refine hK.out _ _ (sA HO 2 4) (fun hHeld => ?_)
    clear hK K
    refine norm_ (a' := ?_) ?_ ?_
    rotate_left
    ·show Act.put _ (some 53) _ = _
     simp only [Act.put, List.setIfInBounds_toArray, List.set_cons_zero, List.set_cons_succ, i64_w, i32_w]
     rfl
    exact norm_ (by first | (simp only [putAll, Act.put, List.setIfInBounds_toArray, List.set_cons_zero, List.set_cons_succ]; done) | (simp only [putAll, Act.put, List.setIfInBounds_toArray, List.set_cons_zero, List.set_cons_succ]; rfl)) (hJ (E1, n1, E2, n2, _) _ ⟨hHeld, hn, ⟨Own.at HO⟩⟩)
   ·skip
    refine nil_ (by rfl) rfl (by first | (go_simp; done) | (go_simp; rfl)) ?_
    replace HO := qS.mk (Own.alloc HO.out (.cells #[] 2))
    refine hK.out _ _ (sA HO 1 3) (fun hHeld => ?_)
    clear hK K
    refine norm_ (a' := ?_) ?_ ?_
    rotate_left
    ·show Act.put _ (some 53) _ = _
     simp only [Act.put, List.setIfInBounds_toArray, List.set_cons_zero, List.set_cons_succ, i64_w, i32_w]
     rfl
    refine one_ (i := 9) (N := some 50) (bs 15 7167) rfl rfl (one_of HT_.out (by kernel_rfl)) (by decide) (fun K hK => ?_)
    refine goes_ Try.func59 (by kernel_rfl) rfl #[.agg #[.slice A0 xs.length k0, .slice A1 ys.length k1, .int .i64 p], .int .i64 a, .int .i64 b, .int .i64 c, .int .i64 d] (by rfl) rfl rfl (by (try simp only [List.map_toArray, List.map_cons, List.map_nil]); first | done | rfl) ?_
    refine (ans (Own.at HO) (spec_Slice.calls 5000000 A0 k0 xs A1 k1 ys p a b c d _ L1 L2 q _ ((Own.at HO).rdAt 4 0) hk.out.1 ((Own.at HO).rdAt 4 1) hk.out.2 hsf.out)).mono ?_
    rintro e wq ⟨E1, E2, n1, n2, rfl, hn, h4⟩
    refine ⟨_, rfl, ?_⟩
    replace HO := h4; clear h4
    refine hK.out _ _ (sA HO 2 4) (fun hHeld => ?_)
    clear hK K
    refine norm_ (a' := ?_) ?_ ?_
    rotate_left
    ·show Act.put _ (some 50) _ = _
     simp only [Act.put, List.setIfInBounds_toArray, List.set_cons_zero, List.set_cons_succ, i64_w, i32_w]
     rfl
    refine pS 10 51 (bs 15 8191) HT_ ?_
    exact norm_ (by first | (simp only [putAll, Act.put, List.setIfInBounds_toArray, List.set_cons_zero, List.set_cons_succ]; done) | (simp only [putAll, Act.put, List.setIfInBounds_toArray, List.set_cons_zero, List.set_cons_succ]; rfl)) (hJ (E1, n1, E2, n2, _) _ ⟨hHeld, hn, ⟨Own.at HO⟩⟩)
  clear HO hHeld
  rintro ⟨E1, n1, E2, n2, n3⟩ wj ⟨hHeld, hn, HO⟩
  refine norm_ (a' := ?_) ?_ ?_
  rotate_left
  ·simp only [putAll, Act.put, List.setIfInBounds_toArray, List.set_cons_zero, List.set_cons_succ, i64_w, i32_w]
   rfl
  refine one_ (i := 13) (N := some 54) (bs 15 16383) rfl rfl (one_of HT_.out (by kernel_rfl)) (by decide) (fun K hK => ?_)
  refine goes_ Try.func71 (by kernel_rfl) rfl #[.agg #[.slice A0 xs.length k0, .slice A1 ys.length k1, .int .i64 p], .agg #[.slice B1 L1.length j1, .slice B2 L2.length j2, .int .i64 q], .int .i64 0, .int .i64 a, .agg #[.slice E1 L1.length n1, .slice E2 L2.length n2, .int .i64 q], .int .i64 d, .slice (some ⟨n3, 0, none⟩) 0 0] (by rfl) rfl rfl (by (try simp only [List.map_toArray, List.map_cons, List.map_nil]); first | done | rfl) ?_
  refine (laws_lwPlaces.calls 5000000 A0 k0 xs A1 k1 ys p B1 j1 L1 B2 j2 L2 q 0 a E1 n1 L1 E2 n2 L2 q d (some ⟨n3, 0, none⟩) 0 [] true _ ((Own.at HO).rdAt 5 0) hk.out.1 ((Own.at HO).rdAt 5 1) hk.out.2 ((Own.at HO).rdAt 3 0) hj.out.1 ((Own.at HO).rdAt 3 1) hj.out.2 ((Own.at HO).rdAt 0 0) hn.out.1 ((Own.at HO).rdAt 0 1) hn.out.2 (RC_nil _ _) (by simp) hpl.out).mono ?_
  rintro e wq ⟨rfl, hb⟩
  refine ⟨_, rfl, ?_⟩
  replace HO := qS.mk ((Own.at HO).made hb); clear hb
  refine hK.out _ _ (sA HO 2 4) (fun hHeld => ?_)
  clear hK K
  refine norm_ (a' := ?_) ?_ ?_
  rotate_left
  ·show Act.put _ (some 54) _ = _
   simp only [Act.put, List.setIfInBounds_toArray, List.set_cons_zero, List.set_cons_succ, i64_w, i32_w]
   rfl
  refine pS 14 55 (bs 15 32767) HT_ ?_
  refine done_ (done_of HT_.out (by kernel_rfl)) ?_
  go_wp2
  all_goals go_meet
  all_goals case rel => exact ⟨_, _, _, _, _, _, _, ⟨(Own.at HO).two_of 2 4 (by decide)⟩⟩
 case rest =>
 clear HO hsf hif hsl hj hk hxy hHeld hm HT_ HW_
 (try clear c80 c81 c82 c83 f80 f81 f82 f83 c30 c31 c32 f30 f31 f32)
 obtain ⟨d0, d1, d2, d3, x0, x1, x2, HO⟩ := hcut
 go_wp2_with (first | (go_at_call 72; refine (Dv.drawTranspose_run A c0 l0 _ (by first | exact hr0.out | exact Kd.qW hr0.out (Own.at HO).below) hc0.out hl.out).mono ?_; rintro e wq ⟨A0, A1, A2, k0, k1, k2, p, xs, ys, zs, rfl, hxy, hcf, hb⟩; have hk := qS.mk (And.intro hcf.out.1.1 (And.intro hcf.out.2.1.1 hcf.out.2.2.1)); replace HO := qS.mk (Own.cf3 (Own.at HO) hb.out hcf.out); clear hcf hb; obtain ⟨e, L1, L2, q, hsf, hif, hsl⟩ := transpose_alike xs ys zs p 5000000 (by have := hxy.out; omega) (by have := hxy.out; omega) (by have := hxy.out; omega) (by omega); replace hsf := qS.mk hsf; replace hif := qS.mk hif; replace hsl := qS.mk hsl) | ((with_reducible refine gate_store (t := 32) (p := 3) rfl ?_); refine Own.store 2 HO 32 (.tmp 3) (.tmp 59) [_, _, _] ?_; intro ws h4; replace HO := h4; clear h4; (try clear c30 c31 c32 f30 f31 f32); obtain ⟨c30, c31, c32, f30, f31, f32⟩ := bx3 (qS.mk (HO.out.boxAt 2))) | (go_at_call 50; refine (ans (Own.at HO) (impl_Transpose.calls 5000000 A0 k0 xs A1 k1 ys p A2 k2 zs e L1 L2 q _ ((Own.at HO).rdAt 0 0) hk.out.1 ((Own.at HO).rdAt 0 1) hk.out.2.1 ((Own.at HO).rdAt 0 2) hk.out.2.2 hif.out)).mono ?_; rintro e wq ⟨B1, B2, j1, j2, rfl, hj, h4⟩; replace HO := h4; clear h4; (try clear c30 c31 c32 f30 f31 f32); obtain ⟨c30, c31, c32, f30, f31, f32⟩ := bx3 (qS.mk (HO.out.boxAt 3))) | ((with_reducible refine gate_store (t := 53) (p := 8) rfl ?_); refine Own.store 2 HO 53 (.tmp 8) (.tmp 63) [_, _, _, _] ?_; intro ws h4; replace HO := h4; clear h4; (try clear c80 c81 c82 c83 f80 f81 f82 f83); obtain ⟨c80, c81, c82, c83, f80, f81, f82, f83⟩ := bx4 (qS.mk (HO.out.boxAt 2)); (try clear c30 c31 c32 f30 f31 f32); obtain ⟨c30, c31, c32, f30, f31, f32⟩ := bx3 (qS.mk (HO.out.boxAt 3))))
 replace HO : qS (Own w _ [rds [(B1, L1), (B2, L2)], rds [(A0, xs), (A1, ys), (A2, zs)], box g8 #[.int .i64 e, .slice B1 L1.length j1, .slice B2 L2.length j2, .int .i64 q] 53, box g3 #[.slice A0 xs.length k0, .slice A1 ys.length k1, .int .i64 p] 32]) := ⟨HO.out.drew⟩
 (try clear c80 c81 c82 c83 f80 f81 f82 f83 c30 c31 c32 f30 f31 f32)
 refine start_ (n := 7) (S := fun w' => w'.cell? ⟨g8, 0, none⟩ = some (.int .i64 e) ∧ w'.cell? ⟨g8, 1, none⟩ = some (.slice B1 L1.length j1) ∧ w'.cell? ⟨g8, 2, none⟩ = some (.slice B2 L2.length j2) ∧ w'.cell? ⟨g8, 3, none⟩ = some (.int .i64 q) ∧ w'.cell? ⟨g3, 0, none⟩ = some (.slice A0 xs.length k0) ∧ w'.cell? ⟨g3, 1, none⟩ = some (.slice A1 ys.length k1) ∧ w'.cell? ⟨g3, 2, none⟩ = some (.int .i64 p)) (ds := []) #[false, false, false, false, false, false, false] (by kernel_rfl) rfl rfl (sA HO 2 3) (fun hHeld => ?_); refine with_tabW tab12 bits12 (fun HT_ HW_ => ?_)
 replace HO := qS.mk HO.out
 generalize World.drew _ = wr at HO hHeld ⊢
 refine pS 0 64 (bs 7 1) HT_ ?_
 refine pS 3 67 (bs 7 9) HT_ ?_
 refine tS 1 65 (bs 7 11) HT_ HW_ hHeld ?_
 refine tS 2 66 (bs 7 15) HT_ HW_ hHeld ?_
 refine one_ (i := 4) (N := some 68) (bs 7 31) rfl rfl (one_of HT_.out (by kernel_rfl)) (by decide) (fun K hK => ?_)
 refine goes_ Try.func49 (by kernel_rfl) rfl #[.agg #[.slice A0 xs.length k0, .slice A1 ys.length k1, .int .i64 p], .slice A2 zs.length k2] (by rfl) rfl rfl (by (try simp only [List.map_toArray, List.map_cons, List.map_nil]); first | done | rfl) ?_
 refine (ans (Own.at HO) (spec_Transpose.calls 5000000 A0 k0 xs A1 k1 ys p A2 k2 zs _ L1 L2 q _ ((Own.at HO).rdAt 1 0) hk.out.1 ((Own.at HO).rdAt 1 1) hk.out.2.1 ((Own.at HO).rdAt 1 2) hk.out.2.2 hsf.out)).mono ?_
 rintro e wq ⟨D1, D2, m1, m2, rfl, hm, h4⟩
 refine ⟨_, rfl, ?_⟩
 replace HO := h4; clear h4
 refine hK.out _ _ (sA HO 3 4) (fun hHeld => ?_)
 clear hK K
 refine norm_ (a' := ?_) ?_ ?_
 rotate_left
 ·show Act.put _ (some 68) _ = _
  simp only [Act.put, List.setIfInBounds_toArray, List.set_cons_zero, List.set_cons_succ, i64_w, i32_w]
  rfl
 refine pS 5 69 (bs 7 63) HT_ ?_
 refine pS 6 70 (bs 7 127) HT_ ?_
 refine done_ (done_of HT_.out (by kernel_rfl)) ?_
 go_upto_region 14 with (fail)
 go_cut [82] (fun v82 wc => v82 = .bool false ∧ ∃ d0 d1 d2 d3 x0 x1 x2 : Value, qS (Own w wc [box g8 #[d0, d1, d2, d3] 53, box g3 #[x0, x1, x2] 32]))
 case first =>
  rcases hsl.out with ⟨he, -⟩ | ⟨rfl, hv, rfl, hlz, hq0, hnd, rfl, rfl⟩
  ·have he1 : (e == 0) = false := beq_eq_false_iff_ne.mpr he
   go_wp2
   all_goals go_meet
   all_goals case rel => exact ⟨rfl, _, _, _, _, _, _, _, ⟨(Own.at HO).two_of 3 4 (by decide)⟩⟩
  have hpl := qS.mk (places_transpose xs ys zs q hv hlz hq0 hnd)
  clear hv hlz hq0 hnd hsl hsf hif
  generalize zs.map (rd xs) = L1 at *
  generalize zs.map (rd ys) = L2 at *
  obtain ⟨c80, c81, c82, c83, f80, f81, f82, f83⟩ := bx4 (qS.mk (HO.out.boxAt 3))
  obtain ⟨c30, c31, c32, f30, f31, f32⟩ := bx3 (qS.mk (HO.out.boxAt 4))
  go_wp2_with (first | (go_at_call 71; refine (laws_lwPlaces.calls 5000000 A0 k0 xs A1 k1 ys q B1 j1 L1 B2 j2 L2 q 1 0 none 0 [] none 0 [] 0 0 A2 k2 zs true _ ((Own.at HO).rdAt 2 0) hk.out.1 ((Own.at HO).rdAt 2 1) hk.out.2.1 ((Own.at HO).rdAt 1 0) hj.out.1 ((Own.at HO).rdAt 1 1) hj.out.2 (RC_nil _ _) (by simp) (RC_nil _ _) (by simp) ((Own.at HO).rdAt 2 2) hk.out.2.2 hpl.out).mono ?_; rintro e wq ⟨rfl, hb⟩; replace HO := qS.mk ((Own.at HO).made hb); clear hb))
  all_goals go_meet
  all_goals case rel => exact ⟨rfl, _, _, _, _, _, _, _, ⟨(Own.at HO).two_of 3 4 (by decide)⟩⟩
 case rest =>
 obtain ⟨rfl, hcut⟩ := hcut
 clear HO hsf hif hsl hj hk hxy hHeld hm HT_ HW_
 (try clear c80 c81 c82 c83 f80 f81 f82 f83 c30 c31 c32 f30 f31 f32)
 obtain ⟨d0, d1, d2, d3, x0, x1, x2, HO⟩ := hcut
 go_wp2_with (first | (go_at_call 73; refine (Dv.drawBroadcast_run A c0 l0 _ (by first | exact hr0.out | exact Kd.qW hr0.out (Own.at HO).below) hc0.out hl.out).mono ?_; rintro e wq ⟨A0, A1, A2, k0, k1, k2, p, xs, ys, zs, rfl, hxy, hcf, hb⟩; have hk := qS.mk (And.intro hcf.out.1.1 (And.intro hcf.out.2.1.1 hcf.out.2.2.1)); replace HO := qS.mk (Own.cf3 (Own.at HO) hb.out hcf.out); clear hcf hb; obtain ⟨e, L1, L2, q, hsf, hif, hsl⟩ := broadcast_alike xs ys zs p 5000000 (by have := hxy.out; omega) (by have := hxy.out; omega) (by have := hxy.out; omega) (by omega); replace hsf := qS.mk hsf; replace hif := qS.mk hif; replace hsl := qS.mk hsl) | ((with_reducible refine gate_store (t := 32) (p := 3) rfl ?_); refine Own.store 2 HO 32 (.tmp 3) (.tmp 86) [_, _, _] ?_; intro ws h4; replace HO := h4; clear h4; (try clear c30 c31 c32 f30 f31 f32); obtain ⟨c30, c31, c32, f30, f31, f32⟩ := bx3 (qS.mk (HO.out.boxAt 2))) | (go_at_call 55; refine (ans (Own.at HO) (impl_Broadcast.calls 5000000 A0 k0 xs A1 k1 ys p A2 k2 zs e L1 L2 q _ ((Own.at HO).rdAt 0 0) hk.out.1 ((Own.at HO).rdAt 0 1) hk.out.2.1 ((Own.at HO).rdAt 0 2) hk.out.2.2 hif.out)).mono ?_; rintro e wq ⟨B1, B2, j1, j2, rfl, hj, h4⟩; replace HO := h4; clear h4; (try clear c30 c31 c32 f30 f31 f32); obtain ⟨c30, c31, c32, f30, f31, f32⟩ := bx3 (qS.mk (HO.out.boxAt 3))) | ((with_reducible refine gate_store (t := 53) (p := 8) rfl ?_); refine Own.store 2 HO 53 (.tmp 8) (.tmp 90) [_, _, _, _] ?_; intro ws h4; replace HO := h4; clear h4; (try clear c80 c81 c82 c83 f80 f81 f82 f83); obtain ⟨c80, c81, c82, c83, f80, f81, f82, f83⟩ := bx4 (qS.mk (HO.out.boxAt 2)); (try clear c30 c31 c32 f30 f31 f32); obtain ⟨c30, c31, c32, f30, f31, f32⟩ := bx3 (qS.mk (HO.out.boxAt 3))))
 replace HO : qS (Own w _ [rds [(B1, L1), (B2, L2)], rds [(A0, xs), (A1, ys), (A2, zs)], box g8 #[.int .i64 e, .slice B1 L1.length j1, .slice B2 L2.length j2, .int .i64 q] 53, box g3 #[.slice A0 xs.length k0, .slice A1 ys.length k1, .int .i64 p] 32]) := ⟨HO.out.drew⟩
 (try clear c80 c81 c82 c83 f80 f81 f82 f83 c30 c31 c32 f30 f31 f32)
 refine start_ (n := 7) (S := fun w' => w'.cell? ⟨g8, 0, none⟩ = some (.int .i64 e) ∧ w'.cell? ⟨g8, 1, none⟩ = some (.slice B1 L1.length j1) ∧ w'.cell? ⟨g8, 2, none⟩ = some (.slice B2 L2.length j2) ∧ w'.cell? ⟨g8, 3, none⟩ = some (.int .i64 q) ∧ w'.cell? ⟨g3, 0, none⟩ = some (.slice A0 xs.length k0) ∧ w'.cell? ⟨g3, 1, none⟩ = some (.slice A1 ys.length k1) ∧ w'.cell? ⟨g3, 2, none⟩ = some (.int .i64 p)) (ds := []) #[false, false, false, false, false, false, false] (by kernel_rfl) rfl rfl (sA HO 2 3) (fun hHeld => ?_); refine with_tabW tab18 bits12 (fun HT_ HW_ => ?_)
 replace HO := qS.mk HO.out
 generalize World.drew _ = wr at HO hHeld ⊢
 refine pS 0 91 (bs 7 1) HT_ ?_
 refine pS 3 94 (bs 7 9) HT_ ?_
 refine tS 1 92 (bs 7 11) HT_ HW_ hHeld ?_
 refine tS 2 93 (bs 7 15) HT_ HW_ hHeld ?_
 refine one_ (i := 4) (N := some 95) (bs 7 31) rfl rfl (one_of HT_.out (by kernel_rfl)) (by decide) (fun K hK => ?_)
 refine goes_ Try.func54 (by kernel_rfl) rfl #[.agg #[.slice A0 xs.length k0, .slice A1 ys.length k1, .int .i64 p], .slice A2 zs.length k2] (by rfl) rfl rfl (by (try simp only [List.map_toArray, List.map_cons, List.map_nil]); first | done | rfl) ?_
 refine (ans (Own.at HO) (spec_Broadcast.calls 5000000 A0 k0 xs A1 k1 ys p A2 k2 zs _ L1 L2 q _ ((Own.at HO).rdAt 1 0) hk.out.1 ((Own.at HO).rdAt 1 1) hk.out.2.1 ((Own.at HO).rdAt 1 2) hk.out.2.2 hsf.out)).mono ?_
 rintro e wq ⟨D1, D2, m1, m2, rfl, hm, h4⟩
 refine ⟨_, rfl, ?_⟩
 replace HO := h4; clear h4
 refine hK.out _ _ (sA HO 3 4) (fun hHeld => ?_)
 clear hK K
 refine norm_ (a' := ?_) ?_ ?_
 rotate_left
 ·show Act.put _ (some 95) _ = _
  simp only [Act.put, List.setIfInBounds_toArray, List.set_cons_zero, List.set_cons_succ, i64_w, i32_w]
  rfl
 refine pS 5 96 (bs 7 63) HT_ ?_
 refine pS 6 97 (bs 7 127) HT_ ?_
 refine done_ (done_of HT_.out (by kernel_rfl)) ?_
 rcases hsl.out with ⟨he, -⟩ | ⟨rfl, hv, rfl, hg, hlz, rfl, L, hbs, rfl⟩
 ·have he1 : (e == 0) = false := beq_eq_false_iff_ne.mpr he
  have he2 : (e != 0) = true := bne_iff_ne.mpr he
  obtain ⟨c80, c81, c82, c83, f80, f81, f82, f83⟩ := bx4 (qS.mk (HO.out.boxAt 3))
  go_wp2
  go_ret
  exact ⟨rfl, (Own.at HO).below⟩
 have hpl := qS.mk (places_broadcast xs ys L1 L q hv hg hlz hbs)
 have hss := qS.mk (same_self L1 (by have := hg.1; omega))
 clear hv hg hlz hbs hsl hsf hif
 generalize List.replicate (L1.length - xs.length) 0 ++ L = L2 at *
 obtain ⟨c80, c81, c82, c83, f80, f81, f82, f83⟩ := bx4 (qS.mk (HO.out.boxAt 3))
 obtain ⟨c30, c31, c32, f30, f31, f32⟩ := bx3 (qS.mk (HO.out.boxAt 4))
 go_wp2_with (first | (go_at_call 74; refine (laws_lwSame.calls 5000000 B1 j1 L1 A2 k2 L1 true _ ((Own.at HO).rdAt 1 0) hj.out.1 ((Own.at HO).rdAt 2 2) hk.out.2.2 hss.out).mono ?_; rintro e wq ⟨rfl, hb⟩; replace HO := qS.mk ((Own.at HO).made hb.below); clear hb; (try clear c80 c81 c82 c83 f80 f81 f82 f83); obtain ⟨c80, c81, c82, c83, f80, f81, f82, f83⟩ := bx4 (qS.mk (HO.out.boxAt 3)); (try clear c30 c31 c32 f30 f31 f32); obtain ⟨c30, c31, c32, f30, f31, f32⟩ := bx3 (qS.mk (HO.out.boxAt 4))) | ((with_reducible refine gate_dst (N := 112) rfl ?_); (try (refine gate_guard (by rfl) ?_; dsimp only)); refine Own.lit HO 112 ([] : List Int) [] ?_; intro v112 wl h4; replace HO := h4; clear h4; obtain ⟨A112, k112, rfl⟩ := Kd.qX (HO.out.rowAt 0)) | (go_at_call 71; refine (laws_lwPlaces.calls 5000000 A0 k0 xs A1 k1 ys q B1 j1 L1 B2 j2 L2 q 2 0 none 0 [] none 0 [] 0 0 A112 k112 [] true _ ((Own.at HO).rdAt 3 0) hk.out.1 ((Own.at HO).rdAt 3 1) hk.out.2.1 ((Own.at HO).rdAt 2 0) hj.out.1 ((Own.at HO).rdAt 2 1) hj.out.2 (RC_nil _ _) (by simp) (RC_nil _ _) (by simp) (RC_nil _ _) (by simp) hpl.out).mono ?_; rintro e wq ⟨rfl, hb⟩; replace HO := qS.mk ((Own.at HO).made hb); clear hb))
 go_ret
 exact ⟨rfl, (Own.at HO).below⟩
theorem law_walk (a0 : Option Addr) (len0 cap0 : Nat) (z0 : List Int) (w : World) (w0 : (a0 = none ∧ len0 = 0 ∧ cap0 = 0 ∧ z0 = []) ∨ ∃ x, a0 = some x ∧ len0 ≤ cap0 ∧ cap0 ≤ maxLen ∧ z0.length = cap0 ∧ (∀ i, i < z0.length → w.cell? (x.add i) = some (.int .u8 (z0.getD i 0))) ∧ ∀ n ∈ z0, (Lit.int .u8 n).wf = true) :
  Calls Try.prog 18 #[.slice a0 len0 cap0] w fun e w' => e = .returned (.bool true) ∧ Below w.heap.size w w' := by
 obtain ⟨l0, rfl, hr0, hm0, hw0, hc0⟩ := ReadsInt.ofRowC w0
 exact law_run _ _ l0 w (Kd.C_of_reads (d := (0 : Int)) (h1 := fun _ => rfl) hr0) hc0 hw0
end Go.Proofs.Ytpmdgmnpkdoamaa.Ow
