/- Proved here: what impl.places and the iterator that it hands out do: the places of a valid view's elements come in row-major order. Conditions: the view's lists are read; its lengths are at least 1, their product at most 4096, its strides small, its places within the bounds. -/
import Derived.Test.YtpmdgmnpkdoamaaViMerged
import Derived.Test.YtpmdgmnpkdoamaaViRg
import Derived.RangeFuncNested
import Derived.RangeFuncBound
import Derived.RangeFuncCalls
import Derived.RangeFuncLeaves
import Derived.Shelf.Abstract
import Derived.OwnWalkIn
import Derived.TacticsInMore
import Derived.LoopNIn
import Derived.LoopIn
import Derived.Sort.QuietIn
import Derived.RegionIn
namespace Go.Proofs.Ytpmdgmnpkdoamaa.Odo
open Go.RowKit Go.Shelf Rf Go.Proofs.YtpmdgmnpkdoamaaW.PrintWords Go.Proofs.YtpmdgmnpkdoamaaW.PrintLast Go.Proofs.YtpmdgmnpkdoamaaW.PrintMore
attribute [local go_sem] Oper.semAt_some
theorem wide_fn (f : FuncId) : Fence.wide.fn f = True := rfl
attribute [local go_sem] wide_fn
def NF (l0 l1 : List Int) (q : Nat) : Int := (nth (acc l0 l1 l0.length) q).1
def SF (l0 l1 : List Int) (q : Nat) : Int := (nth (acc l0 l1 l0.length) q).2
def MF (l0 l1 : List Int) : Nat := (acc l0 l1 l0.length).length
def KpT (A B : World) : Prop := ∀ (b : Nat) cs, A.heap[b]? = some (.cells cs 137 (0, 0)) → B.heap[b]? = some (.cells cs 137 (0, 0))
def Own3 (b3 b4 b6 : Nat) (l0 l1 : List Int) (D : Nat → Int) (wr : World) : Prop :=
 wr.heap[b3]? = some (.cells (arr4 (NF l0 l1)) 137 (0, 0)) ∧ wr.heap[b4]? = some (.cells (arr4 (SF l0 l1)) 137 (0, 0)) ∧ wr.heap[b6]? = some (.cells (arr4 D) 137 (0, 0))
theorem fsts_map (a : List (Int × Int)) : fsts a = (List.range a.length).map (fun q => (nth a q).1) := by
 unfold fsts nth
 apply List.ext_getElem
 ·simp
 ·intro i h1 h2
  simp at h1
  simp [List.getElem_map, List.getD_eq_getElem?_getD, h1]
theorem snds_map (a : List (Int × Int)) : snds a = (List.range a.length).map (fun q => (nth a q).2) := by
 unfold snds nth
 apply List.ext_getElem
 ·simp
 ·intro i h1 h2
  simp at h1
  simp [List.getElem_map, List.getD_eq_getElem?_getD, h1]
theorem nth_mem {a : List (Int × Int)} {q : Nat} (h : q < a.length) : nth a q ∈ a := by
 unfold nth
 rw [List.getD_eq_getElem?_getD, List.getElem?_eq_getElem (by simpa using h)]
 simp
theorem nf_known (l0 l1 : List Int) (hl : l1.length = l0.length) (hp : ∀ x ∈ l0, 1 ≤ x) (hs : ∀ s ∈ l1, -4096 ≤ s ∧ s ≤ 4096) (hc : pr l0 ≤ 4096) :
  MF l0 l1 ≤ l0.length ∧ ∀ j, j < MF l0 l1 → 1 ≤ NF l0 l1 j ∧ NF l0 l1 j ≤ 4096 ∧ -4096 ≤ SF l0 l1 j ∧ SF l0 l1 j ≤ 4096 := by
 obtain ⟨a, b⟩ := mg_small l0 l1 hl hp hs hc l0.length
 exact ⟨b, fun j hj => a _ (nth_mem hj)⟩
theorem places_is (l0 l1 : List Int) (o : Int) (hl : l1.length = l0.length) (hp : ∀ x ∈ l0, 1 ≤ x) (hs : ∀ s ∈ l1, -4096 ≤ s ∧ s ≤ 4096) (hc : pr l0 ≤ 4096) :
  places l0 l1 o = o :: after (NF l0 l1) (SF l0 l1) (MF l0 l1) (fun _ => 0) o := by
 have h := mg_places l0 l1 [] o hl.symm (fun k hk => by have := hp k hk; omega) (fun x hx => by simp at hx)
 have e : mg [] l0 l1 = acc l0 l1 l0.length := by unfold acc; rw [List.take_length, ← hl, List.take_length]
 rw [show fsts ([] : List (Int × Int)) ++ l0 = l0 from rfl, show snds ([] : List (Int × Int)) ++ l1 = l1 from rfl, e, fsts_map, snds_map] at h
 rw [← h]
 exact places_after _ _ _ o (fun j hj => ((nf_known l0 l1 hl hp hs hc).2 j hj).1)
theorem own3_cell {b3 b4 b6 : Nat} {l0 l1 : List Int} {D : Nat → Int} {wr : World} (h : Own3 b3 b4 b6 l0 l1 D wr) {q : Nat} (hq : q < 4) : wr.cell? ⟨b6, q, none⟩ = some (.int .i64 (D q)) := by
 rw [qJ h.2.2 q]
 obtain rfl | rfl | rfl | rfl : q = 0 ∨ q = 1 ∨ q = 2 ∨ q = 3 := by omega
 all_goals rfl
theorem own3_reads {b3 b4 b6 : Nat} {l0 l1 : List Int} {D : Nat → Int} {wr : World} (h : Own3 b3 b4 b6 l0 l1 D wr) (N S : Nat → Int) {M : Nat} (hM : M ≤ 4) (p : Int) :
  after N S M (fun q => intOf ((wr.cell? ⟨b6, q, none⟩).getD undef)) p = after N S M D p :=
 after_congr N S M _ _ p (fun j hj => by rw [own3_cell h (by omega)]; rfl)
theorem own3_put {b3 b4 b6 : Nat} {l0 l1 : List Int} {D : Nat → Int} {wr : World} (h : Own3 b3 b4 b6 l0 l1 D wr) (n3 : b3 ≠ b6) (n4 : b4 ≠ b6) {q : Nat} (hq : q < 4) (x : Int) :
  Own3 b3 b4 b6 l0 l1 (upd D q x) (wr.setCell ⟨b6, q, none⟩ (.int .i64 x)) :=
 ⟨zN h.1 n3 _, zN h.2.1 n4 _, zO h.2.2 q _ (arr_set _ _ q hq x (fun _ _ => rfl))⟩
theorem upd_upd (D : Nat → Int) (q : Nat) (x y : Int) : upd (upd D q x) q y = upd D q y := by
 funext j
 unfold upd
 split <;> rfl
theorem own3_drewN {b3 b4 b6 : Nat} {l0 l1 : List Int} {D : Nat → Int} {wr : World} (h : Own3 b3 b4 b6 l0 l1 D wr) (n : Nat) : Own3 b3 b4 b6 l0 l1 D (wr.drewN n) := h
theorem grown_drewN (w : World) (n : Nat) (row : Option Nat) : w.grownBy (w.drewN n) row := ⟨rfl, rfl, rfl, Nat.le_refl _, fun _ _ _ => rfl⟩
theorem grown_put (w : World) (b q : Nat) (v : Value) : w.grownBy (w.setCell ⟨b, q, none⟩ v) (some b) :=
 ⟨rfl, rfl, rfl, by simp, fun k _ hk => Below.heap_setCell _ _ _ _ (by intro e; exact hk (by simp [e]))⟩
set_option maxHeartbeats 8000000 in
set_option maxRecDepth 100000 in
theorem places1 (n : Nat) (hn : 2 ≤ n) (l Bn : Nat) (A0 A1 : Option Addr) (c0 c1 : Nat) (l0 l1 : List Int) (o : Int) (J Jx : List Int → World → Prop) (W : World)
  (hbn : W.heap[Bn]? = some (.cells #[.slice A0 l0.length c0, .slice A1 l1.length c1, .int .i64 o] 32 (0, 0)))
  (hr0 : Kd.C (Kd.int .i64) W A0 l0.length l0) (hr1 : Kd.C (Kd.int .i64) W A1 l1.length l1) (hl : l1.length = l0.length) (h4 : l0.length ≤ 4)
  (hcnt : ∀ w, Kd.C (Kd.int .i64) w A0 l0.length l0 → Calls Try.prog 81 #[.slice A0 l0.length c0] w fun e w' => ∃ r : Int, e = .returned (.int .i64 r) ∧ (r == 0) = false ∧ zA w w')
  (hp : ∀ x ∈ l0, 1 ≤ x) (hs : ∀ s ∈ l1, -4096 ≤ s ∧ s ≤ 4096) (hc : pr l0 ≤ 4096) (xs : List Int) (hxs : xs = places l0 l1 o) (hin : ∀ x ∈ xs, 0 ≤ x ∧ x < 4096)
  (hJ : AbidesT 137 W.heap.size J) (hJx : AbidesT 137 W.heap.size Jx)
  (hY : ∀ pre x W1, J pre W1 → pre ++ [x] <+: xs → YieldAt Fence.wide (n - 1) Try.prog l #[.int .i64 x] W1 fun e W' =>
   (e = .returned (.bool true) ∧ J (pre ++ [x]) W' ∧ KpT W1 W') ∨ (e = .returned (.bool false) ∧ Jx (pre ++ [x]) W'))
  (h0 : J [] W) :
  CallsIn Fence.wide n Try.prog 114 #[.func (.yield l) #[] #[], .pointer (some ⟨Bn, 0, none⟩)] W fun e W' => (∃ v, e = .returned v) ∧ ((∃ ys, ys = xs ∧ J ys W') ∨ (∃ pre, pre <+: xs ∧ Jx pre W')) := by
 have hv0 : W.cell? ⟨Bn, 0, none⟩ = some (.slice A0 l0.length c0) := (qJ hbn 0).trans rfl
 have hv1 : W.cell? ⟨Bn, 1, none⟩ = some (.slice A1 l1.length c1) := (qJ hbn 1).trans rfl
 have hv2 : W.cell? ⟨Bn, 2, none⟩ = some (.int .i64 o) := (qJ hbn 2).trans rfl
 have hBnlt : Bn < W.heap.size := zP hbn
 have BN := qS.mk hbn
 have R0 := qS.mk (And.intro hr0 hr1)
 have LL := qS.mk (And.intro hl h4)
 have HP := qS.mk (And.intro hp (And.intro hs hc))
 have X := qS.mk (And.intro hxs hin)
 have JJ := qS.mk (And.intro hJ hJx)
 have Y := qS.mk hY
 have J0 := qS.mk h0
 have CN := qS.mk hcnt
 clear hbn hr0 hr1 hl h4 hp hs hc hxs hin hJ hJx hY h0 hcnt
 have hn1 : 1 ≤ n := by omega
 have hn2 : 1 ≤ n - 1 := by omega
 refine callsIn_of_wp Try.func114 rfl trivial ?_ rfl
 simp only [Try.ntmps114, List.size_toArray, List.length_cons, List.length_nil, Nat.reduceAdd, Nat.reduceSub, Array.replicate_succ, Array.replicate_zero, List.push_toArray, List.append_toArray, List.nil_append, List.cons_append]
 gi_wp2_with (gi_at_call 81; refine (callsIn_wide.2 (CN.out _ R0.out.1)).mono ?_; rintro e w' ⟨r, rfl, hr, ⟨nd, rfl⟩⟩)
 have HM : Calls Try.prog 115 #[.agg #[.slice A0 l0.length c0, .slice A1 l1.length c1, .int .i64 o]] (W.drewN nd) fun e w' =>
   (e = .returned (.tuple #[.agg #[.int .i64 (NF l0 l1 0), .int .i64 (NF l0 l1 1), .int .i64 (NF l0 l1 2), .int .i64 (NF l0 l1 3)], .agg #[.int .i64 (SF l0 l1 0), .int .i64 (SF l0 l1 1), .int .i64 (SF l0 l1 2), .int .i64 (SF l0 l1 3)], .int .i64 (MF l0 l1 : Nat)])) ∧ Below (W.drewN nd).heap.size (W.drewN nd) w' :=
  merged_calls A0 A1 c0 c1 l0 l1 o (W.drewN nd) R0.out.1 R0.out.2 LL.out.1 LL.out.2 HP.out.1 HP.out.2.1 HP.out.2.2
 generalize hN0 : NF l0 l1 0 = N0, hN1 : NF l0 l1 1 = N1, hN2 : NF l0 l1 2 = N2, hN3 : NF l0 l1 3 = N3, hS0 : SF l0 l1 0 = S0, hS1 : SF l0 l1 1 = S1, hS2 : SF l0 l1 2 = S2, hS3 : SF l0 l1 3 = S3, hM : MF l0 l1 = M at HM
 have EE := qS.mk (And.intro (And.intro (And.intro hN0 hN1) (And.intro hN2 hN3)) (And.intro (And.intro (And.intro hS0 hS1) (And.intro hS2 hS3)) hM))
 clear hN0 hN1 hN2 hN3 hS0 hS1 hS2 hS3 hM
 refine (callsIn_wide.2 HM).mono ?_
 rintro e w1 ⟨rfl, hb1⟩
 clear HM
 have B1 := qS.mk hb1
 have hbn1 : w1.heap[Bn]? = some (.cells #[.slice A0 l0.length c0, .slice A1 l1.length c1, .int .i64 o] 32 (0, 0)) := (hb1.block Bn hBnlt).trans BN.out
 have hv2' : ∀ a b c : Obj, (((w1.alloc a).alloc b).alloc c).cell? ⟨Bn, 2, none⟩ = some (.int .i64 o) := fun a b c => (qJ (qG (qG (qG hbn1 a) b) c) 2).trans rfl
 have hlt1 : Bn < w1.heap.size := zP hbn1
 clear hb1 hbn1 hv0 hv1 hv2 hBnlt
 have KN := nf_known l0 l1 LL.out.1 HP.out.1 HP.out.2.1 HP.out.2.2
 rw [EE.out.2.2] at KN
 have KN := qS.mk KN
 have WB := qS.mk (show W.heap.size ≤ w1.heap.size from B1.out.size)
 gi_wp2
 gi_loopw [7] (fun p wr => ∃ (pre : List Int) (D : Nat → Int) (pl : Int), p = .int .i64 pl ∧ qS (xs = pre ++ pl :: after (NF l0 l1) (SF l0 l1) M D pl ∧ valid (NF l0 l1) M D ∧ Own3 w1.heap.size (w1.heap.size + 1) (w1.heap.size + 1 + 1) l0 l1 D wr ∧ J pre wr))
  (fun p wr => (after (NF l0 l1) (SF l0 l1) M (fun q => intOf ((wr.cell? ⟨w1.heap.size + 1 + 1, q, none⟩).getD undef)) (intOf p)).length)
 case atStart =>
  refine ⟨[], fun _ => 0, o, rfl, ⟨?_, ?_, ?_, ?_⟩⟩
  ·rw [X.out.1, places_is l0 l1 o LL.out.1 HP.out.1 HP.out.2.1 HP.out.2.2, EE.out.2.2]; rfl
  ·intro j hj
   have := (KN.out.2 j hj).1
   exact ⟨Int.le_refl _, by show 0 < NF l0 l1 j; omega⟩
  ·have s1 := blk_new (w1.alloc (.cells #[.int .i64 N0, .int .i64 N1, .int .i64 N2, .int .i64 N3] 137)) (.cells #[.int .i64 S0, .int .i64 S1, .int .i64 S2, .int .i64 S3] 137)
   have s2 := blk_new ((w1.alloc (.cells #[.int .i64 N0, .int .i64 N1, .int .i64 N2, .int .i64 N3] 137)).alloc (.cells #[.int .i64 S0, .int .i64 S1, .int .i64 S2, .int .i64 S3] 137)) (.cells #[.int .i64 0, .int .i64 0, .int .i64 0, .int .i64 0] 137)
   simp only [World.size_alloc] at s1 s2
   refine ⟨?_, ?_, s2⟩
   ·unfold arr4
    rw [EE.out.1.1.1, EE.out.1.1.2, EE.out.1.2.1, EE.out.1.2.2]
    exact qG (qG (blk_new w1 _) _) _
   ·unfold arr4
    rw [EE.out.2.1.1.1, EE.out.2.1.1.2, EE.out.2.1.2.1, EE.out.2.1.2.2]
    exact qG s1 _
  ·refine JJ.out.1 [] W _ none J0.out (grown_of_below ?_ none) (fun r e => by cases e)
   have hB1 : Below W.heap.size W w1 := ⟨B1.out.os, B1.out.tape, B1.out.output, B1.out.size, B1.out.block⟩
   have hw := WB.out
   exact (((hB1.alloc (by omega) _).alloc (by simp; omega) _).alloc (by simp; omega) _)
 case round =>
  obtain ⟨pre, D, pl, rfl, RL⟩ := hrel
  obtain ⟨fn, tmps, assign, body, hy, hR⟩ := Y.out pre pl wr RL.out.2.2.2 (by rw [RL.out.1]; exact ⟨after (NF l0 l1) (SF l0 l1) M D pl, by simp⟩)
  have XL := qS.mk (X.out.2 pl (by rw [RL.out.1]; simp))
  have M4 : M ≤ 4 := Nat.le_trans KN.out.1 LL.out.2
  gi_wp2
  refine hR.mono ?_
  rintro e W3 (⟨rfl, hJ3, hk3⟩ | ⟨rfl, hJx3⟩)
  ·have OW := qS.mk (show Own3 w1.heap.size (w1.heap.size + 1) (w1.heap.size + 1 + 1) l0 l1 D W3 ∧ J (pre ++ [pl]) W3 from ⟨⟨hk3 _ _ RL.out.2.2.1.1, hk3 _ _ RL.out.2.2.1.2.1, hk3 _ _ RL.out.2.2.1.2.2⟩, hJ3⟩)
   clear hk3 hJ3 hR
   gi_wp2
   gi_loopw [7, 8] (fun p i w2 => ∃ (D2 : Nat → Int) (p2 : Int) (j : Nat), p = .int .i64 p2 ∧ i = .int .i64 ((j : Int) - 1) ∧ j ≤ M ∧ p2.natAbs ≤ 4096 + (M - j) * 16781312 ∧
     qS (valid (NF l0 l1) M D2 ∧ Own3 w1.heap.size (w1.heap.size + 1) (w1.heap.size + 1 + 1) l0 l1 D2 w2 ∧ J (pre ++ [pl]) w2 ∧ step (NF l0 l1) (SF l0 l1) M D pl = step (NF l0 l1) (SF l0 l1) j D2 p2))
    (fun _ i _ => (intOf i + 1).toNat)
   case atStart => exact ⟨D, pl, M, rfl, by go_num, Nat.le_refl _, by have := XL.out; omega, ⟨RL.out.2.1, OW.out.1, OW.out.2, rfl⟩⟩
   case round =>
    obtain ⟨D2, p2, j, rfl, rfl, hj, hp2, IR⟩ := hrel
    cases j with
    | zero =>
     rw [show ((0 : Nat) : Int) - 1 = -1 by omega]
     gi_wp2
     refine bodyPost_ret (results_none rfl _ _ _) rfl ?_
     refine ⟨⟨_, rfl⟩, .inl ⟨_, rfl, ?_⟩⟩
     have e0 := (step_tells (NF l0 l1) (SF l0 l1) M D pl RL.out.2.1).1 (by rw [IR.out.2.2.2]; rfl)
     rw [RL.out.1, e0]
     exact IR.out.2.2.1
    | succ q =>
     rw [show ((q + 1 : Nat) : Int) - 1 = (q : Int) by omega]
     have q4 : q < 4 := by omega
     have q4i : (q : Int) < 4 := by omega
     have cell4 : ∀ (f : Nat → Int) (B : Nat), wr.heap[B]? = some (.cells (arr4 f) 137 (0, 0)) → wr.cell? ⟨B, q, none⟩ = some (.int .i64 (f q)) := by
      intro f B h
      rw [qJ h q]
      obtain rfl | rfl | rfl | rfl : q = 0 ∨ q = 1 ∨ q = 2 ∨ q = 3 := by omega
      all_goals rfl
     obtain ⟨o3, o4, o6⟩ := IR.out.2.1
     have c3 := cell4 _ _ o3
     have c4 := cell4 _ _ o4
     have c6 := cell4 _ _ o6
     have f6 : wr.frozen? ⟨w1.heap.size + 1 + 1, q, none⟩ = false := qK o6 q
     have d3 : ∀ n v, ((wr.setCell ⟨w1.heap.size + 1 + 1, q, none⟩ v).drewN n).cell? ⟨w1.heap.size, q, none⟩ = some (.int .i64 (NF l0 l1 q)) := fun n v => (World.cell?_setCell_other _ _ _ _ (by simp)).trans c3
     have d4 : ∀ n v, ((wr.setCell ⟨w1.heap.size + 1 + 1, q, none⟩ v).drewN n).cell? ⟨w1.heap.size + 1, q, none⟩ = some (.int .i64 (SF l0 l1 q)) := fun n v => (World.cell?_setCell_other _ _ _ _ (by simp)).trans c4
     clear o3 o4 o6 cell4
     generalize hD : D2 q = d at c6
     generalize hN : NF l0 l1 q = nk at c3 d3
     generalize hS : SF l0 l1 q = sq at c4 d4
     have DD := qS.mk (And.intro hD (And.intro hN hS))
     clear hD hN hS
     have KQ := KN.out.2 q (by omega)
     have VQ := IR.out.1 q (by omega)
     rw [DD.out.1, DD.out.2.1] at VQ
     rw [DD.out.2.1, DD.out.2.2] at KQ
     have e1 : wrap64 (d + 1) = d + 1 := by unfold wrap64; omega
     have e2 : wrap64 (p2 + sq) = p2 + sq := by unfold wrap64; omega
     have KV := qS.mk (And.intro (And.intro KQ VQ) (And.intro e1 e2))
     clear KQ VQ e1 e2
     by_cases hlt : wrap64 (d + 1) < nk
     ·have hlt' : decide (wrap64 (d + 1) < nk) = true := decide_eq_true hlt
      have LT := qS.mk hlt
      clear hlt
      gi_wp2
      gi_quiet (fail)
      gi_wp2
      rw [KV.out.2.1, KV.out.2.2]
      have LT1 := LT.out
      rw [KV.out.2.1] at LT1
      have st : step (NF l0 l1) (SF l0 l1) M D pl = some (upd D2 q (d + 1), p2 + sq) := by
       rw [IR.out.2.2.2]
       unfold step
       rw [DD.out.1, DD.out.2.1, DD.out.2.2, if_pos LT1]
      obtain ⟨t1, t2, -⟩ := (step_tells (NF l0 l1) (SF l0 l1) M D pl RL.out.2.1).2 _ _ st
      have ow := own3_put IR.out.2.1 (by omega) (by omega) q4 (d + 1)
      refine ⟨⟨pre ++ [pl], upd D2 q (d + 1), p2 + sq, rfl, ⟨?_, t2, ow, ?_⟩⟩, ?_⟩
      ·rw [RL.out.1, t1]; simp
      ·refine JJ.out.1 _ _ _ none (JJ.out.1 _ wr _ (some (w1.heap.size + 1 + 1)) IR.out.2.2.1 (grown_put wr _ q _) (fun r e => by cases e; exact ⟨by have := WB.out; omega, _, IR.out.2.1.2.2⟩)) (grown_drewN _ _ none) (fun r e => by cases e)
      ·rw [own3_reads (own3_drewN ow _) _ _ M4]
       show _ < (after _ _ M (fun q => intOf ((_ : Option Value).getD undef)) pl).length
       rw [own3_reads RL.out.2.2.1 _ _ M4, t1]
       simp [intOf]
     ·have hlt' : decide (wrap64 (d + 1) < nk) = false := decide_eq_false hlt
      have LT := qS.mk hlt
      clear hlt
      gi_wp2
      gi_quiet (fail)
      gi_wp2
      gi_quiet (fail)
      gi_wp2
      rw [KV.out.2.1, KV.out.2.2]
      have LT1 := LT.out
      rw [KV.out.2.1] at LT1
      have k0 := KV.out.1
      have z1 : wrap64 (sq * nk) = sq * nk := wrap_small k0.1.2.2.1 k0.1.2.2.2 (by omega) (by omega)
      have z2 : (sq * nk).natAbs ≤ 4096 * 4096 := by rw [Int.natAbs_mul]; exact Nat.mul_le_mul (by omega) (by omega)
      have z3 : (p2 + sq - sq * nk).natAbs ≤ 4096 + (M - q) * 16781312 := by omega
      have z4 : wrap64 (p2 + sq - sq * nk) = p2 + sq - sq * nk := by clear z1; unfold wrap64; omega
      rw [z1, z4]
      have st : step (NF l0 l1) (SF l0 l1) M D pl = step (NF l0 l1) (SF l0 l1) q (upd D2 q 0) (p2 + sq - sq * nk) := by
       rw [IR.out.2.2.2]
       conv => lhs; unfold step
       rw [DD.out.1, DD.out.2.1, DD.out.2.2, if_neg (by omega)]
      have ow := own3_put (own3_put IR.out.2.1 (by omega) (by omega) q4 (d + 1)) (by omega) (by omega) q4 0
      rw [upd_upd] at ow
      have vd : valid (NF l0 l1) M (upd D2 q 0) := by
       intro i hi
       by_cases h : i = q
       ·subst h; rw [upd_same, DD.out.2.1]; omega
       ·rw [upd_other _ _ h]; exact IR.out.1 i hi
      refine ⟨⟨upd D2 q 0, p2 + sq - sq * nk, q, rfl, rfl, by omega, z3, ⟨vd, ow, ?_, st⟩⟩, by simp [intOf]⟩
      have hb6 : W.heap.size ≤ w1.heap.size + 1 + 1 := by have := WB.out; omega
      have ow1 := own3_put IR.out.2.1 (by omega) (by omega) q4 (d + 1)
      have j1 := JJ.out.1 _ wr _ (some (w1.heap.size + 1 + 1)) IR.out.2.2.1 (grown_put wr _ q (.int .i64 (d + 1))) (fun r e => by cases e; exact ⟨hb6, _, IR.out.2.1.2.2⟩)
      have j2 := fun k : Nat => JJ.out.1 _ _ _ none j1 (grown_drewN _ k none) (fun r e => by cases e)
      exact JJ.out.1 _ _ _ (some (w1.heap.size + 1 + 1)) (j2 _) (grown_put _ _ q (.int .i64 0)) (fun r e => by cases e; exact ⟨hb6, _, ow1.2.2⟩)
  ·gi_wp2
   refine bodyPost_ret (results_none rfl _ _ _) rfl ?_
   exact ⟨⟨_, rfl⟩, .inr ⟨pre ++ [pl], ⟨after (NF l0 l1) (SF l0 l1) M D pl, by rw [RL.out.1]; simp⟩, hJx3⟩⟩
end Go.Proofs.Ytpmdgmnpkdoamaa.Odo
