/- Proved here: what impl.fits answers: whether an array is one of a heap that is valid. Conditions: what impl.ValidView answers is a premise; behind it as in the Places text. -/
import Derived.Test.YtpmdgmnpkdoamabDoorRdPlc4
namespace Go.Proofs.YtpmdgmnpkdoamabDoor.Odo
open Go.RowKit Go.Shelf Rf Go.Proofs.YtpmdgmnpkdoamabDoorW.PrintWords Go.Proofs.YtpmdgmnpkdoamabDoorW.PrintLast Go.Proofs.YtpmdgmnpkdoamabDoorW.PrintMore
attribute [local go_sem] Oper.semAt_some wide_fn
def Vld (A0 A1 : Option Addr) (c0 c1 : Nat) (l0 l1 : List Int) (o : Int) (b : Bool) : Prop := ∀ w, Kd.C (Kd.int .i64) w A0 l0.length l0 → Kd.C (Kd.int .i64) w A1 l1.length l1 →
 Calls Tryd.prog 119 #[.agg #[.slice A0 l0.length c0, .slice A1 l1.length c1, .int .i64 o]] w fun e w' => e = .returned (.bool b) ∧ Below w.heap.size w w'
theorem old_T {β : Type} (T m k : Nat) (f : β → Obj) (hk : k < m) : OwnT T m (fun (s : β) W => W.heap[k]? = some (f s)) := by
 intro s X Y row h hg hrow
 rw [hg.block k (Array.getElem?_eq_some_iff.1 h).1 (fun e' => ?_)]
 ·exact h
 ·have := (hrow k e'.symm).1
  omega
set_option maxHeartbeats 8000000 in
set_option maxRecDepth 100000 in
theorem fits_neg (n : Nat) (hn : 4 ≤ n) (AH : Option Addr) (H cH : Nat) (s : Int) (v0 v1 : Value) (hv0 : ∃ a l c, v0 = .slice a l c) (hv1 : ∃ a l c, v1 = .slice a l c) (o : Int) (w : World) (hs : s < 0 ∨ (H : Int) ≤ s) :
  CallsIn Fence.wide n Tryd.prog 105 #[.agg #[.slice AH H cH], .agg #[.int .i64 s, v0, v1, .int .i64 o]] w fun e w' =>
   e = .returned (.bool false) ∧ Below w.heap.size w w' := by
 obtain ⟨A0, n0, c0, rfl⟩ := hv0
 obtain ⟨A1, n1, c1, rfl⟩ := hv1
 have h1 : 1 ≤ n := by omega
 rcases hs with hs | hs
 ·have hd : decide (s < 0) = true := decide_eq_true hs
  clear hs
  refine callsIn_of_wp_marks Tryd.func105 rfl trivial ?_ rfl
  simp only [Tryd.ntmps105, List.size_toArray, List.length_cons, List.length_nil, Nat.reduceAdd, Nat.reduceSub, Array.replicate_succ, Array.replicate_zero, List.push_toArray, List.append_toArray, List.nil_append, List.cons_append]
  gi_wp2
  refine ⟨_, results_cell rfl Tryd.underlying4 _ _ ⟨w.heap.size + 1 + 1, 0, none⟩ false rfl ?_, rfl, ?_⟩
  ·have q := blk_new ((w.alloc (Obj.cells #[Value.slice AH H cH] 39)).alloc (Obj.cells #[Value.int IntKind.i64 s, Value.slice A0 n0 c0, Value.slice A1 n1 c1, Value.int IntKind.i64 o] 66)) (.cells #[Value.bool false] 4)
   simp only [World.size_alloc] at q
   exact (qJ q 0).trans rfl
  ·exact (((Below.refl _ w).alloc (Nat.le_refl _) _).alloc (by simp) _).alloc (by simp; omega) _
 ·have hd : decide (s < 0) = false := decide_eq_false (by omega)
  have hd2 : decide ((H : Int) ≤ s) = true := decide_eq_true hs
  clear hs
  refine callsIn_of_wp_marks Tryd.func105 rfl trivial ?_ rfl
  simp only [Tryd.ntmps105, List.size_toArray, List.length_cons, List.length_nil, Nat.reduceAdd, Nat.reduceSub, Array.replicate_succ, Array.replicate_zero, List.push_toArray, List.append_toArray, List.nil_append, List.cons_append]
  gi_wp2
  refine ⟨_, results_cell rfl Tryd.underlying4 _ _ ⟨w.heap.size + 1 + 1, 0, none⟩ false rfl ?_, rfl, ?_⟩
  ·have q := blk_new ((w.alloc (Obj.cells #[Value.slice AH H cH] 39)).alloc (Obj.cells #[Value.int IntKind.i64 s, Value.slice A0 n0 c0, Value.slice A1 n1 c1, Value.int IntKind.i64 o] 66)) (.cells #[Value.bool false] 4)
   simp only [World.size_alloc] at q
   exact (qJ q 0).trans rfl
  ·exact (((Below.refl _ w).alloc (Nat.le_refl _) _).alloc (by simp) _).alloc (by simp; omega) _
set_option maxHeartbeats 8000000 in
set_option maxRecDepth 100000 in
theorem fits_bad (n : Nat) (hn : 4 ≤ n) (AH : Option Addr) (H cH : Nat) (s : Int) (A0 A1 : Option Addr) (c0 c1 : Nat) (l0 l1 : List Int) (o : Int) (w : World) (hs0 : 0 ≤ s) (hs1 : s < (H : Int))
  (hr0 : Kd.C (Kd.int .i64) w A0 l0.length l0) (hr1 : Kd.C (Kd.int .i64) w A1 l1.length l1) (hva : Vld A0 A1 c0 c1 l0 l1 o false) :
  CallsIn Fence.wide n Tryd.prog 105 #[.agg #[.slice AH H cH], .agg #[.int .i64 s, .slice A0 l0.length c0, .slice A1 l1.length c1, .int .i64 o]] w fun e w' =>
   e = .returned (.bool false) ∧ Below w.heap.size w w' := by
 have h1 : 1 ≤ n := by omega
 have hd : decide (s < 0) = false := decide_eq_false (by omega)
 have hd2 : decide ((H : Int) ≤ s) = false := decide_eq_false (by omega)
 clear hs0 hs1
 refine callsIn_of_wp_marks Tryd.func105 rfl trivial ?_ rfl
 simp only [Tryd.ntmps105, List.size_toArray, List.length_cons, List.length_nil, Nat.reduceAdd, Nat.reduceSub, Array.replicate_succ, Array.replicate_zero, List.push_toArray, List.append_toArray, List.nil_append, List.cons_append]
 gi_wp2_with (gi_at_call 119; fail)
 obtain ⟨w0, hw0⟩ : ∃ w0, w0 = ((w.alloc (Obj.cells #[Value.slice AH H cH] 39)).alloc (Obj.cells #[Value.int IntKind.i64 s, Value.slice A0 l0.length c0, Value.slice A1 l1.length c1, Value.int IntKind.i64 o] 66)).alloc (Obj.cells #[Value.bool false] 4) := ⟨_, rfl⟩
 have sz0 : w0.heap.size = w.heap.size + 3 := by rw [hw0]; simp
 have hB0 : Below w.heap.size w w0 := by
  rw [hw0]; exact (((Below.refl _ w).alloc (Nat.le_refl _) _).alloc (by simp) _).alloc (by simp; omega) _
 have hc0 : w0.heap[w.heap.size + 1 + 1]? = some (.cells #[Value.bool false] 4 (0, 0)) := by
  have s2 := blk_new ((w.alloc (Obj.cells #[Value.slice AH H cH] 39)).alloc (Obj.cells #[Value.int IntKind.i64 s, Value.slice A0 l0.length c0, Value.slice A1 l1.length c1, Value.int IntKind.i64 o] 66)) (Obj.cells #[Value.bool false] 4)
  simp only [World.size_alloc] at s2
  rw [hw0]
  exact s2
 rw [← hw0]
 clear hw0
 refine (callsIn_wide.2 (hva w0 (Kd.zA hr0 hB0) (Kd.zA hr1 hB0))).mono ?_
 rintro e w1 ⟨rfl, hb⟩
 have hc1 := (hb.block (w.heap.size + 1 + 1) (by omega)).trans hc0
 have hB1 : Below w.heap.size w w1 := hB0.trans (hb.mono (by omega))
 have hcr : w1.cell? ⟨w.heap.size + 1 + 1, 0, none⟩ = some (.bool false) := (qJ hc1 0).trans rfl
 have hfr := qK hc1 0
 gi_wp2
 have hset := jQ (cs' := #[.bool false]) hc1 0 (.bool false) rfl
 refine ⟨_, results_cell rfl Tryd.underlying4 _ _ ⟨w.heap.size + 1 + 1, 0, none⟩ false rfl ?_, rfl, ?_⟩
 ·exact (qJ hset 0).trans rfl
 ·exact hB1.setCell (by simp; omega) _
set_option maxHeartbeats 8000000 in
set_option maxRecDepth 100000 in
theorem fits_in (n : Nat) (hn : 4 ≤ n) (ad : Addr) (H cH : Nat) (s : Int) (A0 A1 Ac : Option Addr) (c0 c1 nn cc : Nat) (l0 l1 : List Int) (o c : Int) (w : World) (hs0 : 0 ≤ s) (hs1 : s < (H : Int))
  (hr0 : Kd.C (Kd.int .i64) w A0 l0.length l0) (hr1 : Kd.C (Kd.int .i64) w A1 l1.length l1) (hva : Vld A0 A1 c0 c1 l0 l1 o true)
  (hq : w.cell? ⟨(ad.add (s.toNat * 2)).block, (ad.add (s.toNat * 2)).off + 1, none⟩ = some (.slice Ac nn cc))
  (hcnt : Cnt A0 c0 l0 c) (hgood : Good l0 l1 o c) :
  CallsIn Fence.wide n Tryd.prog 105 #[.agg #[.slice (some ad) H cH], .agg #[.int .i64 s, .slice A0 l0.length c0, .slice A1 l1.length c1, .int .i64 o]] w fun e w' =>
   e = .returned (.bool (decide (∀ p ∈ placesOf l0 l1 o c, p < (nn : Int)))) ∧ Below w.heap.size w w' := by
 have h1 : 1 ≤ n := by omega
 obtain ⟨xs, hxs⟩ : ∃ xs, xs = placesOf l0 l1 o c := ⟨_, rfl⟩
 have R := qV.mk (And.intro (And.intro hr0 hr1) (And.intro hcnt (And.intro hgood hxs)))
 have VV := qV.mk hva
 have HQ := qV.mk hq
 rw [← hxs]
 clear hr0 hr1 hcnt hgood hxs hva hq
 have hd : decide (s < 0) = false := decide_eq_false (by omega)
 have hd2 : decide ((H : Int) ≤ s) = false := decide_eq_false (by omega)
 have SS := qV.mk (And.intro hs0 hs1)
 clear hs0 hs1
 refine callsIn_of_wp_marks Tryd.func105 rfl trivial ?_ rfl
 simp only [Tryd.ntmps105, List.size_toArray, List.length_cons, List.length_nil, Nat.reduceAdd, Nat.reduceSub, Array.replicate_succ, Array.replicate_zero, List.push_toArray, List.append_toArray, List.nil_append, List.cons_append]
 gi_wp2_with (gi_at_call 119; fail)
 obtain ⟨w0, hw0⟩ : ∃ w0, w0 = ((w.alloc (Obj.cells #[Value.slice (some ad) H cH] 39)).alloc (Obj.cells #[Value.int IntKind.i64 s, Value.slice A0 l0.length c0, Value.slice A1 l1.length c1, Value.int IntKind.i64 o] 66)).alloc (Obj.cells #[Value.bool false] 4) := ⟨_, rfl⟩
 have sz0 : w0.heap.size = w.heap.size + 3 := by rw [hw0]; simp
 have hB0 : Below w.heap.size w w0 := by
  rw [hw0]; exact (((Below.refl _ w).alloc (Nat.le_refl _) _).alloc (by simp) _).alloc (by simp; omega) _
 obtain ⟨ha0, hb0, hc0⟩ : w0.heap[w.heap.size]? = some (.cells #[Value.slice (some ad) H cH] 39 (0, 0)) ∧ w0.heap[w.heap.size + 1]? = some (.cells #[Value.int IntKind.i64 s, Value.slice A0 l0.length c0, Value.slice A1 l1.length c1, Value.int IntKind.i64 o] 66 (0, 0)) ∧
   w0.heap[w.heap.size + 1 + 1]? = some (.cells #[Value.bool false] 4 (0, 0)) := by
  have s1 := blk_new (w.alloc (Obj.cells #[Value.slice (some ad) H cH] 39)) (Obj.cells #[Value.int IntKind.i64 s, Value.slice A0 l0.length c0, Value.slice A1 l1.length c1, Value.int IntKind.i64 o] 66)
  have s2 := blk_new ((w.alloc (Obj.cells #[Value.slice (some ad) H cH] 39)).alloc (Obj.cells #[Value.int IntKind.i64 s, Value.slice A0 l0.length c0, Value.slice A1 l1.length c1, Value.int IntKind.i64 o] 66)) (Obj.cells #[Value.bool false] 4)
  simp only [World.size_alloc] at s1 s2
  rw [hw0]
  exact ⟨qG (qG (blk_new w _) _) _, qG s1 _, s2⟩
 rw [← hw0]
 clear hw0
 refine (callsIn_wide.2 (VV.out w0 (Kd.zA R.out.1.1 hB0) (Kd.zA R.out.1.2 hB0))).mono ?_
 rintro e w1 ⟨rfl, hb⟩
 have ha1 := (hb.block w.heap.size (by omega)).trans ha0
 have hb1 := (hb.block (w.heap.size + 1) (by omega)).trans hb0
 have hc1 := (hb.block (w.heap.size + 1 + 1) (by omega)).trans hc0
 have hB1 : Below w.heap.size w w1 := hB0.trans (hb.mono (by omega))
 have sz1 : w.heap.size + 3 ≤ w1.heap.size := by have := hb.size; omega
 clear ha0 hb0 hc0 hB0 hb sz0
 have g0 : w1.cell? ⟨w.heap.size, 0, none⟩ = some (Value.slice (some ad) H cH) := (qJ ha1 0).trans rfl
 have q0 : w1.cell? ⟨w.heap.size + 1, 0, none⟩ = some (Value.int IntKind.i64 s) := (qJ hb1 0).trans rfl
 have q1 : w1.cell? ⟨w.heap.size + 1, 1, none⟩ = some (Value.slice A0 l0.length c0) := (qJ hb1 1).trans rfl
 have q2 : w1.cell? ⟨w.heap.size + 1, 2, none⟩ = some (Value.slice A1 l1.length c1) := (qJ hb1 2).trans rfl
 have q3 : w1.cell? ⟨w.heap.size + 1, 3, none⟩ = some (Value.int IntKind.i64 o) := (qJ hb1 3).trans rfl
 have hq1 : w1.cell? ⟨(ad.add (s.toNat * 2)).block, (ad.add (s.toNat * 2)).off + 1, none⟩ = some (.slice Ac nn cc) := (hB1.cell (World.block_lt_of_cell? w _ HQ.out)).trans HQ.out
 have qa : ∀ x, (w1.alloc x).cell? ⟨w.heap.size + 1, 1, none⟩ = some (Value.slice A0 l0.length c0) := fun x => (qJ (qG hb1 x) 1).trans rfl
 have qb : ∀ x, (w1.alloc x).cell? ⟨w.heap.size + 1, 2, none⟩ = some (Value.slice A1 l1.length c1) := fun x => (qJ (qG hb1 x) 2).trans rfl
 have qc : ∀ x, (w1.alloc x).cell? ⟨w.heap.size + 1, 3, none⟩ = some (Value.int IntKind.i64 o) := fun x => (qJ (qG hb1 x) 3).trans rfl
 have p1 := eq_true SS.out.1
 have p2 := eq_true SS.out.2
 gi_wp2_with (gi_at_call 122; refine (places_calls (n - 1) _ _ _ _).mono ?_; rintro e w' ⟨rfl, rfl⟩)
 obtain ⟨wl, hwl⟩ : ∃ wl, wl = (w1.alloc (Obj.cells #[Value.int IntKind.i64 (nn : Int)] 2)).alloc (Obj.cells #[Value.slice A0 l0.length c0, Value.slice A1 l1.length c1, Value.int IntKind.i64 o] 64) := ⟨_, rfl⟩
 have sz : wl.heap.size = w1.heap.size + 2 := by rw [hwl]; simp
 have hB2 : Below w.heap.size w wl := by
  rw [hwl]; exact (hB1.alloc (by omega) _).alloc (by simp; omega) _
 obtain ⟨k1, k2, k3⟩ : wl.heap[w.heap.size + 1 + 1]? = some (.cells #[.bool false] 4 (0, 0)) ∧ wl.heap[w1.heap.size]? = some (.cells #[Value.int IntKind.i64 (nn : Int)] 2 (0, 0)) ∧ wl.heap[w1.heap.size + 1]? = some (.cells #[Value.slice A0 l0.length c0, Value.slice A1 l1.length c1, Value.int IntKind.i64 o] 64 (0, 0)) := by
  have s1 := blk_new (w1.alloc (Obj.cells #[Value.int IntKind.i64 (nn : Int)] 2)) (Obj.cells #[Value.slice A0 l0.length c0, Value.slice A1 l1.length c1, Value.int IntKind.i64 o] 64)
  simp only [World.size_alloc] at s1
  rw [hwl]
  exact ⟨qG (qG hc1 _) _, qG (blk_new w1 _) _, s1⟩
 rw [← hwl]
 clear hwl ha1 hb1 hc1 hB1 g0 q0 q1 q2 q3 hq1 qa qb qc p1 p2 hd hd2
 refine rangeFunc_T (T := 186) rfl h1 (gf := 170) (lb := #[.pointer (some ⟨w1.heap.size + 1, 0, none⟩)]) rfl trivial (enters_of Tryd.func170 (by kernel_rfl) rfl)
  (places_seq (n - 1) (by omega) (w1.heap.size + 1) A0 A1 c0 c1 l0 l1 o c wl (by omega) k3 (Kd.zA R.out.1.1 hB2) (Kd.zA R.out.1.2 hB2) R.out.2.1 R.out.2.2.1 xs R.out.2.2.2) kpT_t (fun W l o o' _ a b _ => kpT_obj W l o o' a b) (Below.refl _ _) (fun _ => rfl)
  (fun pre W => (W.heap[w.heap.size + 1 + 1]? = some (.cells #[.bool false] 4 (0, 0)) ∧ W.heap[w1.heap.size]? = some (.cells #[Value.int IntKind.i64 (nn : Int)] 2 (0, 0)) ∧ (∀ p ∈ pre, p < (nn : Int))) ∧ Below w.heap.size w W)
  (fun c pre W => (W.heap[w.heap.size + 1 + 1]? = some (.cells #[.bool false] 4 (0, 0)) ∧ (c = .ret ∧ ∃ p ∈ pre, ¬ p < (nn : Int))) ∧ Below w.heap.size w W)
  (ownT_and (ownT_and (old_T 186 wl.heap.size _ (fun _ => _) (by omega)) (ownT_and (old_T 186 wl.heap.size _ (fun _ => _) (by omega)) (pure_T _ _ _))) (below_T (by omega) (Nat.le_refl _)))
  (fun c => ownT_and (ownT_and (old_T 186 wl.heap.size _ (fun _ => _) (by omega)) (pure_T _ _ _)) (below_T (by omega) (Nat.le_refl _)))
  ⟨⟨k1, k2, by simp⟩, hB2⟩
  (fun x => { tmps := #[.agg #[.slice (some ad) H cH], .agg #[.int .i64 s, .slice A0 l0.length c0, .slice A1 l1.length c1, .int .i64 o], .pointer (some ⟨w.heap.size, 0, none⟩), .pointer (some ⟨w.heap.size + 1, 0, none⟩), .pointer (some ⟨w.heap.size + 1 + 1, 0, none⟩), .pointer (some ⟨w1.heap.size, 0, none⟩), .int .i64 x,
   .pointer (some ⟨w.heap.size + 1, 0, none⟩), .int .i64 s, .bool false, .bool false, .pointer (some ⟨w.heap.size + 1, 0, none⟩), .int .i64 s, .pointer (some ⟨w.heap.size, 0, none⟩), .slice (some ad) H cH, .int .i64 (H : Int), .bool false, .bool false, .bool false,
   .pointer (some ⟨w.heap.size + 1, 1, none⟩), .agg #[.slice A0 l0.length c0, .slice A1 l1.length c1, .int .i64 o], .bool true, .bool false, .bool false, .pointer (some ⟨w.heap.size, 0, none⟩), .slice (some ad) H cH, .pointer (some ⟨w.heap.size + 1, 0, none⟩), .int .i64 s, .pointer (some (ad.add (s.toNat * 2))),
   .pointer (some ⟨(ad.add (s.toNat * 2)).block, (ad.add (s.toNat * 2)).off + 1, none⟩), .slice Ac nn cc, .int .i64 (nn : Int), .pointer (some ⟨w.heap.size + 1, 1, none⟩), .agg #[.slice A0 l0.length c0, .slice A1 l1.length c1, .int .i64 o], .func (.func 170) #[] #[.pointer (some ⟨w1.heap.size + 1, 0, none⟩)], .int .i64 x, undef, undef, undef], defers := [] }) ?assign ?body ?done ?stop
 case assign =>
  intro l x W K hK
  gi_wp2
  exact hK
 case body =>
  rintro l pre x W ⟨⟨hr, hm, hno⟩, hB⟩ hpx
  have hcr : W.cell? ⟨w.heap.size + 1 + 1, 0, none⟩ = some (.bool false) := (qJ hr 0).trans rfl
  have hfr := qK hr 0
  have hcm : W.cell? ⟨w1.heap.size, 0, none⟩ = some (.int .i64 (nn : Int)) := (qJ hm 0).trans rfl
  have K := qV.mk (And.intro (And.intro hr hm) (And.intro hB hno))
  clear hr hm hno hB hB2 k1 k2 k3
  by_cases hx : x < (nn : Int)
  ·have hdx : decide ((nn : Int) ≤ x) = false := decide_eq_false (by omega)
   have MM := qV.mk hx
   clear hx hpx
   gi_wp2
   refine ⟨(KeepsOthers.refl _).from _, fun _ _ h => h, ⟨K.out.1.1, K.out.1.2, fun p hp => ?_⟩, K.out.2.1⟩
   rcases List.mem_append.1 hp with h | h
   ·exact K.out.2.2 p h
   ·obtain rfl : p = x := by simpa using h
    exact MM.out
  ·have hdx : decide ((nn : Int) ≤ x) = true := decide_eq_true (by omega)
   have MM := qV.mk hx
   clear hx hpx
   gi_wp2
   refine ⟨(KeepsOthers.setCell _ _ _).from _, ⟨jQ K.out.1.1 0 _ rfl, rfl, ⟨x, by simp, MM.out⟩⟩, K.out.2.1.setCell (by simp; omega) _⟩
 case done =>
  rintro D ys W hD rfl ⟨⟨hr, hm, hno⟩, hB⟩ hK
  have hfr := qK hr 0
  have hcr : W.cell? ⟨w.heap.size + 1 + 1, 0, none⟩ = some (.bool false) := (qJ hr 0).trans rfl
  gi_wp2
  have hK' : (W.setCell ⟨w.heap.size + 1 + 1, 0, none⟩ (.bool true)).heap[D]? = some (.deferred (some [])) := (Below.heap_setCell _ _ _ _ (by simp; omega)).trans hK
  refine ⟨by simp, .inl ⟨_, _, rfl, run_takeDeferred hK', ?_⟩⟩
  have hset := jQ (cs' := #[.bool true]) hr 0 (.bool true) rfl
  have hDne : D ≠ w.heap.size + 1 + 1 := by omega
  refine ⟨_, results_cell rfl Tryd.underlying4 _ _ ⟨w.heap.size + 1 + 1, 0, none⟩ true rfl ?_, by rw [decide_eq_true hno], ?_⟩
  ·exact (qJ (show ((W.setCell ⟨w.heap.size + 1 + 1, 0, none⟩ (.bool true)).putObj D (.deferred none)).heap[w.heap.size + 1 + 1]? = some (.cells #[.bool true] 4 (0, 0)) from (World.putObj_heap_other (by omega)).trans hset) 0).trans rfl
  ·exact (hB.setCell (by simp; omega) _).trans (belowK_b (w := w) (Nat.le_refl _) _ D _ _ (by omega) hK' rfl rfl)
 case stop =>
  rintro D c pre W hD hp ⟨⟨hr, rfl, hnd⟩, hB⟩ hK
  gi_wp2
  refine ⟨by simp, .inl ⟨_, _, rfl, run_takeDeferred hK, ?_⟩⟩
  have hno : ¬ ∀ p ∈ xs, p < (nn : Int) := fun h => by
   obtain ⟨p, hpm, hpn⟩ := hnd
   have := h p (hp.subset hpm)
   omega
  refine ⟨_, results_cell rfl Tryd.underlying4 _ _ ⟨w.heap.size + 1 + 1, 0, none⟩ false rfl ?_, by rw [decide_eq_false hno], ?_⟩
  ·exact (qJ (show (W.putObj D (.deferred none)).heap[w.heap.size + 1 + 1]? = some (.cells #[.bool false] 4 (0, 0)) from (World.putObj_heap_other (by omega)).trans hr) 0).trans rfl
  ·exact hB.trans (belowK_b (w := w) (Nat.le_refl _) _ D _ _ (by omega) hK rfl rfl)
end Go.Proofs.YtpmdgmnpkdoamabDoor.Odo
