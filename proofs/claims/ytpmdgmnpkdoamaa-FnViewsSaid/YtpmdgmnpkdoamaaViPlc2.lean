/- Proved here: what impl.offsets answers: the places of a view's elements, in an own list. Conditions: as in the Places text, or the count of the shape is 0. -/
import Derived.Test.YtpmdgmnpkdoamaaViPlc
namespace Go.Proofs.Ytpmdgmnpkdoamaa.Odo
open Go.RowKit Go.Shelf Rf Go.Proofs.YtpmdgmnpkdoamaaW.PrintWords Go.Proofs.YtpmdgmnpkdoamaaW.PrintLast Go.Proofs.YtpmdgmnpkdoamaaW.PrintMore
attribute [local go_sem] Oper.semAt_some wide_fn
def Good (l0 l1 : List Int) (o c : Int) : Prop := l1.length = l0.length ∧ l0.length ≤ 4 ∧
 (c ≠ 0 → (∀ x ∈ l0, 1 ≤ x) ∧ (∀ s ∈ l1, -4096 ≤ s ∧ s ≤ 4096) ∧ pr l0 ≤ 4096 ∧ ∀ x ∈ places l0 l1 o, 0 ≤ x ∧ x < 4096)
instance (l0 l1 : List Int) (o c : Int) : Decidable (Good l0 l1 o c) := by unfold Good; infer_instance
def placesOf (l0 l1 : List Int) (o c : Int) : List Int := if c = 0 then [] else places l0 l1 o
def Cnt (A0 : Option Addr) (c0 : Nat) (l0 : List Int) (c : Int) : Prop := ∀ w, Kd.C (Kd.int .i64) w A0 l0.length l0 → Calls Try.prog 81 #[.slice A0 l0.length c0] w fun e w' => e = .returned (.int .i64 c) ∧ zA w w'
set_option maxHeartbeats 8000000 in
set_option maxRecDepth 100000 in
theorem places_any (n : Nat) (hn : 2 ≤ n) (l Bn : Nat) (A0 A1 : Option Addr) (c0 c1 : Nat) (l0 l1 : List Int) (o c : Int) (J Jx : List Int → World → Prop) (W : World)
  (hbn : W.heap[Bn]? = some (.cells #[.slice A0 l0.length c0, .slice A1 l1.length c1, .int .i64 o] 32 (0, 0)))
  (hr0 : Kd.C (Kd.int .i64) W A0 l0.length l0) (hr1 : Kd.C (Kd.int .i64) W A1 l1.length l1) (hcnt : Cnt A0 c0 l0 c) (hgood : Good l0 l1 o c) (xs : List Int) (hxs : xs = placesOf l0 l1 o c)
  (hJ : AbidesT 137 W.heap.size J) (hJx : AbidesT 137 W.heap.size Jx)
  (hY : ∀ pre x W1, J pre W1 → pre ++ [x] <+: xs → YieldAt Fence.wide (n - 1) Try.prog l #[.int .i64 x] W1 fun e W' =>
   (e = .returned (.bool true) ∧ J (pre ++ [x]) W' ∧ KpT W1 W') ∨ (e = .returned (.bool false) ∧ Jx (pre ++ [x]) W'))
  (h0 : J [] W) :
  CallsIn Fence.wide n Try.prog 114 #[.func (.yield l) #[] #[], .pointer (some ⟨Bn, 0, none⟩)] W fun e W' => (∃ v, e = .returned v) ∧ ((∃ ys, ys = xs ∧ J ys W') ∨ (∃ pre, pre <+: xs ∧ Jx pre W')) := by
 by_cases hc : c = 0
 ·have e : xs = [] := by rw [hxs]; unfold placesOf; rw [if_pos hc]
  subst e
  have hv0 : W.cell? ⟨Bn, 0, none⟩ = some (.slice A0 l0.length c0) := (qJ hbn 0).trans rfl
  have hn1 : 1 ≤ n := by omega
  have JJ := qS.mk hJ
  have J0 := qS.mk h0
  have CN := qS.mk hcnt
  have R0 := qS.mk hr0
  clear hbn hr0 hr1 hgood hxs hJ hJx hY h0 hcnt
  refine callsIn_of_wp Try.func114 rfl trivial ?_ rfl
  simp only [Try.ntmps114, List.size_toArray, List.length_cons, List.length_nil, Nat.reduceAdd, Nat.reduceSub, Array.replicate_succ, Array.replicate_zero, List.push_toArray, List.append_toArray, List.nil_append, List.cons_append]
  subst hc
  gi_wp2_with (gi_at_call 81; refine (callsIn_wide.2 (CN.out _ R0.out)).mono ?_; rintro e w' ⟨rfl, ⟨nd, rfl⟩⟩)
  refine bodyPost_ret (results_none rfl _ _ _) rfl ?_
  exact ⟨⟨_, rfl⟩, .inl ⟨_, rfl, JJ.out _ _ _ none J0.out (grown_drewN _ _ none) (fun r e => by cases e)⟩⟩
 ·obtain ⟨g1, g2, g3⟩ := hgood
  obtain ⟨g4, g5, g6, g7⟩ := g3 hc
  have e : xs = places l0 l1 o := by rw [hxs]; unfold placesOf; rw [if_neg hc]
  refine places1 n hn l Bn A0 A1 c0 c1 l0 l1 o J Jx W hbn hr0 hr1 g1 g2 (fun w hr => (hcnt w hr).mono ?_) g4 g5 g6 xs e (by rw [e]; exact g7) hJ hJx hY h0
  rintro e w' ⟨rfl, h⟩
  exact ⟨c, rfl, by simpa using hc, h⟩
theorem places_seq (n : Nat) (hn : 2 ≤ n) (Bn : Nat) (A0 A1 : Option Addr) (c0 c1 : Nat) (l0 l1 : List Int) (o c : Int) (w : World) (hlt : Bn < w.heap.size)
  (hbn : w.heap[Bn]? = some (.cells #[.slice A0 l0.length c0, .slice A1 l1.length c1, .int .i64 o] 32 (0, 0)))
  (hr0 : Kd.C (Kd.int .i64) w A0 l0.length l0) (hr1 : Kd.C (Kd.int .i64) w A1 l1.length l1) (hcnt : Cnt A0 c0 l0 c) (hgood : Good l0 l1 o c) (xs : List Int) (hxs : xs = placesOf l0 l1 o c) :
  SeqT 137 Fence.wide n Try.prog 114 #[.pointer (some ⟨Bn, 0, none⟩)] (fun x : Int => #[Value.int .i64 x]) KpT (fun ys => ys = xs) (fun pre => pre <+: xs) (fun pre x => pre ++ [x] <+: xs) w := by
 intro l J Jx W hB hJ hJx hY h0
 exact places_any n hn l Bn A0 A1 c0 c1 l0 l1 o c J Jx W ((hB.block Bn hlt).trans hbn) (Kd.qW hr0 hB) (Kd.qW hr1 hB) hcnt hgood xs hxs hJ hJx hY h0
theorem kpT_t {A B C : World} (h : KpT A B) (k : KpT B C) : KpT A C := fun b cs e => k b cs (h b cs e)
theorem kpT_obj (W : World) (l : Nat) (o o' : Obj) (hl : W.heap[l]? = some o) (ho : o.isCells = false) : KpT W (W.putObj l o') := by
 intro b cs e
 rw [World.putObj_heap_other (by rintro rfl; rw [hl] at e; cases e; cases ho)]
 exact e
theorem kpT_grown {W W' : World} {row : Option Nat} (hg : W.grownBy W' row) (hr : ∀ r cs, row = some r → W.heap[r]? ≠ some (.cells cs 137 (0, 0))) : KpT W W' := by
 intro b cs e
 rw [hg.block b (Array.getElem?_eq_some_iff.1 e).1 (fun h => hr b cs h.symm e)]
 exact e
set_option maxHeartbeats 8000000 in
set_option maxRecDepth 100000 in
theorem places_calls (n : Nat) (v0 v1 v2 : Value) (w : World) : CallsIn Fence.wide n Try.prog 90 #[.agg #[v0, v1, v2]] w fun e w' =>
  e = .returned (.func (.func 114) #[] #[.pointer (some ⟨w.heap.size, 0, none⟩)]) ∧ w' = w.alloc (.cells #[v0, v1, v2] 32) := by
 refine callsIn_of_wp Try.func90 rfl trivial ?_ rfl
 simp only [Try.ntmps90, List.size_toArray, List.length_cons, List.length_nil, Nat.reduceAdd, Nat.reduceSub, Array.replicate_succ, Array.replicate_zero, List.push_toArray, List.append_toArray, List.nil_append, List.cons_append]
 gi_wp2
 go_ret
 exact ⟨rfl, rfl⟩
end Go.Proofs.Ytpmdgmnpkdoamaa.Odo
