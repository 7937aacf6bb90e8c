/- Proved here: what a call has made of its own while it runs (rows of whole numbers, boxes, no two of them one block) as one list, and how the list goes on over each kind of step. Conditions: those that stand ahead in each theorem. -/
import Derived.Test.YtpmdgmnpkdoamaaViWSq
namespace Go.Proofs.Ytpmdgmnpkdoamaa.Ow
open Go.RowKit Go.Proofs.YtpmdgmnpkdoamaaW.PrintWords Go.Proofs.YtpmdgmnpkdoamaaW.PrintLast Go.Proofs.YtpmdgmnpkdoamaaW.PrintMore
set_option linter.unusedVariables false
set_option linter.unusedSimpArgs false
structure It where
 F : Nat → Prop
 P : World → Prop
 mv : ∀ {w w1 : World}, P w → (∀ k, F k → w1.heap[k]? = w.heap[k]?) → P w1
def row {α : Type} (enc : α → Value) (h1 : ∀ x, (enc x).oneCell' = true) (e b : Nat) (v : Value) (xs : List α) : It :=
 ⟨fun k => v.ownBlock = some k, fun w => (Kd.scalar enc h1).R e w b (fun k => v.ownBlock = some k) v xs, fun h hm => Kd.R_move h hm⟩
def box (g : Nat) (cs : Array Value) (t : Nat) : It := ⟨fun k => k = g, fun w => w.heap[g]? = some (.cells cs t (0, 0)), fun h hm => (hm g rfl).trans h⟩
abbrev ir (b : Nat) (v : Value) (xs : List Int) : It := row (Value.int .i64) (fun _ => rfl) 2 b v xs
structure Own (W w : World) (its : List It) : Prop where
 below : Below W.heap.size W w
 all : ∀ (n : Nat) (i : It), its[n]? = some i → i.P w
 lo : ∀ (n : Nat) (i : It), its[n]? = some i → ∀ k, i.F k → W.heap.size ≤ k ∧ k < w.heap.size
 sep : ∀ (m n : Nat) (i j : It), m ≠ n → its[m]? = some i → its[n]? = some j → ∀ k, i.F k → ¬ j.F k
variable {W w w1 : World} {its : List It}
theorem Own.start (w : World) : Own w w [] := ⟨Below.refl _ _, fun n i h => by simp at h, fun n i h => by simp at h, fun m n i j _ h => by simp at h⟩
theorem Own.size (h : Own W w its) : W.heap.size ≤ w.heap.size := h.below.size
theorem Own.made (h : Own W w its) (hb : Below w.heap.size w w1) : Own W w1 its :=
 ⟨below_then h.below h.size hb, fun n i hi => i.mv (h.all n i hi) (fun k hk => hb.block k (h.lo n i hi k hk).2), fun n i hi k hk => ⟨(h.lo n i hi k hk).1, Nat.lt_of_lt_of_le (h.lo n i hi k hk).2 hb.size⟩, h.sep⟩
theorem Own.drewN (h : Own W w its) (n : Nat) : Own W (w.drewN n) its := h.made (qB (Below.refl _ _) n)
theorem Own.drew (h : Own W w its) : Own W w.drew its := h.made (below_drew (Below.refl _ _))
theorem Own.alloc (h : Own W w its) (o : Obj) : Own W (w.alloc o) its := h.made (qA (Below.refl _ _) o)
theorem Own.at {w0 : World} (h : qS (Own W w0 its)) (c : Own W w0 its → Own W w its := by intro h_; repeat (first | exact h_ | with_reducible apply Own.drewN | with_reducible apply Own.drew | with_reducible apply Own.alloc)) : Own W w its := c h.out
theorem Own.push (h : Own W w its) (hb : Below w.heap.size w w1) (i : It) (hi : i.P w1) (hf : ∀ k, i.F k → w.heap.size ≤ k ∧ k < w1.heap.size) : Own W w1 (i :: its) := by
 have h1 := h.made hb
 refine ⟨h1.below, ?_, ?_, ?_⟩
 ·intro n j hj
  cases n with
  | zero => simp at hj; subst hj; exact hi
  | succ n => exact h1.all n j (by simpa using hj)
 ·intro n j hj k hk
  cases n with
  | zero => simp at hj; subst hj; exact ⟨Nat.le_trans h.size (hf k hk).1, (hf k hk).2⟩
  | succ n => exact h1.lo n j (by simpa using hj) k hk
 ·intro m n a b hmn ha hb' k hk hk'
  cases m with
  | zero =>
   simp at ha; subst ha
   cases n with
   | zero => exact hmn rfl
   | succ n => have := (h.lo n b (by simpa using hb') k hk').2; have := (hf k hk).1; omega
  | succ m =>
   cases n with
   | zero => simp at hb'; subst hb'; have := (h.lo m a (by simpa using ha) k hk).2; have := (hf k hk').1; omega
   | succ n => exact h.sep m n a b (fun e => hmn (by rw [e])) (by simpa using ha) (by simpa using hb') k hk hk'
theorem Own.turn (n : Nat) {i i' : It} (h : Own W w its) (hn : its[n]? = some i) (hb : Below W.heap.size W w1) (hz : w.heap.size ≤ w1.heap.size) (hg : ∀ k, k < w.heap.size → ¬ i.F k → w1.heap[k]? = w.heap[k]?) (hi : i'.P w1) (hf : ∀ k, i'.F k → i.F k ∨ (w.heap.size ≤ k ∧ k < w1.heap.size)) : Own W w1 (its.set n i') := by
 have hl : n < its.length := by rcases Nat.lt_or_ge n its.length with h | h; exact h; rw [List.getElem?_eq_none h] at hn; cases hn
 have key : ∀ m j, m ≠ n → (its.set n i')[m]? = some j → its[m]? = some j := fun m j hm hj => by rw [List.getElem?_set_ne (fun e => hm e.symm)] at hj; exact hj
 have self : ∀ j, (its.set n i')[n]? = some j → j = i' := fun j hj => by rw [List.getElem?_set_self hl] at hj; exact (Option.some.inj hj).symm
 have far : ∀ m j, m ≠ n → its[m]? = some j → ∀ k, j.F k → ¬ i'.F k := by
  intro m j hm hj k hk hk'
  rcases hf k hk' with e | ⟨e, _⟩
  ·exact h.sep m n j i hm hj hn k hk e
  ·have := (h.lo m j hj k hk).2; omega
 refine ⟨hb, ?_, ?_, ?_⟩
 ·intro m j hj
  by_cases e : m = n
  ·subst e; rw [self j hj]; exact hi
  ·have hj' := key m j e hj
   exact j.mv (h.all m j hj') (fun k hk => hg k (h.lo m j hj' k hk).2 (fun e2 => h.sep m n j i e hj' hn k hk e2))
 ·intro m j hj k hk
  by_cases e : m = n
  ·subst e; rw [self j hj] at hk
   rcases hf k hk with e | e
   ·exact ⟨(h.lo m i hn k e).1, Nat.lt_of_lt_of_le (h.lo m i hn k e).2 hz⟩
   ·exact ⟨Nat.le_trans h.size e.1, e.2⟩
  ·have := h.lo m j (key m j e hj) k hk
   exact ⟨this.1, Nat.lt_of_lt_of_le this.2 hz⟩
 ·intro m m' a b hmn ha hb k hk hk'
  by_cases e : m = n
  ·have e' : m' ≠ n := fun e2 => hmn (by rw [e, e2])
   subst e; rw [self a ha] at hk
   exact far m' b e' (key m' b e' hb) k hk' hk
  ·by_cases e' : m' = n
   ·subst e'; rw [self b hb] at hk'
    exact far m a e (key m a e ha) k hk hk'
   ·exact h.sep m m' a b hmn (key m a e ha) (key m' b e' hb) k hk hk'
theorem Own.pick (h : Own W w its) (js : List It) (f : Nat → Nat) (hf : ∀ m n, f m = f n → m = n) (hj : ∀ n j, js[n]? = some j → its[f n]? = some j) : Own W w js :=
 ⟨h.below, fun n i hi => h.all _ i (hj n i hi), fun n i hi => h.lo _ i (hj n i hi), fun m n a b hmn ha hb => h.sep _ _ a b (fun e => hmn (hf m n e)) (hj m a ha) (hj n b hb)⟩
theorem Own.drop1 {i j : It} (h : Own W w (i :: j :: its)) : Own W w (i :: its) :=
 h.pick _ (fun n => match n with | 0 => 0 | n + 1 => n + 2) (fun m n e => by match m, n, e with | 0, 0, _ => rfl | 0, n + 1, e => simp at e | m + 1, 0, e => simp at e | m + 1, n + 1, e => simpa using e) (fun n j hj => by match n, hj with | 0, hj => simpa using hj | n + 1, hj => simpa using hj)
theorem Own.rowAt {α : Type} {enc : α → Value} {h1 : ∀ x, (enc x).oneCell' = true} {e b : Nat} {v : Value} {xs : List α} (h : Own W w its) (n : Nat) (q : its[n]? = some (row enc h1 e b v xs) := by rfl) : (Kd.scalar enc h1).R e w b (fun k => v.ownBlock = some k) v xs := h.all n _ q
theorem Own.boxAt {g t : Nat} {cs : Array Value} (h : Own W w its) (n : Nat) (q : its[n]? = some (box g cs t) := by rfl) : w.heap[g]? = some (.cells cs t (0, 0)) := h.all n _ q
theorem R_own1 {α : Type} {enc : α → Value} {h1 : ∀ x, (enc x).oneCell' = true} {e b : Nat} {ok : Nat → Prop} {v : Value} {xs : List α} (h : (Kd.scalar enc h1).R e w b ok v xs) : (Kd.scalar enc h1).R e w b (fun k => v.ownBlock = some k) v xs :=
 Kd.R_of_own (Kd.own_of_R h) (fun k hk => hk)
theorem R_ok1 {α : Type} {enc : α → Value} {h1 : ∀ x, (enc x).oneCell' = true} {e b : Nat} {ok ok' : Nat → Prop} {v : Value} {xs : List α} (h : (Kd.scalar enc h1).R e w b ok v xs) (hok : ∀ k, v.ownBlock = some k → ok' k) : (Kd.scalar enc h1).R e w b ok' v xs :=
 Kd.R_of_own (Kd.own_of_R h) hok
section
variable {α : Type} {enc : α → Value} {h1 : ∀ x, (enc x).oneCell' = true} {e b : Nat} {ok : Nat → Prop} {v : Value} {xs : List α}
theorem Own.row (h : Own W w its) (hb : Below w.heap.size w w1) (hi : (Kd.scalar enc h1).R e w1 w.heap.size ok v xs) : Own W w1 (row enc h1 e W.heap.size v xs :: its) :=
 h.push hb _ (Kd.R_lower (R_own1 hi) h.size) (fun k hk => ⟨Kd.R_base hi k hk, Kd.R_lt hi k hk⟩)
theorem Own.rows {v' : Value} {xs' : List α} {ok' : Nat → Prop} (h : Own W w its) (hb : Below w.heap.size w w1) (hi : (Kd.scalar enc h1).R e w1 w.heap.size (fun k => some k ≠ v'.ownBlock) v xs) (hi' : (Kd.scalar enc h1).R e w1 w.heap.size ok' v' xs') : Own W w1 (Ow.row enc h1 e W.heap.size v xs :: Ow.row enc h1 e W.heap.size v' xs' :: its) := by
 have h2 := h.row hb hi'
 have hn : ∀ k, v.ownBlock = some k → v'.ownBlock ≠ some k := fun k hk e => hi.1 k hk e.symm
 refine ⟨h2.below, ?_, ?_, ?_⟩
 ·intro n j hj
  cases n with
  | zero => simp at hj; subst hj; exact Kd.R_lower (R_own1 hi) h.size
  | succ n => exact h2.all n j (by simpa using hj)
 ·intro n j hj k hk
  cases n with
  | zero => simp at hj; subst hj; exact ⟨Nat.le_trans h.size (Kd.R_base hi k hk), Kd.R_lt hi k hk⟩
  | succ n => exact h2.lo n j (by simpa using hj) k hk
 ·have ap : ∀ (n : Nat) (j : It), (Ow.row enc h1 e W.heap.size v' xs' :: its)[n]? = some j → ∀ k, v.ownBlock = some k → ¬ j.F k := by
   intro n j hj k hk hk'
   cases n with
   | zero => simp at hj; subst hj; exact hn k hk hk'
   | succ n => have := (h.lo n j (by simpa using hj) k hk').2; have := Kd.R_base hi k hk; omega
  intro m n a c hmn ha hc k hk hk'
  cases m with
  | zero =>
   simp at ha; subst ha
   cases n with
   | zero => exact hmn rfl
   | succ n => exact ap n c (by simpa using hc) k hk hk'
  | succ m =>
   cases n with
   | zero => simp at hc; subst hc; exact ap m a (by simpa using ha) k hk' hk
   | succ n => exact h2.sep m n a c (fun e => hmn (by rw [e])) (by simpa using ha) (by simpa using hc) k hk hk'
theorem Own.grow (n : Nat) {v1 : Value} {xs1 : List α} (h : Own W w its) (hn : its[n]? = some (Ow.row enc h1 e b v xs)) (hg : w.grownBy w1 v.ownBlock) (hi : (Kd.scalar enc h1).R e w1 b ok v1 xs1) (hat : v1.ownBlock = v.ownBlock ∨ ∃ b, v1.ownBlock = some b ∧ w.heap.size ≤ b) : Own W w1 (its.set n (Ow.row enc h1 e b v1 xs1)) := by
 refine h.turn n hn (pw_below_grown h.below v.ownBlock h.size hg (fun k hk => (h.lo n _ hn k hk).1)) hg.size (fun k hk e => hg.block k hk (fun e2 => e e2.symm)) (R_own1 hi) ?_
 intro k hk
 rcases hat with e | ⟨b, e, hb⟩
 ·have hk' : v1.ownBlock = some k := hk
  exact .inl (show v.ownBlock = some k by rw [← e]; exact hk')
 ·have hk' : v1.ownBlock = some k := hk
  rw [e] at hk'; cases hk'
  exact .inr ⟨hb, Kd.R_lt hi _ e⟩
end
theorem Own.box (h : Own W w its) {g t : Nat} {cs : Array Value} (hb : Below w.heap.size w w1) (hi : w1.heap[g]? = some (.cells cs t (0, 0))) (hg : g = w.heap.size) : Own W w1 (box g cs t :: its) :=
 h.push hb _ hi (fun k hk => by cases hk; exact ⟨by omega, zP hi⟩)
theorem Own.cell (n : Nat) {g t : Nat} {cs : Array Value} (h : Own W w its) (hn : its[n]? = some (Ow.box g cs t)) (j : Nat) (u : Value) : Own W (w.setCell ⟨g, j, none⟩ u) (its.set n (Ow.box g (cs.setIfInBounds j u) t)) :=
 h.turn n hn (h.below.setCell (p := ⟨g, j, none⟩) (h.lo n _ hn g rfl).1 u) (by simp [World.setCell]) (fun k _ e => Below.heap_setCell w ⟨g, j, none⟩ u k e) (zO (h.boxAt n hn) j u rfl) (fun k hk => .inl hk)
def putL (cs : Array Value) (j : Nat) : List Value → Array Value
 | [] => cs
 | u :: us => putL (cs.setIfInBounds j u) (j + 1) us
theorem Own.cells (n : Nat) {g t : Nat} : ∀ (us : List Value) (j : Nat) (w : World) (its : List It) (cs : Array Value), Own W w its → its[n]? = some (Ow.box g cs t) → Own W (w.setCells g j us) (its.set n (Ow.box g (putL cs j us) t))
 | [], j, w, its, cs, h, hn => by
  have e : its.set n (Ow.box g cs t) = its := by
   refine List.ext_getElem? fun m => ?_
   by_cases e : n = m
   ·subst e; rw [List.getElem?_set]; simp [hn]; rcases Nat.lt_or_ge n its.length with h | h; exact h; rw [List.getElem?_eq_none h] at hn; cases hn
   ·rw [List.getElem?_set_ne e]
  show Own W w (its.set n (Ow.box g cs t))
  rw [e]; exact h
 | u :: us, j, w, its, cs, h, hn => by
  have h1 := Own.cells n us (j + 1) _ _ _ (h.cell n hn j u) (by
   have hl : n < its.length := by rcases Nat.lt_or_ge n its.length with h | h; exact h; rw [List.getElem?_eq_none h] at hn; cases hn
   exact List.getElem?_set_self hl)
  rw [List.set_set] at h1
  exact h1
section
variable {P : Program} {ops : Array Oper} {o : Oper} {rest : List Oper} {a : Act} {Q : Exit → Act → World → Prop} {w0 : World}
theorem Own.boxed (h : qS (Own W w0 its)) (N : Tmp) (cs : Array Value) (t : Nat) (k : ∀ g1 w1, qS (Own W w1 (Ow.box g1 cs t :: its)) → wpList P ops Q rest (a.put (some N) (.pointer (some ⟨g1, 0, none⟩))) w1)
  (hd : o.dst = some N := by rfl) (hgd : o.guard = none := by rfl) (c : Own W w0 its → Own W w its := by intro h_; repeat (first | exact h_ | with_reducible apply Own.drewN | with_reducible apply Own.drew | with_reducible apply Own.alloc))
  (hrun : (execOp a.eval o).run P w = .ok (.value (.pointer (some ⟨w.heap.size, 0, none⟩))) (w.alloc (.cells cs t (0, 0))) := by first | (go_simp; done) | (go_simp; rfl)) : wpList P ops Q (o :: rest) a w := by
 refine qU hgd hd hrun ?_
 intro g1 hg w1 hb hbel
 rw [hd]
 exact k g1 w1 ⟨(c h.out).box hbel hb hg⟩
theorem Own.lit (h : qS (Own W w0 its)) (N : Tmp) (xs : List Int) (inner : List Value) (k : ∀ v1 w1, qS (Own W w1 (ir W.heap.size v1 xs :: its)) → wpList P ops Q rest (a.put (some N) v1) w1)
  (hd : o.dst = some N := by rfl) (hgd : o.guard = none := by rfl) (hin : inner = encs (Value.int .i64) xs := by rfl) (hl : xs.length ≤ 1000 := by simp) (c : Own W w0 its → Own W w its := by intro h_; repeat (first | exact h_ | with_reducible apply Own.drewN | with_reducible apply Own.drew | with_reducible apply Own.alloc))
  (hrun : (execOp a.eval o).run P w = .ok (.value (.slice (some ⟨w.heap.size, 0, none⟩) xs.length xs.length)) (w.alloc (.cells inner.toArray 2)) := by first | (go_simp; done) | (go_simp; rfl)) : wpList P ops Q (o :: rest) a w := by
 refine Kd.R_lit (Kd.int .i64) (w0 := w) w.heap.size 2 hgd hd (okp := fun _ => True) (ok := fun _ => True) hrun (hin ▸ Kd.reps_scalar xs) (fun _ hk => hk) trivial (Below.refl _ _) (Nat.le_refl _) (by omega) ?_
 intro v1 w1 ho hb _ _
 rw [hd]
 exact k v1 w1 ⟨(c h.out).row hb ho⟩
theorem Own.store (n : Nat) {g t j : Nat} {cs : Array Value} (h : qS (Own W w0 its)) (ty : TypeId) (p x : Operand) (us : List Value) (k : ∀ w1, qS (Own W w1 (its.set n (Ow.box g (putL cs j us) t))) → wpList P ops Q rest a w1)
  (hn : its[n]? = some (Ow.box g cs t) := by rfl) (haddr : a.eval p = .pointer (some ⟨g, j, none⟩) := by rfl) (hu : (a.eval x).cells.toList = us := by rfl) (ht : (P.info? ty).map (·.size) = some us.length := by kernel_rfl) (hle : j + us.length ≤ cs.size := by simp) (h1 : us.all (·.oneCell') = true := by rfl)
  (ho : o.op = .store ty p x := by rfl) (hN : o.dst = none := by rfl) (hgd : o.guard = none := by rfl) (c : Own W w0 its → Own W w its := by intro h_; repeat (first | exact h_ | with_reducible apply Own.drewN | with_reducible apply Own.drew | with_reducible apply Own.alloc)) : wpList P ops Q (o :: rest) a w := by
 have h := c h.out
 refine wpList_plain hgd fun K hK => ?_
 have hrun := run_store_run (P := P) ty (a.eval x) us (h.boxAt n hn) hu ht hle (fun q hq => List.all_eq_true.1 h1 q hq)
 unfold Oper.wp execOp
 simp only [ho, haddr, Sem.run_bind, Sem.run_pure, Result.andThen_ok, hrun]
 show K (a.put o.dst undef) _
 rw [hN]
 exact hK _ _ (k _ ⟨h.cells n us j _ _ _ hn⟩)
theorem Own.put (n : Nat) {b g cap : Nat} {xs : List Int} (h : qS (Own W w0 its)) (p x : Operand) (i z : Int) (k : ∀ w1, qS (Own W w1 (its.set n (ir b (.slice (some ⟨g, 0, none⟩) xs.length cap) (xs.set i.toNat z)))) → wpList P ops Q rest a w1)
  (i0 : 0 ≤ i) (i1 : i < (xs.length : Int)) (hn : its[n]? = some (ir b (.slice (some ⟨g, 0, none⟩) xs.length cap) xs) := by rfl) (haddr : a.eval p = .pointer (some ⟨g, i.toNat, none⟩) := by rfl) (hx : a.eval x = .int .i64 z := by rfl) (ht : (P.info? 2).map (·.size) = some 1 := by kernel_rfl)
  (ho : o.op = .store 2 p x := by rfl) (hN : o.dst = none := by rfl) (hgd : o.guard = none := by rfl) (c : Own W w0 its → Own W w its := by intro h_; repeat (first | exact h_ | with_reducible apply Own.drewN | with_reducible apply Own.drew | with_reducible apply Own.alloc)) : wpList P ops Q (o :: rest) a w := by
 have h := c h.out
 have hr := h.rowAt n hn
 refine Kd.R_store (Kd.int .i64) (w0 := w) b hN hgd 2 p x ho 2 (g := g) (n := xs.length) (cap := cap) (o' := i.toNat) i 0 xs z (.int .i64 z) [.int .i64 z] [.int .i64 (rdOf 0 xs i)] (fun k => (Value.slice (some ⟨g, 0, none⟩) xs.length cap).ownBlock = some k) (fun _ => False) haddr (by show i.toNat = i.toNat * 1 + 0; omega) hx rfl ht (by intro q hq; simp at hq; subst hq; rfl) hr i0 (by omega) rfl ?_ (by show 0 + 1 ≤ 1; omega) rfl (fun _ hk => hk.elim) (HB := ?_) ?_
 ·intro j u hu
  match j, hu with
  | 0, hu => simp at hu; subst hu; have h2 := (Kd.R_celln 0 hr i i0 (by omega)).1; have e : i.toNat * (Kd.int .i64).sz + 0 = i.toNat := (by show i.toNat * 1 + 0 = i.toNat; omega); rw [e]; exact h2
  | j + 1, hu => simp at hu
 ·exact ⟨rfl, rfl, rfl, Nat.le_refl _, fun _ _ => rfl⟩
 ·intro w1 hr1 _ hg
  exact k w1 ⟨h.grow n hn hg hr1 (.inl rfl)⟩
theorem Own.append (n : Nat) {b : Nat} {v : Value} {xs : List Int} {z : Int} (h : qS (Own W w0 its)) (N : Tmp) (s x : Operand) (k : ∀ v1 w1, qS (Own W w1 (its.set n (ir b v1 (xs ++ [z])))) → wpList P ops Q rest (a.put (some N) v1) w1) (hl : xs.length < 1000000) (hb : b ≤ w.heap.size)
  (hn : its[n]? = some (ir b v xs) := by rfl) (hs : a.eval s = v := by rfl) (hx : a.eval x = .slice (some ⟨w.heap.size, 0, none⟩) 1 1 := by rfl) (hd : o.dst = some N := by rfl) (hgd : o.guard = none := by rfl) (ho : o.op = .call { callee := .builtin .append, args := #[s, x], argTypes := #[27, 27] } := by rfl)
  (hu : P.underlying 27 = some (.slice 2) := by assumption) (hinfo : (P.info? 2).map (fun i => (i.zero, i.size, i.bytes)) = some (some (.int .i64 0), 1, 8) := by kernel_rfl)
  (c : Own W w0 its → Own W w its := by intro h_; repeat (first | exact h_ | with_reducible apply Own.drewN | with_reducible apply Own.drew | with_reducible apply Own.alloc)) : wpList P ops Q (o :: rest) a (w.alloc (.cells #[.int .i64 z] 2)) := by
 have h := c h.out
 have hr : (Kd.int .i64).R 2 w b (fun _ => True) v xs := R_ok1 (h.rowAt n hn) (fun _ _ => trivial)
 refine Kd.R_append (Kd.int .i64) (w0 := w) b hgd s x 27 2 (.int .i64 0) 8 ho hu hinfo rfl (by decide) (by omega) v xs z [.int .i64 z] (fun _ => True) (fun _ => False) hs hx rfl (fun _ hk => hk.elim) (fun _ _ => trivial) hr ?_ hb (by omega) ?_
 ·exact ⟨rfl, rfl, rfl, Nat.le_refl _, fun _ _ => rfl⟩
 ·intro v1 w1 ho hb hg hat
  rw [hd]
  exact k v1 w1 ⟨h.grow n hn hg ho hat⟩
end
end Go.Proofs.Ytpmdgmnpkdoamaa.Ow
