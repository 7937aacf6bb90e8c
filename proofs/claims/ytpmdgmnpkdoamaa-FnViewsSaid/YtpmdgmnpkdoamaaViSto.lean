/- Proved here: what a draw holds while it runs (the source, rows of whole numbers, boxes, no two of them one block) as one list, and how the list goes on over each kind of step. Conditions: those that stand ahead in each theorem. -/
import Derived.Test.YtpmdgmnpkdoamaaViDv
namespace Go.Proofs.Ytpmdgmnpkdoamaa.Dv
open Go.RowKit Go.Proofs.YtpmdgmnpkdoamaaW.PrintWords Go.Proofs.YtpmdgmnpkdoamaaW.PrintLast Go.Proofs.YtpmdgmnpkdoamaaW.PrintMore
open Src
set_option linter.unusedVariables false
set_option linter.unusedSimpArgs false
theorem On.set {c g : Nat} {w0 W w : World} {p : Addr} (h : On c g w0 W w) (hp : W.heap.size ≤ p.block) (hg : g ≠ p.block) (hc : c ≠ p.block) (hW : w0.heap.size ≤ W.heap.size) (u : Value) : On c g w0 W (w.setCell p u) :=
 ⟨h.1.far hg hc u, h.2.1.setCell (Nat.le_trans hW hp) u, keep_far h.2.2 hp u⟩
abbrev RI (w : World) (b : Nat) (v : Value) (xs : List Int) : Prop := Kd.R (Kd.int .i64) 2 w b (fun _ => True) v xs
inductive It
 | row (b : Nat) (v : Value) (xs : List Int)
 | box (b : Nat) (cs : Array Value) (t : Nat)
set_option linter.unusedVariables false
def It.blk : It → Option Nat
 | .row _ v _ => v.ownBlock
 | .box b _ _ => some b
def It.ok (W w : World) : It → Prop
 | .row b v xs => RI w b v xs
 | .box b cs t => w.heap[b]? = some (.cells cs t (0, 0)) ∧ W.heap.size ≤ b ∧ t ≠ 113 ∧ t ≠ 5 ∧ t ≠ 2
theorem R_any {w : World} {b : Nat} {ok ok' : Nat → Prop} {v : Value} {xs : List Int} (h : Kd.R (Kd.int .i64) 2 w b ok v xs) (hok : ∀ k, v.ownBlock = some k → ok k → ok' k) : Kd.R (Kd.int .i64) 2 w b ok' v xs := Kd.R_flat (fun h => h) h hok
theorem It.lt {W w : World} {i : It} (h : i.ok W w) : ∀ k, i.blk = some k → k < w.heap.size := by
 cases i with
 | row b v xs => exact Kd.R_lt h
 | box b cs t => intro k hk; cases hk; exact zP h.1
theorem It.ne {c g : Nat} {w0 W w : World} {i : It} (ho : Is c w0 w g) (h : i.ok W w) : ∀ k, i.blk = some k → k ≠ g ∧ k ≠ c := by
 obtain ⟨s0, a, m, z, hI, hS⟩ := ho
 cases i with
 | row b v xs =>
  intro k hk
  have := hI.own_ne h ⟨by decide, by decide⟩
  rw [show v.ownBlock = some k from hk] at this
  exact ⟨fun e => this.1 (by rw [e]), fun e => this.2 (by rw [e])⟩
 | box b cs t =>
  intro k hk; cases hk
  have := hI.ne_blk h.1 ⟨h.2.2.1, h.2.2.2.1⟩
  exact ⟨fun e => this.1 e.symm, fun e => this.2 e.symm⟩
theorem It.move {W w w1 : World} {i : It} (h : i.ok W w) (hm : ∀ k, i.blk = some k → w1.heap[k]? = w.heap[k]?) : i.ok W w1 := by
 cases i with
 | row b v xs => exact Kd.qZ (Kd.R_move (R_any (ok' := fun k => v.ownBlock = some k) h (fun k hk _ => hk)) hm) (fun _ _ => trivial)
 | box b cs t => exact ⟨(hm b rfl).trans h.1, h.2⟩
structure Sto (c g : Nat) (w0 W w : World) (its : List It) : Prop where
 on : On c g w0 W w
 all : ∀ (n : Nat) (i : It), its[n]? = some i → i.ok W w
 sep : ∀ (m n : Nat) (i j : It), m ≠ n → its[m]? = some i → its[n]? = some j → ∀ k, i.blk = some k → j.blk ≠ some k
variable {c g : Nat} {w0 W w w1 : World} {its : List It}
theorem Sto.start (h : Is c w0 w g) (hB : Below w0.heap.size w0 w) : Sto c g w0 w w [] := ⟨On.start h hB, fun n i h => by simp at h, fun m n i j _ h => by simp at h⟩
theorem Sto.step (h : Sto c g w0 W w its) (ho : On c g w0 W w1) (hm : ∀ (n : Nat) (i : It), its[n]? = some i → ∀ k, i.blk = some k → w1.heap[k]? = w.heap[k]?) : Sto c g w0 W w1 its :=
 ⟨ho, fun n i hi => It.move (h.all n i hi) (hm n i hi), h.sep⟩
theorem Sto.keep (h : Sto c g w0 W w its) (ho : On c g w0 w w1) : Sto c g w0 W w1 its :=
 h.step (h.on.comp ho) (fun n i hi k hk => ho.2.2.2 k (It.lt (h.all n i hi) k hk) (It.ne h.on.1 (h.all n i hi) k hk).1 (by simp))
theorem Sto.made (h : Sto c g w0 W w its) (hb : Below w.heap.size w w1) : Sto c g w0 W w1 its :=
 h.step (h.on.made hb) (fun n i hi k hk => hb.block k (It.lt (h.all n i hi) k hk))
theorem Sto.drewN (h : Sto c g w0 W w its) (n : Nat) : Sto c g w0 W (w.drewN n) its := h.made (qB (Below.refl _ _) n)
theorem Sto.drew (h : Sto c g w0 W w its) : Sto c g w0 W w.drew its := h.made (below_drew (Below.refl _ _))
theorem Sto.alloc (h : Sto c g w0 W w its) (o : Obj) : Sto c g w0 W (w.alloc o) its := h.made (qA (Below.refl _ _) o)
theorem Sto.push (h : Sto c g w0 W w its) (hb : Below w.heap.size w w1) (i : It) (hi : i.ok W w1) (hf : ∀ k, i.blk = some k → w.heap.size ≤ k) : Sto c g w0 W w1 (i :: its) := by
 have h1 := h.made hb
 refine ⟨h1.on, ?_, ?_⟩
 ·intro n j hj
  cases n with
  | zero => simp at hj; subst hj; exact hi
  | succ n => exact h1.all n j (by simpa using hj)
 ·intro m n a b hmn ha hb' k hk hk'
  cases m with
  | zero =>
   simp at ha; subst ha
   cases n with
   | zero => exact hmn rfl
   | succ n => have := It.lt (h.all n b (by simpa using hb')) k hk'; have := hf k hk; omega
  | succ m =>
   cases n with
   | zero => simp at hb'; subst hb'; have := It.lt (h.all m a (by simpa using ha)) k hk; have := hf k hk'; omega
   | succ n => exact h.sep m n a b (fun e => hmn (by rw [e])) (by simpa using ha) (by simpa using hb') k hk hk'
theorem Sto.row {ok : Nat → Prop} {v : Value} {xs : List Int} (h : Sto c g w0 W w its) (hb : Below w.heap.size w w1) (hi : Kd.R (Kd.int .i64) 2 w1 w.heap.size ok v xs) : Sto c g w0 W w1 (.row W.heap.size v xs :: its) :=
 h.push hb _ (Kd.R_lower (Kd.qZ hi (fun _ _ => trivial)) h.on.size) (Kd.R_base hi)
theorem Sto.box {gb : Nat} {cs : Array Value} {t : Nat} (h : Sto c g w0 W w its) (hb : Below w.heap.size w w1) (hi : w1.heap[gb]? = some (.cells cs t (0, 0))) (hg : gb = w.heap.size) (ht : t ≠ 113 ∧ t ≠ 5 ∧ t ≠ 2 := by decide) : Sto c g w0 W w1 (.box gb cs t :: its) :=
 h.push hb _ ⟨hi, by rw [hg]; exact h.on.size, ht⟩ (fun k hk => by cases hk; omega)
theorem Sto.rows {ok : Nat → Prop} {v v' : Value} {xs xs' : List Int} (h : Sto c g w0 W w its) (ho : On c g w0 w w1) (hi : Kd.R (Kd.int .i64) 2 w1 w.heap.size (fun k => some k ≠ v'.ownBlock) v xs) (hi' : Kd.R (Kd.int .i64) 2 w1 w.heap.size ok v' xs') : Sto c g w0 W w1 (.row W.heap.size v xs :: .row W.heap.size v' xs' :: its) := by
 have h1 := h.keep ho
 have hn : ∀ k, v.ownBlock = some k → v'.ownBlock ≠ some k := fun k hk e => hi.1 k hk e.symm
 refine ⟨h1.on, ?_, ?_⟩
 ·intro n j hj
  match n, hj with
  | 0, hj => simp at hj; subst hj; exact Kd.R_lower (Kd.qZ hi (fun _ _ => trivial)) h.on.size
  | 1, hj => simp at hj; subst hj; exact Kd.R_lower (Kd.qZ hi' (fun _ _ => trivial)) h.on.size
  | n + 2, hj => exact h1.all n j (by simpa using hj)
 ·intro m n a b hmn ha hb' k hk hk'
  match m, n, ha, hb' with
  | 0, 0, _, _ => exact hmn rfl
  | 1, 1, _, _ => exact hmn rfl
  | 0, 1, ha, hb' => simp at ha hb'; subst ha; subst hb'; exact hn k hk hk'
  | 1, 0, ha, hb' => simp at ha hb'; subst ha; subst hb'; exact hn k hk' hk
  | 0, n + 2, ha, hb' => simp at ha; subst ha; have := It.lt (h.all n b (by simpa using hb')) k hk'; have := Kd.R_base hi k hk; omega
  | 1, n + 2, ha, hb' => simp at ha; subst ha; have := It.lt (h.all n b (by simpa using hb')) k hk'; have := Kd.R_base hi' k hk; omega
  | m + 2, 0, ha, hb' => simp at hb'; subst hb'; have := It.lt (h.all m a (by simpa using ha)) k hk; have := Kd.R_base hi k hk'; omega
  | m + 2, 1, ha, hb' => simp at hb'; subst hb'; have := It.lt (h.all m a (by simpa using ha)) k hk; have := Kd.R_base hi' k hk'; omega
  | m + 2, n + 2, ha, hb' => exact h.sep m n a b (fun e => hmn (by rw [e])) (by simpa using ha) (by simpa using hb') k hk hk'
theorem Sto.turn (n : Nat) {i i' : It} (h : Sto c g w0 W w its) (hn : its[n]? = some i) (ho : On c g w0 W w1) (hg : ∀ k, k < w.heap.size → some k ≠ i.blk → w1.heap[k]? = w.heap[k]?) (hi : i'.ok W w1) (hat : i'.blk = i.blk ∨ ∃ b, i'.blk = some b ∧ w.heap.size ≤ b) : Sto c g w0 W w1 (its.set n i') := by
 have hl : n < its.length := by rcases Nat.lt_or_ge n its.length with h | h; exact h; rw [List.getElem?_eq_none h] at hn; cases hn
 have key : ∀ m j, m ≠ n → (its.set n i')[m]? = some j → its[m]? = some j := fun m j hm hj => by rw [List.getElem?_set_ne (fun e => hm e.symm)] at hj; exact hj
 have self : ∀ j, (its.set n i')[n]? = some j → j = i' := fun j hj => by rw [List.getElem?_set_self hl] at hj; exact (Option.some.inj hj).symm
 have far : ∀ m j, m ≠ n → its[m]? = some j → ∀ k, j.blk = some k → i'.blk ≠ some k := by
  intro m j hm hj k hk hk'
  rcases hat with e | ⟨b, e, hb⟩
  ·rw [e] at hk'; exact h.sep m n j i hm hj hn k hk hk'
  ·rw [e] at hk'; cases hk'; have := It.lt (h.all m j hj) _ hk; omega
 refine ⟨ho, ?_, ?_⟩
 ·intro m j hj
  by_cases e : m = n
  ·subst e; rw [self j hj]; exact hi
  ·have hj' := key m j e hj
   refine It.move (h.all m j hj') (fun k hk => hg k (It.lt (h.all m j hj') k hk) (fun e2 => ?_))
   exact h.sep m n j i e hj' hn k hk e2.symm
 ·intro m m' a b hmn ha hb k hk hk'
  by_cases e : m = n
  ·have e' : m' ≠ n := fun e2 => hmn (by rw [e, e2])
   subst e; rw [self a ha] at hk
   exact far m' b e' (key m' b e' hb) k hk' hk
  ·by_cases e' : m' = n
   ·subst e'; rw [self b hb] at hk'
    exact far m a e (key m a e ha) k hk hk'
   ·exact h.sep m m' a b hmn (key m a e ha) (key m' b e' hb) k hk hk'
theorem Sto.grow (n : Nat) {b : Nat} {ok : Nat → Prop} {v v1 : Value} {xs xs1 : List Int} (h : Sto c g w0 W w its) (hn : its[n]? = some (.row b v xs)) (hW : W.heap.size ≤ b) (h0 : w0.heap.size ≤ W.heap.size) (hg : w.grownBy w1 v.ownBlock) (hi : Kd.R (Kd.int .i64) 2 w1 b ok v1 xs1) (hat : v1.ownBlock = v.ownBlock ∨ ∃ b, v1.ownBlock = some b ∧ w.heap.size ≤ b) : Sto c g w0 W w1 (its.set n (.row b v1 xs1)) := by
 have hr := h.all n _ hn
 refine h.turn n hn (h.on.grown hg h0 (fun k hk => Nat.le_trans hW (Kd.R_base hr k hk)) ?_) (fun k hk e => hg.block k hk e) (Kd.qZ hi (fun _ _ => trivial)) hat
 exact ⟨fun e => (It.ne h.on.1 hr _ e.symm).1 rfl, fun e => (It.ne h.on.1 hr _ e.symm).2 rfl⟩
theorem Sto.cell (n : Nat) {b : Nat} {cs : Array Value} {t : Nat} (h : Sto c g w0 W w its) (hn : its[n]? = some (.box b cs t)) (j : Nat) (u : Value) (h0 : w0.heap.size ≤ W.heap.size) : Sto c g w0 W (w.setCell ⟨b, j, none⟩ u) (its.set n (.box b (cs.setIfInBounds j u) t)) := by
 have hr := h.all n _ hn
 have hne := It.ne h.on.1 hr b rfl
 refine h.turn n hn (h.on.set hr.2.1 hne.1.symm hne.2.symm h0 u) (fun k _ e => Below.heap_setCell w ⟨b, j, none⟩ u k (fun e2 => e (by rw [e2]; rfl))) ⟨?_, hr.2⟩ (.inl rfl)
 exact zO hr.1 j u rfl
theorem Sto.pick (h : Sto c g w0 W w its) (js : List It) (f : Nat → Nat) (hf : ∀ m n, f m = f n → m = n) (hj : ∀ n j, js[n]? = some j → its[f n]? = some j) : Sto c g w0 W w js :=
 ⟨h.on, fun n i hi => h.all _ i (hj n i hi), fun m n a b hmn ha hb => h.sep _ _ a b (fun e => hmn (hf m n e)) (hj m a ha) (hj n b hb)⟩
theorem Sto.again (h : Sto c g w0 W w its) : On c g w0 w w := h.on.again
theorem Sto.change {B : Nat} {v v' : Value} {xs xs' : List Int} {w' : World} {js : List It} (h : Sto c g w0 W w js) (hj : ∀ (n : Nat) (i : It), js[n]? = some i → ∃ b cs t, i = .box b cs t) (k : Sto c g w0 w w' [.row B v xs, .row B v' xs']) : Sto c g w0 W w' (.row B v xs :: .row B v' xs' :: js) := by
 have hk := h.keep k.on
 have apart : ∀ (n : Nat) (i : It) (u : Value) (us : List Int), js[n]? = some i → RI w' B u us → ∀ q, i.blk = some q → u.ownBlock ≠ some q := by
  intro n i u us hn hu q hq e
  obtain ⟨b, cs, t, rfl⟩ := hj n i hn
  have hb := hk.all n _ hn
  cases hq
  exact Kd.R_ne hu hb.1 (fun e2 => hb.2.2.2.2 e2.symm) e.symm
 have r0 : RI w' B v xs := k.all 0 _ rfl
 have r1 : RI w' B v' xs' := k.all 1 _ rfl
 refine ⟨hk.on, ?_, ?_⟩
 ·intro n j hn
  match n, hn with
  | 0, hn => simp at hn; subst hn; exact r0
  | 1, hn => simp at hn; subst hn; exact r1
  | n + 2, hn => exact hk.all n j (by simpa using hn)
 ·intro m n x y hmn hx hy q hq hq'
  match m, n, hx, hy with
  | 0, 0, _, _ => exact hmn rfl
  | 1, 1, _, _ => exact hmn rfl
  | 0, 1, hx, hy => exact k.sep 0 1 x y (by decide) hx hy q hq hq'
  | 1, 0, hx, hy => exact k.sep 1 0 x y (by decide) hx hy q hq hq'
  | 0, n + 2, hx, hy => simp at hx; subst hx; exact apart n y _ _ (by simpa using hy) r0 q hq' hq
  | 1, n + 2, hx, hy => simp at hx; subst hx; exact apart n y _ _ (by simpa using hy) r1 q hq' hq
  | m + 2, 0, hx, hy => simp at hy; subst hy; exact apart m x _ _ (by simpa using hx) r0 q hq hq'
  | m + 2, 1, hx, hy => simp at hy; subst hy; exact apart m x _ _ (by simpa using hx) r1 q hq hq'
  | m + 2, n + 2, hx, hy => exact hk.sep m n x y (fun e => hmn (by rw [e])) (by simpa using hx) (by simpa using hy) q hq hq'
end Go.Proofs.Ytpmdgmnpkdoamaa.Dv
