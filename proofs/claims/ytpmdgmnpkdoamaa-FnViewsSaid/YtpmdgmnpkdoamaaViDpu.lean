/- Proved here: a store into a row that a draw holds. Conditions: those that stand ahead in each theorem. -/
import Derived.Test.YtpmdgmnpkdoamaaViDsl
namespace Go.Proofs.Ytpmdgmnpkdoamaa.Dv
open Go.RowKit Go.Proofs.YtpmdgmnpkdoamaaW.PrintWords Go.Proofs.YtpmdgmnpkdoamaaW.PrintLast Go.Proofs.YtpmdgmnpkdoamaaW.PrintMore
open Src
set_option linter.unusedVariables false
set_option linter.unusedSimpArgs false
section
variable {c g : Nat} {w0 W w : World} {its : List It} {ops : Array Oper} {o : Oper} {rest : List Oper} {a : Act} {Q : Exit → Act → World → Prop}
theorem Sto.put (n : Nat) {b gr cap : Nat} {xs : List Int} (p x : Operand) (i z : Int) (h : Sto c g w0 W w its) (hn : its[n]? = some (.row b (.slice (some ⟨gr, 0, none⟩) xs.length cap) xs)) (hW : W.heap.size ≤ b) (h0 : w0.heap.size ≤ W.heap.size) (hb : b ≤ w.heap.size)
  (i0 : 0 ≤ i) (i1 : i < (xs.length : Int)) (haddr : a.eval p = .pointer (some ⟨gr, i.toNat, none⟩)) (hx : a.eval x = .int .i64 z)
  (k : ∀ w1, qS (Sto c g w0 W w1 (its.set n (.row b (.slice (some ⟨gr, 0, none⟩) xs.length cap) (xs.set i.toNat z)))) → wpList Try.prog ops Q rest a w1) (ho : o.op = .store 2 p x := by rfl) (hN : o.dst = none := by rfl) (hgd : o.guard = none := by rfl) : wpList Try.prog ops Q (o :: rest) a w := by
 have hr : RI w b (.slice (some ⟨gr, 0, none⟩) xs.length cap) xs := h.rowAt n hn
 refine Kd.R_store (Kd.int .i64) (w0 := w) b hN hgd 2 p x ho 2 (g := gr) (n := xs.length) (cap := cap) (o' := i.toNat) i 0 xs z (.int .i64 z) [.int .i64 z] [.int .i64 (rdOf 0 xs i)] (fun _ => True) (fun _ => False) haddr (by show i.toNat = i.toNat * 1 + 0; omega) hx rfl (by kernel_rfl) (by intro q hq; simp at hq; subst hq; rfl) hr i0 (by omega) rfl ?_ (by show 0 + 1 ≤ 1; omega) rfl (fun _ hk => hk.elim) ?_ ?_
 ·intro j u hu
  match j, hu with
  | 0, hu => simp at hu; subst hu; have h2 := (Kd.R_celln 0 hr i i0 (by omega)).1; have e : i.toNat * (Kd.int .i64).sz + 0 = i.toNat := (by show i.toNat * 1 + 0 = i.toNat; omega); rw [e]; exact h2
  | j + 1, hu => simp at hu
 ·exact Below.refl _ _
 ·intro w1 hr1 _ hg
  exact k w1 ⟨h.grow n hn hW h0 hg hr1 (.inl rfl)⟩
theorem Sto.appendRow (n m : Nat) {b b' cap : Nat} {A : Option Addr} {v : Value} {xs ys : List Int} (s x : Operand) (h : Sto c g w0 W w its) (hn : its[n]? = some (.row b v xs)) (hm : its[m]? = some (.row b' (.slice A ys.length cap) ys)) (hW : W.heap.size ≤ b) (h0 : w0.heap.size ≤ W.heap.size) (hb : b ≤ w.heap.size) (hl : xs.length + ys.length < 1000000)
  (k : ∀ v1 w1, qS (Sto c g w0 W w1 (its.set n (.row b v1 (xs ++ ys)))) → wpList Try.prog ops Q rest (a.put o.dst v1) w1)
  (hs : a.eval s = v := by rfl) (hx : a.eval x = .slice A ys.length cap := by rfl) (hgd : o.guard = none := by rfl) (ho : o.op = .call { callee := .builtin .append, args := #[s, x], argTypes := #[27, 27] } := by rfl) : wpList Try.prog ops Q (o :: rest) a w := by
 refine Kd.R_append_row (Value.int .i64) 0 (w0 := w) b hgd s x 27 2 (.int .i64 0) 8 ho Try.underlying27 info2 rfl (by omega) v xs ys A ys.length cap (fun _ => True) hs hx (fun _ _ => trivial) (h.rowAt n hn) (Kd.qY (h.rowAt m hm)).2.2 (Below.refl _ _) hb (by omega) ?_
 intro v1 w1 ho hb hg hat
 exact k v1 w1 ⟨h.grow n hn hW h0 hg ho hat⟩
end
end Go.Proofs.Ytpmdgmnpkdoamaa.Dv
