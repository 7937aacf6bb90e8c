/- Proved here: the source of the draws from a function's own start, beside rows of whole numbers of the call's own; what spec.l2DrawShape answers: some short list. Conditions: the source is one that numbers may be drawn from. -/
import Derived.Test.YtpmdgmnpkdoamaaViSrc
import Derived.Test.YtpmdgmnpkdoamaaViWSq
namespace Go.Proofs.Ytpmdgmnpkdoamaa.Dv
open Go.RowKit Go.Proofs.YtpmdgmnpkdoamaaW.PrintWords Go.Proofs.YtpmdgmnpkdoamaaW.PrintLast Go.Proofs.YtpmdgmnpkdoamaaW.PrintMore
open Src
set_option linter.unusedVariables false
set_option linter.unusedSimpArgs false
def On (c g : Nat) (w0 W w : World) : Prop := Is c w0 w g ∧ Below w0.heap.size w0 w ∧ KeepBut W w g none
theorem On.start {c g : Nat} {w0 w : World} (h : Is c w0 w g) (hB : Below w0.heap.size w0 w) : On c g w0 w w := ⟨h, hB, KeepBut.refl _ _ _⟩
theorem On.drewN {c g : Nat} {w0 W w : World} (h : On c g w0 W w) (n : Nat) : On c g w0 W (w.drewN n) := ⟨h.1.below (qB (Below.refl _ _) n), qB h.2.1 n, keep_drewN h.2.2 n⟩
theorem On.drew {c g : Nat} {w0 W w : World} (h : On c g w0 W w) : On c g w0 W w.drew := ⟨h.1.below (below_drew (Below.refl _ _)), qC h.2.1, keep_drew h.2.2⟩
theorem On.alloc {c g : Nat} {w0 W w : World} (h : On c g w0 W w) (o : Obj) : On c g w0 W (w.alloc o) := ⟨h.1.below (qA (Below.refl _ _) o), qA h.2.1 o, keep_alloc h.2.2 o⟩
theorem On.size {c g : Nat} {w0 W w : World} (h : On c g w0 W w) : W.heap.size ≤ w.heap.size := h.2.2.1
theorem On.comp {c g : Nat} {w0 W w w' : World} (h : On c g w0 W w) (h2 : On c g w0 w w') : On c g w0 W w' := ⟨h2.1, h2.2.1, h.2.2.trans h2.2.2 (.inl rfl)⟩
theorem On.again {c g : Nat} {w0 W w : World} (h : On c g w0 W w) : On c g w0 w w := On.start h.1 h.2.1
theorem On.made {c g : Nat} {w0 W w w1 : World} (h : On c g w0 W w) (hb : Below w.heap.size w w1) : On c g w0 W w1 := ⟨h.1.below hb, below_then h.2.1 h.2.1.size hb, h.2.2.trans (KeepBut.of_below hb g none) (.inl rfl)⟩
theorem On.grown {c g : Nat} {w0 W w w1 : World} {row : Option Nat} (h : On c g w0 W w) (hg : w.grownBy w1 row) (hW : w0.heap.size ≤ W.heap.size) (hr : ∀ k, row = some k → W.heap.size ≤ k) (hn : some g ≠ row ∧ some c ≠ row) : On c g w0 W w1 :=
 ⟨h.1.grown hg hn, pw_below_grown h.2.1 row h.2.1.size hg (fun k hk => Nat.le_trans hW (hr k hk)), h.2.2.trans (KeepBut.of_grown hg g) (match row, hr with | none, _ => .inl rfl | some k, hr => .inr ⟨k, rfl, hr k rfl⟩)⟩
end Go.Proofs.Ytpmdgmnpkdoamaa.Dv
