/- Proved here: rows that are only read, some of which may be the same, as an item of what a call has made. Conditions: those that stand ahead in each theorem. -/
import Derived.Test.YtpmdgmnpkdoamaaViOw
namespace Go.Proofs.Ytpmdgmnpkdoamaa.Ow
open Go.RowKit Go.Proofs.YtpmdgmnpkdoamaaW.PrintWords Go.Proofs.YtpmdgmnpkdoamaaW.PrintLast Go.Proofs.YtpmdgmnpkdoamaaW.PrintMore
set_option linter.unusedVariables false
set_option linter.unusedSimpArgs false
abbrev RC (w : World) (A : Option Addr) (xs : List Int) : Prop := Kd.C (Kd.int .i64) w A xs.length xs
def FR (p : Option Addr × List Int) (k : Nat) : Prop := 0 < p.2.length ∧ ∃ a : Addr, p.1 = some a ∧ a.block = k
theorem RC_move {w w1 : World} {p : Option Addr × List Int} (h : RC w p.1 p.2) (hm : ∀ k, FR p k → w1.heap[k]? = w.heap[k]?) : RC w1 p.1 p.2 := by
 obtain ⟨h1, h2, h3⟩ := Kd.reads_of_C (enc := Value.int .i64) (d := (0 : Int)) (h1 := fun _ => rfl) h
 refine Kd.C_of_reads (enc := Value.int .i64) (d := (0 : Int)) (h1 := fun _ => rfl) ⟨h1, h2, fun hn => ?_⟩
 obtain ⟨ad, e, hc⟩ := h3 hn
 refine ⟨ad, e, fun j hj => ?_⟩
 rw [← hc j hj]
 have := hm ad.block ⟨hn, ad, e, rfl⟩
 show World.cell? w1 _ = World.cell? w _
 unfold World.cell?
 have e2 : (ad.add j).block = ad.block := by unfold Addr.add; split <;> rfl
 rw [e2, this]
def rds (L : List (Option Addr × List Int)) : It :=
 ⟨fun k => ∃ p ∈ L, FR p k, fun w => ∀ p ∈ L, RC w p.1 p.2, fun h hm p hp => RC_move (h p hp) (fun k hk => hm k ⟨p, hp, hk⟩)⟩
variable {W w w1 : World} {its : List It}
theorem Own.reads (h : Own W w its) (hb : Below w.heap.size w w1) (L : List (Option Addr × List Int)) (hL : ∀ p ∈ L, RC w1 p.1 p.2 ∧ (0 < p.2.length → ∃ a : Addr, p.1 = some a ∧ w.heap.size ≤ a.block)) : Own W w1 (rds L :: its) := by
 refine h.push hb _ (fun p hp => (hL p hp).1) ?_
 rintro k ⟨p, hp, hn, a, e, rfl⟩
 obtain ⟨h1, h2⟩ := hL p hp
 obtain ⟨a', e', hlo⟩ := h2 hn
 rw [e] at e'; cases e'
 obtain ⟨_, _, h3⟩ := Kd.reads_of_C (enc := Value.int .i64) (d := (0 : Int)) (h1 := fun _ => rfl) h1
 obtain ⟨a2, e2, hc⟩ := h3 hn
 rw [e] at e2; cases e2
 exact ⟨hlo, World.block_lt_of_cell? w1 _ (hc 0 hn)⟩
theorem Own.rdAt (h : Own W w its) (n m : Nat) {L : List (Option Addr × List Int)} {A : Option Addr} {xs : List Int} (hn : its[n]? = some (rds L) := by rfl) (hm : L[m]? = some (A, xs) := by rfl) : RC w A xs :=
 h.all n _ hn (A, xs) (List.mem_of_getElem? hm)
theorem Own.two_of (h : Own W w its) (m n : Nat) (hmn : m ≠ n) {i j : It} (hi : its[m]? = some i := by rfl) (hj : its[n]? = some j := by rfl) : Own W w [i, j] :=
 h.pick _ (fun q => match q with | 0 => m | 1 => n | q + 2 => m + n + q + 2) (by intro a b e; match a, b, e with | 0, 0, _ => rfl | 1, 1, _ => rfl | 0, 1, e => exact absurd e hmn | 1, 0, e => exact absurd e.symm hmn | 0, b + 2, e => simp at e; omega | 1, b + 2, e => simp at e; omega | a + 2, 0, e => simp at e; omega | a + 2, 1, e => simp at e; omega | a + 2, b + 2, e => simp at e; omega)
  (fun q x hx => by match q, hx with | 0, hx => simp at hx; subst hx; exact hi | 1, hx => simp at hx; subst hx; exact hj | q + 2, hx => simp at hx)
end Go.Proofs.Ytpmdgmnpkdoamaa.Ow
