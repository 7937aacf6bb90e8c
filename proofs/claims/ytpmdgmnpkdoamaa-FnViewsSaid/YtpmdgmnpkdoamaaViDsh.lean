/- Proved here: what spec.l2DrawShape answers: a list of not more than three numbers, in a row of its own. Conditions: the source is one that numbers may be drawn from. -/
import Derived.Test.YtpmdgmnpkdoamaaViSto
namespace Go.Proofs.Ytpmdgmnpkdoamaa.Dv
open Go.RowKit Go.Proofs.YtpmdgmnpkdoamaaW.PrintWords Go.Proofs.YtpmdgmnpkdoamaaW.PrintLast Go.Proofs.YtpmdgmnpkdoamaaW.PrintMore
open Src
set_option linter.unusedVariables false
set_option linter.unusedSimpArgs false
theorem On.next {c g : Nat} {w0 w : World} (h : On c g w0 w w) (n : Int) :
  Calls Try.prog 94 #[.pointer (some ⟨g, 0, none⟩), .int .i64 n] w fun e w' => ∃ r : Int, e = .returned (.int .i64 r) ∧ qS (0 ≤ r ∧ (r < n ∨ r = 0)) ∧ qS (On c g w0 w w') := by
 refine (next_is c g n w0 w h.2.1 h.1).mono ?_
 rintro e w' ⟨r, rfl, h0, h1, hi, hb, hk⟩
 exact ⟨r, rfl, ⟨h0, h1⟩, ⟨hi, hb, hk⟩⟩
theorem Sto.next {c g : Nat} {w0 W w : World} {its : List It} (h : Sto c g w0 W w its) (n : Int) :
  Calls Try.prog 94 #[.pointer (some ⟨g, 0, none⟩), .int .i64 n] w fun e w' => ∃ r : Int, e = .returned (.int .i64 r) ∧ qS (0 ≤ r ∧ (r < n ∨ r = 0)) ∧ qS (Sto c g w0 W w' its) := by
 refine (h.on.again.next n).mono ?_
 rintro e w' ⟨r, rfl, h0, h1⟩
 exact ⟨r, rfl, h0, ⟨h.keep h1.out⟩⟩
theorem Sto.rowAt {c g : Nat} {w0 W w : World} {its : List It} (h : Sto c g w0 W w its) (n : Nat) {b : Nat} {v : Value} {xs : List Int} (e : its[n]? = some (.row b v xs) := by rfl) : RI w b v xs := h.all n _ e
theorem Sto.boxAt {c g : Nat} {w0 W w : World} {its : List It} (h : Sto c g w0 W w its) (n : Nat) {b : Nat} {cs : Array Value} {t : Nat} (e : its[n]? = some (.box b cs t) := by rfl) : w.heap[b]? = some (.cells cs t (0, 0)) := (h.all n _ e).1
theorem info2 : (Try.prog.info? 2).map (fun i => (i.zero, i.size, i.bytes)) = some (some (.int .i64 0), 1, 8) := by kernel_rfl
section
variable {c g : Nat} {w0 W w : World} {its : List It} {ops : Array Oper} {o : Oper} {rest : List Oper} {a : Act} {Q : Exit → Act → World → Prop}
theorem Sto.append (n : Nat) {b : Nat} {v : Value} {xs : List Int} {z : Int} (s x : Operand) (h : Sto c g w0 W w its) (hn : its[n]? = some (.row b v xs)) (hW : W.heap.size ≤ b) (h0 : w0.heap.size ≤ W.heap.size) (hl : xs.length < 1000000)
  (hb : b ≤ w.heap.size) (k : ∀ v1 w1, qS (Sto c g w0 W w1 (its.set n (.row b v1 (xs ++ [z])))) → wpList Try.prog ops Q rest (a.put o.dst v1) w1)
  (hs : a.eval s = v := by rfl) (hx : a.eval x = .slice (some ⟨w.heap.size, 0, none⟩) 1 1 := by rfl) (hgd : o.guard = none := by rfl) (ho : o.op = .call { callee := .builtin .append, args := #[s, x], argTypes := #[27, 27] } := by rfl) : wpList Try.prog ops Q (o :: rest) a (w.alloc (.cells #[.int .i64 z] 2)) := by
 refine Kd.R_append (Kd.int .i64) (w0 := w) b hgd s x 27 2 (.int .i64 0) 8 ho Try.underlying27 info2 rfl (by decide) (by omega) v xs z [.int .i64 z] (fun _ => True) (fun _ => False) hs hx rfl (fun _ hk => hk.elim) (fun _ _ => trivial) (h.rowAt n hn) ?_ hb (by omega) ?_
 ·exact Below.refl _ _
 ·intro v1 w1 ho hb hg hat
  exact k v1 w1 ⟨h.grow n hn hW h0 hg ho hat⟩
end
theorem Sto.at {c g : Nat} {w0 W w w1 : World} {its : List It} (h : qS (Sto c g w0 W w its)) (k : Sto c g w0 W w its → Sto c g w0 W w1 its := by intro h_; repeat (first | exact h_ | with_reducible apply Sto.drewN | with_reducible apply Sto.drew | with_reducible apply Sto.alloc)) : Sto c g w0 W w1 its := k h.out
set_option maxHeartbeats 4000000 in
set_option maxRecDepth 100000 in
theorem shape_run {c g : Nat} {w0 w : World} (h : Is c w0 w g) (hB : Below w0.heap.size w0 w) :
  Calls Try.prog 124 #[.pointer (some ⟨g, 0, none⟩)] w fun e w' => ∃ v : Value, e = .returned v ∧ ∃ xs : List Int, qS (xs.length ≤ 3) ∧ qS (Sto c g w0 w w' [.row w.heap.size v xs]) := by
 have HG := qS.mk (Sto.start h hB)
 have HS := qS.mk hB.size
 clear h hB
 go_enter Try.func124, Try.ntmps124
 go_wp2_with (first | ((with_reducible refine gate_dst (N := 7) rfl ?_); refine Kd.R_lit (Kd.int .i64) _ 2 ?hg (N := 7) ?hd (xs := ([] : List Int)) (inner := []) (ok := fun _ => True) (okp := fun _ => True) ?hr ?hp (fun _ hk => hk) trivial (Below.refl _ _) (Nat.le_refl _) (by simp) ?_; (case hd => rfl); (case hg => rfl); (case hr => first | (go_simp; done) | (go_simp; rfl)); (case hp => exact (Reps.none _ _)); intro v3 w3 ho hb hg_ hnew_; clear hg_ hnew_; replace HG := qS.mk (Sto.row HG.out hb ho); clear ho hb) | (go_at_call 94; refine (Sto.next HG.out _).mono ?_; rintro e w4 ⟨d, rfl, hd, h1⟩; replace HG := h1; clear h1))
 go_loopg [3, 4] 5 (fun kq v3 v4 w' => ∃ (xs : List Int) (d : Int), v4 = .int .i64 d ∧ qS (0 ≤ d ∧ d < kq ∧ kq ≤ 5 ∧ (xs.length : Int) + d ≤ 3) ∧ qS (Sto c g w0 w w' [.row w.heap.size v3 xs]))
 case atStart => exact ⟨[], d, rfl, ⟨by have := hd.out; simp; omega⟩, HG⟩
 case round =>
  obtain ⟨xs, d1, rfl, hd1, HG⟩ := hrel
  cases gk with
  | zero => exact absurd hd1.out.2.1 (by have := hd1.out.1; simp; omega)
  | succ k1 =>
   by_cases c6 : d1 > 0
   ·have c6b0 : decide (0 < d1) = true := decide_eq_true c6
    go_wp2_with (first | (go_at_call 94; refine (Sto.next (c := c) (w0 := w0) (W := w) (its := _) (Sto.at HG) _).mono ?_; rintro e w4 ⟨r, rfl, hr, h1⟩; replace HG := h1; clear h1 hr) | ((with_reducible refine gate_builtin (b := .append) (xs := #[.tmp 26, .tmp 28]) rfl ?_); at_builtin; refine Sto.append (c := c) (w0 := w0) (W := w) (its := [.row w.heap.size _ xs]) 0 (.tmp 26) (.tmp 28) (Sto.at HG) rfl (Nat.le_refl _) HS.out (by have := hd1.out; omega) (HG.out.on.size) ?_; intro v14 w14 h14; replace HG := h14; clear h14))
    all_goals go_roundg k1
    all_goals first | (case measure => have := hd1.out; omega) | skip
    all_goals case rel => exact ⟨_, _, rfl, ⟨by have := hd1.out; simp only [List.length_append, List.length_cons, List.length_nil]; have := w_id (n := d1 - 1) (by omega) (by omega); omega⟩, HG⟩
   ·have c6b0 : decide (0 < d1) = false := decide_eq_false c6
    go_wp2
    go_ret
    exact ⟨_, rfl, xs, ⟨by have := hd1.out; omega⟩, ⟨(Sto.at HG)⟩⟩
end Go.Proofs.Ytpmdgmnpkdoamaa.Dv
