/- Proved here: what spec.l2DrawView answers: some view, in rows of its own. Conditions: the source is one that numbers may be drawn from. -/
import Derived.Test.YtpmdgmnpkdoamaaViDtu
import Derived.Test.YtpmdgmnpkdoamaaViWSq
namespace Go.Proofs.Ytpmdgmnpkdoamaa.Dv
open Go.RowKit Go.Proofs.YtpmdgmnpkdoamaaW.PrintWords Go.Proofs.YtpmdgmnpkdoamaaW.PrintLast Go.Proofs.YtpmdgmnpkdoamaaW.PrintMore
open Src
set_option linter.unusedVariables false
set_option linter.unusedSimpArgs false
theorem Sto.rot {c g : Nat} {w0 W w : World} {i j k l m : It} (h : Sto c g w0 W w [i, j, k, l, m]) : Sto c g w0 W w [j, k, i, m] :=
 h.pick _ (fun q => match q with | 0 => 1 | 1 => 2 | 2 => 0 | n + 3 => n + 4) (by intro a b e; match a, b, e with | 0, 0, _ => rfl | 1, 1, _ => rfl | 2, 2, _ => rfl | n + 3, r + 3, e => simpa using e | 0, 1, e => simp at e | 0, 2, e => simp at e | 1, 0, e => simp at e | 1, 2, e => simp at e | 2, 0, e => simp at e | 2, 1, e => simp at e | 0, n + 3, e => simp at e | 1, n + 3, e => simp at e | 2, n + 3, e => simp at e | n + 3, 0, e => simp at e | n + 3, 1, e => simp at e | n + 3, 2, e => simp at e)
  (fun n x hx => by match n, hx with | 0, hx => simpa using hx | 1, hx => simpa using hx | 2, hx => simpa using hx | 3, hx => simpa using hx | n + 4, hx => simp at hx)
theorem Sto.change2 {c g B g1 t1 g2 t2 : Nat} {w0 W w w' : World} {i j : It} {v v' : Value} {xs xs' : List Int} {cs1 cs2 : Array Value} (h : Sto c g w0 W w [i, j, .box g1 cs1 t1, .box g2 cs2 t2]) (k : Sto c g w0 w w' [.row B v xs, .row B v' xs']) : Sto c g w0 W w' [.row B v xs, .row B v' xs', .box g1 cs1 t1, .box g2 cs2 t2] :=
 Sto.change (h.pick [.box g1 cs1 t1, .box g2 cs2 t2] (· + 2) (fun m n e => by simpa using e) (fun n x hx => by match n, hx with | 0, hx => simpa using hx | 1, hx => simpa using hx | n + 2, hx => simp at hx)) (fun n x hx => by match n, hx with | 0, hx => simp at hx; subst hx; exact ⟨_, _, _, rfl⟩ | 1, hx => simp at hx; subst hx; exact ⟨_, _, _, rfl⟩ | n + 2, hx => simp at hx) k
section
set_option maxHeartbeats 4000000 in
set_option maxRecDepth 100000 in
theorem view_run {c g : Nat} {w0 w : World} (h : Is c w0 w g) (hB : Below w0.heap.size w0 w) :
  Calls Try.prog 119 #[.pointer (some ⟨g, 0, none⟩)] w fun e w' => ∃ v1 v2 : Value, (∃ p : Int, e = .returned (.agg #[v1, v2, .int .i64 p])) ∧ ∃ xs ys : List Int, qS (xs.length = ys.length ∧ xs.length ≤ 4) ∧ qS (Sto c g w0 w w' [.row w.heap.size v1 xs, .row w.heap.size v2 ys]) := by
 have hu32 := Try.underlying32
 have HG := qS.mk (Sto.start h hB)
 have HS := qS.mk hB.size
 clear h hB
 go_enter Try.func119, Try.ntmps119
 go_wp2_with (first | ((with_reducible refine gate_dst (N := 2) rfl ?_); refine Sto.boxed (its := _) (Sto.at HG) #[.slice none 0 0, .slice none 0 0, .int .i64 0] 32 ?hr ?_; (case hr => first | (go_simp; done) | (go_simp; rfl)); intro gb2 w2 h4; replace HG := h4; clear h4) | (go_at_call 124; refine (shape_run (Sto.at HG).on.1 (Sto.at HG).on.2.1).mono ?_; rintro e w6 ⟨v6, rfl, xs6, hl6, hr⟩; replace HG := qS.mk ((Sto.at HG).one hr.out); clear hr) | (go_at_call 94; refine (Sto.next (c := c) (w0 := w0) (W := w) (its := _) (Sto.at HG) _).mono ?_; rintro e w8 ⟨o, rfl, hro, h1⟩; replace HG := h1; clear h1) | (go_at_call 123; refine (dense_run o (HG.out.again1 0) (by have := hl6.out; omega)).mono ?_; rintro e w9 ⟨v9a, v9b, rfl, xs, ys, hxy, hr⟩; replace HG := qS.mk (HG.out.two hr.out); clear hr; obtain ⟨A0, k0, rfl⟩ := Kd.qX (HG.out.rowAt 0); obtain ⟨A1, k1, rfl⟩ := Kd.qX (HG.out.rowAt 1)) | ((with_reducible refine gate_dst (N := 3) rfl ?_); refine Sto.boxed (its := _) (Sto.at HG) #[.slice none 0 0, .slice none 0 0, .int .i64 0] 32 ?hr ?_; (case hr => first | (go_simp; done) | (go_simp; rfl)); intro gb3 w3 h4; replace HG := h4; clear h4) | ((with_reducible refine gate_store (t := 32) (p := 3) rfl ?_); refine Sto.store (its := _) 0 (Sto.at HG) rfl HS.out 32 (.tmp 3) (.tmp 9) _ [_, _, _] _ rfl rfl rfl rfl (by kernel_rfl) (by simp [putL]) (by intro q hq; simp at hq; rcases hq with rfl | rfl | rfl <;> rfl) ?_; intro w10 h4; replace HG := h4; clear h4) | (go_at_call 94; refine (Sto.next (c := c) (w0 := w0) (W := w) (its := _) (Sto.at HG) _).mono ?_; rintro e w8 ⟨o, rfl, hro, h1⟩; replace HG := h1; clear h1))
 replace HG := qS.mk (Sto.rot HG.out)
 go_loopg [4] 6 (fun kq v4 w' => ∃ (q : Int) (A0 A1 : Option Addr) (k0 k1 : Nat) (p : Int) (xs ys : List Int), v4 = .int .i64 q ∧ qS (0 ≤ q ∧ q < kq ∧ kq ≤ 6) ∧ qS (xs.length = ys.length ∧ xs.length ≤ 4) ∧ qS (Sto c g w0 w w' [.row w.heap.size (.slice A0 xs.length k0) xs, .row w.heap.size (.slice A1 ys.length k1) ys, .box gb3 #[.slice A0 xs.length k0, .slice A1 ys.length k1, .int .i64 p] 32, .box gb2 #[.slice none 0 0, .slice none 0 0, .int .i64 0] 32]))
 case atStart => exact ⟨o, A0, A1, k0, k1, _, xs, ys, rfl, ⟨by have := hro.out; simp; omega⟩, hxy, HG⟩
 case round =>
  obtain ⟨q, A0, A1, k0, k1, p, xs, ys, rfl, hq, hxy, HG⟩ := hrel
  cases gk with
  | zero => exact absurd hq.out.2.1 (by have := hq.out.1; simp; omega)
  | succ q1 =>
   have hcz0 := (qJ (HG.out.boxAt 2) 0).trans (show _ = some (.slice A0 xs.length k0) from rfl)
   have hcz1 := (qJ (HG.out.boxAt 2) 1).trans (show _ = some (.slice A1 ys.length k1) from rfl)
   have hcz2 := (qJ (HG.out.boxAt 2) 2).trans (show _ = some (.int .i64 p) from rfl)
   have hD : 0 < q ∨ ¬ 0 < q := by omega
   rcases hD with hd | hd
   ·have hd1 : decide (0 < q) = true := decide_eq_true hd
    go_wp2_with (first | (go_at_call 125; refine (turn_run p (HG.out.again2 0) (HG.out.on.size) hxy.out).mono ?_; rintro e w18 ⟨v18a, v18b, ⟨p', rfl⟩, xs', ys', hxy', hr⟩; replace HG := qS.mk (Sto.change2 HG.out hr.out); clear hr; obtain ⟨A0', k0', rfl⟩ := Kd.qX (HG.out.rowAt 0); obtain ⟨A1', k1', rfl⟩ := Kd.qX (HG.out.rowAt 1)) | ((with_reducible refine gate_store (t := 32) (p := 3) rfl ?_); refine Sto.store (its := _) 2 (Sto.at HG) rfl HS.out 32 (.tmp 3) (.tmp 18) _ [_, _, _] _ rfl rfl rfl rfl (by kernel_rfl) (by simp [putL]) (by intro q hq; simp at hq; rcases hq with rfl | rfl | rfl <;> rfl) ?_; intro w19 h4; replace HG := h4; clear h4))
    all_goals go_roundg q1
    all_goals first | (case measure => have := hq.out; omega) | skip
    all_goals case rel => exact ⟨_, _, _, _, _, _, xs', ys', rfl, ⟨by have := hq.out; have := w_id (n := q - 1) (by omega) (by omega); omega⟩, hxy', ⟨Sto.at HG⟩⟩
   ·have hd1 : decide (0 < q) = false := decide_eq_false hd
    go_wp2_with (first | ((with_reducible refine gate_store (t := 32) (p := 2) rfl ?_); refine Sto.store (its := _) 3 (Sto.at HG) rfl HS.out 32 (.tmp 2) (.tmp 19) _ [_, _, _] _ rfl rfl rfl rfl (by kernel_rfl) (by simp [putL]) (by intro q hq; simp at hq; rcases hq with rfl | rfl | rfl <;> rfl) ?_; intro w20 h4; replace HG := h4; clear h4))
    refine bodyPost_ret (rC gb2 32 #[.slice A0 xs.length k0, .slice A1 ys.length k1, .int .i64 p] (HG.out.boxAt 3) Try.underlying32) rfl ?_
    exact ⟨_, _, ⟨_, rfl⟩, xs, ys, hxy, ⟨HG.out.pick [.row _ _ _, .row _ _ _] (fun n => n) (fun m n e => by simpa using e) (fun n j hj => by match n, hj with | 0, hj => simpa using hj | 1, hj => simpa using hj | n + 2, hj => simp at hj)⟩⟩
end
end Go.Proofs.Ytpmdgmnpkdoamaa.Dv
