/- Proved here: what the core functions answer as far as the draws need it (how long the lists are, that nothing is written that was there). Conditions: the lists' lengths. -/
import Derived.Test.YtpmdgmnpkdoamaaViDsh
import Derived.Test.YtpmdgmnpkdoamaaViVpFnViews
namespace Go.Proofs.Ytpmdgmnpkdoamaa.Dv
open Go.RowKit Go.Proofs.YtpmdgmnpkdoamaaW.PrintWords Go.Proofs.YtpmdgmnpkdoamaaW.PrintLast Go.Proofs.YtpmdgmnpkdoamaaW.PrintMore
open Src DFnViews
set_option linter.unusedVariables false
set_option linter.unusedSimpArgs false
def RR (w w' : World) (v1 v2 : Value) (xs ys : List Int) : Prop := Kd.R (Kd.int .i64) 2 w' w.heap.size (fun k => some k ≠ v2.ownBlock) v1 xs ∧ RI w' w.heap.size v2 ys ∧ Below w.heap.size w w'
theorem Sto.view {c g : Nat} {w0 W w w' : World} {its : List It} {v1 v2 : Value} {xs ys : List Int} (h : Sto c g w0 W w its) (r : RR w w' v1 v2 xs ys) : Sto c g w0 W w' (.row W.heap.size v1 xs :: .row W.heap.size v2 ys :: its) := h.rows (h.on.again.made r.2.2) r.1 r.2.1
def VA (w : World) (e : Ending) (w' : World) : Prop := ∃ (r : Int) (v1 v2 : Value) (p : Int), e = .returned (.agg #[.int .i64 r, v1, v2, .int .i64 p]) ∧ ∃ xs ys : List Int, qS (xs.length = ys.length ∧ xs.length ≤ 4) ∧ qS (RR w w' v1 v2 xs ys)
variable {w : World} {b0 b1 b2 : Nat} {v0 v1 v2 : Value} {l0 l1 l2 : List Int}
theorem count_run (h0 : RI w b0 v0 l0) (hl : l0.length ≤ 10) : Calls Try.prog 78 #[v0] w fun e w' => ∃ r : Int, e = .returned (.int .i64 r) ∧ qS (-1 ≤ r ∧ r ≤ 4096) ∧ qS (Below w.heap.size w w') := by
 obtain ⟨A, c, rfl, hc, hr⟩ := Kd.R_reads h0
 by_cases g : good l0
 ·refine (zL.calls 100 A c l0 _ w hr hc ((l2count_f 100 l0 (by omega)).1 g)).mono ?_
  rintro e w' ⟨rfl, hb⟩
  exact ⟨_, rfl, ⟨by have := cnt_nonneg g.2.1; have := g.2.2; omega⟩, ⟨hb.below⟩⟩
 ·refine (zL.calls 100 A c l0 _ w hr hc ((l2count_f 100 l0 (by omega)).2 g)).mono ?_
  rintro e w' ⟨rfl, hb⟩
  exact ⟨_, rfl, ⟨by omega⟩, ⟨hb.below⟩⟩
theorem copy_run (h0 : RI w b0 v0 l0) (hl : l0.length ≤ 10) : Calls Try.prog 108 #[v0] w fun e w' => ∃ v : Value, e = .returned v ∧ qS (Kd.R (Kd.int .i64) 2 w' w.heap.size (fun _ => True) v l0) ∧ qS (Below w.heap.size w w') := by
 obtain ⟨A, c, rfl, hc, hr⟩ := Kd.R_reads h0
 refine (spec_l2CopyList.calls 100 A c l0 _ w hr hc (copy_f 100 l0 (by omega) (by omega))).mono ?_
 rintro e w' ⟨v, rfl, ho, hb⟩
 exact ⟨_, rfl, ⟨ho⟩, ⟨hb⟩⟩
theorem va {f : Nat} {args : Array Value} {r1 : Int} {r2 r3 : List Int} {r4 : Int} (h : Calls Try.prog f args w fun e w' => ∃ v1_ v2_ : Value, e = .returned (.agg #[.int .i64 r1, v1_, v2_, .int .i64 r4]) ∧ Kd.R (Kd.int .i64) 2 w' w.heap.size (fun k_ => some k_ ≠ (v2_ : Value).ownBlock) v1_ r2 ∧ Kd.R (Kd.int .i64) 2 w' w.heap.size (fun k_ => some k_ ≠ (v1_ : Value).ownBlock) v2_ r3 ∧ Below w.heap.size w w') (hl : r2.length = r3.length ∧ r2.length ≤ 4) : Calls Try.prog f args w (VA w) := by
 refine h.mono ?_
 rintro e w' ⟨v1, v2, rfl, h1, h2, hb⟩
 exact ⟨_, v1, v2, _, rfl, r2, r3, ⟨hl⟩, ⟨h1, Kd.qZ h2 (fun _ _ => trivial), hb⟩⟩
theorem reshape_run (o : Int) (h0 : RI w b0 v0 l0) (h1 : RI w b1 v1 l1) (h2 : RI w b2 v2 l2) (hl : l0.length ≤ 10 ∧ l1.length ≤ 10 ∧ l2.length ≤ 10) : Calls Try.prog 68 #[.agg #[v0, v1, .int .i64 o], v2] w (VA w) := by
 obtain ⟨A0, c0, rfl, hc0, hr0⟩ := Kd.R_reads h0
 obtain ⟨A1, c1, rfl, hc1, hr1⟩ := Kd.R_reads h1
 obtain ⟨A2, c2, rfl, hc2, hr2⟩ := Kd.R_reads h2
 obtain ⟨c, L1, L2, p, hf, hl⟩ := reshape_some l0 l1 l2 o 5000000 (by omega) (by omega) (by omega) (by omega)
 exact va (spec_Reshape.calls 5000000 A0 c0 l0 A1 c1 l1 o A2 c2 l2 c L1 L2 p w hr0 hc0 hr1 hc1 hr2 hc2 hf) hl
theorem transpose_run (o : Int) (h0 : RI w b0 v0 l0) (h1 : RI w b1 v1 l1) (h2 : RI w b2 v2 l2) (hl : l0.length ≤ 10 ∧ l1.length ≤ 10 ∧ l2.length ≤ 10) : Calls Try.prog 49 #[.agg #[v0, v1, .int .i64 o], v2] w (VA w) := by
 obtain ⟨A0, c0, rfl, hc0, hr0⟩ := Kd.R_reads h0
 obtain ⟨A1, c1, rfl, hc1, hr1⟩ := Kd.R_reads h1
 obtain ⟨A2, c2, rfl, hc2, hr2⟩ := Kd.R_reads h2
 obtain ⟨c, L1, L2, p, hf, -, hl⟩ := transpose_alike l0 l1 l2 o 5000000 (by omega) (by omega) (by omega) (by omega)
 refine va (spec_Transpose.calls 5000000 A0 c0 l0 A1 c1 l1 o A2 c2 l2 c L1 L2 p w hr0 hc0 hr1 hc1 hr2 hc2 hf) ?_
 rcases hl with ⟨-, rfl, rfl, -⟩ | ⟨-, hv, -, hn, -, -, rfl, rfl⟩
 ·simp
 ·have := hv.1.1; simp; omega
theorem broadcast_run (o : Int) (h0 : RI w b0 v0 l0) (h1 : RI w b1 v1 l1) (h2 : RI w b2 v2 l2) (hl : l0.length ≤ 10 ∧ l1.length ≤ 10 ∧ l2.length ≤ 10) : Calls Try.prog 54 #[.agg #[v0, v1, .int .i64 o], v2] w (VA w) := by
 obtain ⟨A0, c0, rfl, hc0, hr0⟩ := Kd.R_reads h0
 obtain ⟨A1, c1, rfl, hc1, hr1⟩ := Kd.R_reads h1
 obtain ⟨A2, c2, rfl, hc2, hr2⟩ := Kd.R_reads h2
 obtain ⟨c, L1, L2, p, hf, -, hl⟩ := broadcast_alike l0 l1 l2 o 5000000 (by omega) (by omega) (by omega) (by omega)
 refine va (spec_Broadcast.calls 5000000 A0 c0 l0 A1 c1 l1 o A2 c2 l2 c L1 L2 p w hr0 hc0 hr1 hc1 hr2 hc2 hf) ?_
 rcases hl with ⟨-, rfl, rfl, -⟩ | ⟨-, hv, -, hg, hn, rfl, L, hL, rfl⟩
 ·simp
 ·have := bstr_len _ _ _ _ (by simp; omega) (by have := hv.2.1; simp; omega) hL
  have := hg.1; simp at *; omega
theorem slice_run (o a b c d : Int) (h0 : RI w b0 v0 l0) (h1 : RI w b1 v1 l1) (hl : l0.length ≤ 10 ∧ l1.length ≤ 10) : Calls Try.prog 59 #[.agg #[v0, v1, .int .i64 o], .int .i64 a, .int .i64 b, .int .i64 c, .int .i64 d] w (VA w) := by
 obtain ⟨A0, c0, rfl, hc0, hr0⟩ := Kd.R_reads h0
 obtain ⟨A1, c1, rfl, hc1, hr1⟩ := Kd.R_reads h1
 obtain ⟨e, L1, L2, p, hf, -, hl⟩ := slice_alike l0 l1 o a b c d 5000000 (by omega) (by omega) (by omega)
 refine va (spec_Slice.calls 5000000 A0 c0 l0 A1 c1 l1 o a b c d e L1 L2 p w hr0 hc0 hr1 hc1 hf) ?_
 rcases hl with ⟨-, rfl, rfl, -⟩ | ⟨-, hv, i, -, hi, m, f, rfl, -, -, h3, h4⟩
 ·simp
 ·have h5 := hv.1.1; have h6 := hv.2.1
  by_cases hc : cnt (l0.set i (m : Int)) = 0
  ·rw [(h3 hc).1]; simp; omega
  ·rw [(h4 hc).2.2]; split <;> simp <;> omega
end Go.Proofs.Ytpmdgmnpkdoamaa.Dv
