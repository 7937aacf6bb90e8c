/- Proved here: what spec.l2DrawSlice answers: some view, in rows of its own. Conditions: those that stand ahead in each theorem. -/
import Derived.Test.YtpmdgmnpkdoamaaViDde
namespace Go.Proofs.Ytpmdgmnpkdoamaa.Dv
open Go.RowKit Go.Proofs.YtpmdgmnpkdoamaaW.PrintWords Go.Proofs.YtpmdgmnpkdoamaaW.PrintLast Go.Proofs.YtpmdgmnpkdoamaaW.PrintMore
open Src
set_option linter.unusedVariables false
set_option linter.unusedSimpArgs false
section
set_option maxHeartbeats 4000000 in
set_option maxRecDepth 100000 in
theorem drawslice_run {c g b0 b1 : Nat} {w0 w : World} {v0 v1 : Value} {l0 l1 : List Int} (o a1 : Int) (h : Sto c g w0 w w [.row b0 v0 l0, .row b1 v1 l1]) (hl : l0.length ≤ 10 ∧ l1.length ≤ 10) (ha : 0 ≤ a1 ∧ a1 < (l0.length : Int)) :
  Calls Try.prog 134 #[.agg #[v0, v1, .int .i64 o], .int .i64 a1, .pointer (some ⟨g, 0, none⟩)] w fun e w' => ∃ (r : Int) (v1 v2 : Value) (p : Int), e = .returned (.agg #[.int .i64 r, v1, v2, .int .i64 p]) ∧ ∃ xs ys : List Int, qS (xs.length = ys.length ∧ xs.length ≤ 4) ∧ qS (Sto c g w0 w w' [.row w.heap.size v1 xs, .row w.heap.size v2 ys]) := by
 have hu32 := Try.underlying32
 have hu53 := Try.underlying53
 have HG := qS.mk h
 have HS := qS.mk h.on.2.1.size
 have hl := qS.mk hl
 have ha := qS.mk ha
 clear h
 obtain ⟨A0, k0, rfl⟩ := Kd.qX (HG.out.rowAt 0)
 obtain ⟨A1, k1, rfl⟩ := Kd.qX (HG.out.rowAt 1)
 obtain ⟨ad, e, hx0⟩ := Kd.at_int (Kd.qY (HG.out.rowAt 0)).2.2 a1 ha.out.1 ha.out.2
 cases e
 clear hx0
 go_enter Try.func134, Try.ntmps134
 go_wp2_with (first | ((with_reducible refine gate_dst (N := 3) rfl ?_); refine Sto.boxed (its := _) (Sto.at HG) #[.slice (some ad) l0.length k0, .slice A1 l1.length k1, .int .i64 o] 32 ?hr ?_; (case hr => first | (go_simp; done) | (go_simp; rfl)); intro gb3 w3 h4; replace HG := h4; clear h4) | ((with_reducible refine gate_dst (N := 6) rfl ?_); refine Sto.boxed (its := _) (Sto.at HG) #[.int .i64 0, .slice none 0 0, .slice none 0 0, .int .i64 0] 53 ?hr ?_; (case hr => first | (go_simp; done) | (go_simp; rfl)); intro gb6 w6 h4; replace HG := h4; clear h4; (try clear hczgb30); have hczgb30 : w6.cell? ⟨gb3, 0, none⟩ = some (.slice (some ad) l0.length k0) := (qJ (HG.out.boxAt 1) 0).trans rfl; (try clear hczgb31); have hczgb31 : w6.cell? ⟨gb3, 1, none⟩ = some (.slice A1 l1.length k1) := (qJ (HG.out.boxAt 1) 1).trans rfl; (try clear hczgb32); have hczgb32 : w6.cell? ⟨gb3, 2, none⟩ = some (.int .i64 o) := (qJ (HG.out.boxAt 1) 2).trans rfl; obtain ⟨ad, e, hx⟩ := Kd.at_int (Kd.qY (HG.out.rowAt 2)).2.2 a1 ha.out.1 ha.out.2; cases e; have pa := eq_true ha.out.1; have qa := eq_true ha.out.2) | (go_at_call 94; refine (Sto.next (c := c) (w0 := w0) (W := w) (its := _) (Sto.at HG) _).mono ?_; rintro e w94 ⟨r, rfl, hrr, h1⟩; replace HG := h1; clear h1; (try clear hczgb30); have hczgb30 : w94.cell? ⟨gb3, 0, none⟩ = some (.slice (some ad) l0.length k0) := (qJ (HG.out.boxAt 1) 0).trans rfl; (try clear hczgb31); have hczgb31 : w94.cell? ⟨gb3, 1, none⟩ = some (.slice A1 l1.length k1) := (qJ (HG.out.boxAt 1) 1).trans rfl; (try clear hczgb32); have hczgb32 : w94.cell? ⟨gb3, 2, none⟩ = some (.int .i64 o) := (qJ (HG.out.boxAt 1) 2).trans rfl) | (go_at_call 59; refine (slice_run o _ _ _ _ (HG.out.rowAt 2) (HG.out.rowAt 3) ⟨hl.out.1, hl.out.2⟩).mono ?_; rintro e w59 ⟨rs, vsa, vsb, ps, rfl, xs, ys, hxys, hr⟩; replace HG := qS.mk (HG.out.view hr.out); clear hr; obtain ⟨Asa, ksa, rfl⟩ := Kd.qX (HG.out.rowAt 0); obtain ⟨Asb, ksb, rfl⟩ := Kd.qX (HG.out.rowAt 1)) | ((with_reducible refine gate_store (t := 53) (p := 6) rfl ?_); refine Sto.store (its := _) 2 (Sto.at HG) rfl HS.out 53 (.tmp 6) (.tmp 53) _ [_, _, _, _] _ rfl rfl rfl rfl (by kernel_rfl) (by simp [putL]) (by intro q hq; simp at hq; rcases hq with rfl | rfl | rfl | rfl <;> rfl) ?_; intro w60 h4; replace HG := h4; clear h4))
 all_goals refine bodyPost_ret (results_cell_row rfl _ _ gb6 53 #[.int .i64 rs, .slice Asa xs.length ksa, .slice Asb ys.length ksb, .int .i64 ps] (0, 0) _ rfl (HG.out.boxAt 2) Try.underlying53 rfl (by kernel_rfl)) rfl ?_
 all_goals exact ⟨_, _, _, _, rfl, xs, ys, hxys, ⟨HG.out.pick _ (fun n => n) (fun m n e => by simpa using e) (fun n j hj => by match n, hj with | 0, hj => simpa using hj | 1, hj => simpa using hj | n + 2, hj => simp at hj)⟩⟩
end
end Go.Proofs.Ytpmdgmnpkdoamaa.Dv
