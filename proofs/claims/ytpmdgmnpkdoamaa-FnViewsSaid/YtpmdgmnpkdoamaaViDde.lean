/- Proved here: what spec.l2Dense and spec.l2DrawSlice answer: some view, in rows of its own. Conditions: those that stand ahead in each theorem. -/
import Derived.Test.YtpmdgmnpkdoamaaViDco
namespace Go.Proofs.Ytpmdgmnpkdoamaa.Dv
open Go.RowKit Go.Proofs.YtpmdgmnpkdoamaaW.PrintWords Go.Proofs.YtpmdgmnpkdoamaaW.PrintLast Go.Proofs.YtpmdgmnpkdoamaaW.PrintMore
open Src
set_option linter.unusedVariables false
set_option linter.unusedSimpArgs false
section
variable {c g : Nat} {w0 W w : World} {its : List It} {ops : Array Oper} {o : Oper} {rest : List Oper} {a : Act} {Q : Exit → Act → World → Prop}
theorem Sto.boxed (h : Sto c g w0 W w its) (cs : Array Value) (t : Nat) (hrun : (execOp a.eval o).run Try.prog w = .ok (.value (.pointer (some ⟨w.heap.size, 0, none⟩))) (w.alloc (.cells cs t (0, 0))))
  (k : ∀ g1 w1, qS (Sto c g w0 W w1 (.box g1 cs t :: its)) → wpList Try.prog ops Q rest (a.put o.dst (.pointer (some ⟨g1, 0, none⟩))) w1) (hgd : o.guard = none := by rfl) (ht : t ≠ 113 ∧ t ≠ 5 ∧ t ≠ 2 := by decide) {N : Tmp} (hd : o.dst = some N := by rfl) : wpList Try.prog ops Q (o :: rest) a w := by
 refine qU hgd hd hrun ?_
 intro g1 hg w1 hb hbel
 exact k g1 w1 ⟨h.box hbel hb hg ht⟩
theorem Sto.lit (h : Sto c g w0 W w its) (xs : List Int) (inner : List Value) (hrun : (execOp a.eval o).run Try.prog w = .ok (.value (.slice (some ⟨w.heap.size, 0, none⟩) xs.length xs.length)) (w.alloc (.cells inner.toArray 2)))
  (hl : xs.length ≤ 1000) (k : ∀ v1 w1, qS (Sto c g w0 W w1 (.row W.heap.size v1 xs :: its)) → wpList Try.prog ops Q rest (a.put o.dst v1) w1) (hin : inner = encs (Value.int .i64) xs := by rfl) (hgd : o.guard = none := by rfl) {N : Tmp} (hd : o.dst = some N := by rfl) : wpList Try.prog ops Q (o :: rest) a w := by
 refine Kd.R_lit (Kd.int .i64) (w0 := w) w.heap.size 2 hgd hd (okp := fun _ => True) (ok := fun _ => True) hrun (hin ▸ Kd.reps_scalar xs) (fun _ hk => hk) trivial (Below.refl _ _) (Nat.le_refl _) (by omega) ?_
 intro v1 w1 ho hb _ _
 exact k v1 w1 ⟨h.row hb ho⟩
theorem Sto.sub (h : Sto c g w0 W w its) (js : List It) (f : Nat → Nat) (hf : ∀ m n, f m = f n → m = n) (hj : ∀ n j, js[n]? = some j → its[f n]? = some j ∧ ∃ b v xs, j = .row b v xs) : Sto c g w0 w w js := by
 have h2 := h.pick js f hf (fun n j hn => (hj n j hn).1)
 refine ⟨h.on.again, fun n i hi => ?_, h2.sep⟩
 obtain ⟨e, b, v, xs, rfl⟩ := hj n i hi
 exact h2.all n _ hi
theorem Sto.again1 (h : Sto c g w0 W w its) (n : Nat) {b : Nat} {v : Value} {xs : List Int} (e : its[n]? = some (.row b v xs) := by rfl) : Sto c g w0 w w [.row b v xs] :=
 h.sub _ (· + n) (fun a b h => by simpa using h) (fun m j hj => by
  match m, hj with
  | 0, hj => simp at hj; subst hj; exact ⟨by simpa using e, _, _, _, rfl⟩
  | m + 1, hj => simp at hj)
theorem Sto.again2 (h : Sto c g w0 W w its) (n : Nat) {b b' : Nat} {v v' : Value} {xs xs' : List Int} (e : its[n]? = some (.row b v xs) := by rfl) (e' : its[n + 1]? = some (.row b' v' xs') := by rfl) : Sto c g w0 w w [.row b v xs, .row b' v' xs'] :=
 h.sub _ (· + n) (fun a b h => by simpa using h) (fun m j hj => by
  match m, hj with
  | 0, hj => simp at hj; subst hj; exact ⟨by simpa using e, _, _, _, rfl⟩
  | 1, hj => simp at hj; subst hj; exact ⟨by simpa [Nat.add_comm] using e', _, _, _, rfl⟩
  | m + 2, hj => simp at hj)
def putL (cs : Array Value) (j : Nat) : List Value → Array Value
 | [] => cs
 | u :: us => putL (cs.setIfInBounds j u) (j + 1) us
theorem Sto.cells (n : Nat) {b t : Nat} (h0 : w0.heap.size ≤ W.heap.size) : ∀ (us : List Value) (j : Nat) (w : World) (its : List It) (cs : Array Value), Sto c g w0 W w its → its[n]? = some (.box b cs t) → Sto c g w0 W (w.setCells b j us) (its.set n (.box b (putL cs j us) t))
 | [], j, w, its, cs, h, hn => by
  have e : its.set n (.box b cs t) = its := by
   refine List.ext_getElem? fun m => ?_
   by_cases e : n = m
   ·subst e; rw [List.getElem?_set]; simp [hn]; rcases Nat.lt_or_ge n its.length with h | h; exact h; rw [List.getElem?_eq_none h] at hn; cases hn
   ·rw [List.getElem?_set_ne e]
  show Sto c g w0 W w (its.set n (.box b cs t))
  rw [e]; exact h
 | u :: us, j, w, its, cs, h, hn => by
  have h1 := Sto.cells n h0 us (j + 1) _ _ _ (h.cell n hn j u h0) (by
   have hl : n < its.length := by rcases Nat.lt_or_ge n its.length with h | h; exact h; rw [List.getElem?_eq_none h] at hn; cases hn
   exact List.getElem?_set_self hl)
  rw [List.set_set] at h1
  exact h1
theorem Sto.store (n : Nat) {b t j : Nat} {cs : Array Value} (h : Sto c g w0 W w its) (hn : its[n]? = some (.box b cs t)) (h0 : w0.heap.size ≤ W.heap.size) (ty : TypeId) (p x : Operand) (u : Value) (us : List Value) (cs' : Array Value)
  (haddr : a.eval p = .pointer (some ⟨b, j, none⟩)) (hx : a.eval x = u) (hu : u.cells.toList = us) (hcs : putL cs j us = cs') (ht : (Try.prog.info? ty).map (·.size) = some us.length) (hle : j + us.length ≤ cs.size) (h1 : ∀ q ∈ us, q.oneCell' = true)
  (k : ∀ w1, qS (Sto c g w0 W w1 (its.set n (.box b cs' t))) → wpList Try.prog ops Q rest a w1) (ho : o.op = .store ty p x := by rfl) (hN : o.dst = none := by rfl) (hgd : o.guard = none := by rfl) : wpList Try.prog ops Q (o :: rest) a w := by
 refine wpList_plain hgd fun K hK => ?_
 have hrun := run_store_run (P := Try.prog) ty u us (h.boxAt n hn) hu ht hle h1
 unfold Oper.wp execOp
 simp only [ho, haddr, hx, Sem.run_bind, Sem.run_pure, Result.andThen_ok, hrun]
 show K (a.put o.dst undef) _
 rw [hN]
 exact hK _ _ (k _ ⟨hcs ▸ h.cells n h0 us j _ _ _ hn⟩)
theorem Sto.one {w' : World} {v : Value} {xs : List Int} {js : List It} (h : Sto c g w0 W w its) (k : Sto c g w0 w w' (.row w.heap.size v xs :: js)) : Sto c g w0 W w' (.row W.heap.size v xs :: its) :=
 (h.rows (v' := .slice none 0 0) (xs' := []) k.on (R_any (k.rowAt 0) (fun k hk _ e => by simp [Value.ownBlock] at e)) (Kd.R_nil _ _ _ _ (fun _ => True))).pick _ (fun n => match n with | 0 => 0 | n + 1 => n + 2)
  (fun m n e => by match m, n, e with | 0, 0, _ => rfl | 0, n + 1, e => simp at e | m + 1, 0, e => simp at e | m + 1, n + 1, e => simpa using e) (fun n j hj => by match n, hj with | 0, hj => simpa using hj | n + 1, hj => simpa using hj)
theorem Sto.two {w' : World} {v v' : Value} {xs xs' : List Int} {js : List It} (h : Sto c g w0 W w its) (k : Sto c g w0 w w' (.row w.heap.size v xs :: .row w.heap.size v' xs' :: js)) : Sto c g w0 W w' (.row W.heap.size v xs :: .row W.heap.size v' xs' :: its) :=
 h.rows k.on (R_any (k.rowAt 0) (fun b hb _ e => k.sep 0 1 _ _ (by decide) rfl rfl b hb e.symm)) (k.rowAt 1)
end
theorem field53 (r p : Int) (A1 A2 : Option Addr) (n1 k1 n2 k2 : Nat) (w : World) : (Instr.field 53 (.agg #[.int .i64 r, .slice A1 n1 k1, .slice A2 n2 k2, .int .i64 p]) 1).run Try.prog w = .ok (.agg #[.slice A1 n1 k1, .slice A2 n2 k2, .int .i64 p]) w := by kernel_rfl
section
attribute [local go_sem] field53
set_option maxHeartbeats 1000000 in
set_option maxRecDepth 100000 in
theorem dense_run {c g b : Nat} {w0 w : World} {v : Value} {l0 : List Int} (a1 : Int) (h : Sto c g w0 w w [.row b v l0]) (hl : l0.length ≤ 10) :
  Calls Try.prog 123 #[v, .int .i64 a1] w fun e w' => ∃ v1 v2 : Value, e = .returned (.agg #[v1, v2, .int .i64 a1]) ∧ ∃ xs ys : List Int, qS (xs.length = ys.length ∧ xs.length ≤ 4) ∧ qS (Sto c g w0 w w' [.row w.heap.size v1 xs, .row w.heap.size v2 ys]) := by
 have hu32 := Try.underlying32
 have hu53 := Try.underlying53
 have HG := qS.mk h
 have HS := qS.mk h.on.2.1.size
 have hl := qS.mk hl
 clear h
 go_enter Try.func123, Try.ntmps123
 go_wp2_with (first | ((with_reducible refine gate_dst (N := 4) rfl ?_); refine Sto.boxed (its := _) (Sto.at HG) #[.slice none 0 0, .slice none 0 0, .int .i64 0] 32 ?hr ?_; (case hr => first | (go_simp; done) | (go_simp; rfl)); intro gb4 w4 h4; replace HG := h4; clear h4) | (go_at_call 78; refine (count_run (HG.out.rowAt 1) hl.out).mono ?_; rintro e w5 ⟨n, rfl, hn, hb⟩; replace HG := qS.mk (HG.out.made hb.out); clear hb hn) | ((with_reducible refine gate_dst (N := 8) rfl ?_); refine Sto.lit (its := _) (Sto.at HG) [n] [.int .i64 n] ?hr (by simp) ?_; (case hr => first | (go_simp; done) | (go_simp; rfl)); intro v8 w8 h4; replace HG := h4; clear h4; obtain ⟨A8, k8, rfl⟩ := Kd.qX (HG.out.rowAt 0)) | ((with_reducible refine gate_dst (N := 9) rfl ?_); refine Sto.lit (its := _) (Sto.at HG) [1] [.int .i64 1] ?hr (by simp) ?_; (case hr => first | (go_simp; done) | (go_simp; rfl)); intro v9 w9 h4; replace HG := h4; clear h4; obtain ⟨A9, k9, rfl⟩ := Kd.qX (HG.out.rowAt 0)) | (go_at_call 68; refine (reshape_run 0 (HG.out.rowAt 1) (HG.out.rowAt 0) (HG.out.rowAt 3) ⟨by simp, by simp, hl.out⟩).mono ?_; rintro e w12 ⟨r, v1, v2, p, rfl, xs, ys, hxy, hr⟩; replace HG := qS.mk (HG.out.view hr.out); clear hr; obtain ⟨A1, k1, rfl⟩ := Kd.qX (HG.out.rowAt 0); obtain ⟨A2, k2, rfl⟩ := Kd.qX (HG.out.rowAt 1)) | ((with_reducible refine gate_dst (N := 5) rfl ?_); refine Sto.boxed (its := _) (Sto.at HG) #[.slice none 0 0, .slice none 0 0, .int .i64 0] 32 ?hr ?_; (case hr => first | (go_simp; done) | (go_simp; rfl)); intro gb5 w5 h4; replace HG := h4; clear h4) | ((with_reducible refine gate_store (t := 32) (p := 5) rfl ?_); refine Sto.store (its := _) 0 (Sto.at HG) rfl HS.out 32 (.tmp 5) (.tmp 13) _ [_, _, _] _ rfl rfl rfl rfl (by kernel_rfl) (by simp [putL]) (by intro q hq; simp at hq; rcases hq with rfl | rfl | rfl <;> rfl) ?_; intro w13 h4; replace HG := h4; clear h4) | ((with_reducible refine gate_store (t := 2) (p := 15) rfl ?_); refine Sto.store (its := _) 0 (Sto.at HG) rfl HS.out 2 (.tmp 15) (.tmp 14) _ [_] _ rfl rfl rfl rfl (by kernel_rfl) (by simp [putL]) (by intro q hq; simp at hq; subst hq; rfl) ?_; intro w14 h4; replace HG := h4; clear h4; have hczgb50 : w14.cell? ⟨gb5, 0, none⟩ = some (.slice A1 xs.length k1) := (qJ (HG.out.boxAt 0) 0).trans rfl; have hczgb51 : w14.cell? ⟨gb5, 1, none⟩ = some (.slice A2 ys.length k2) := (qJ (HG.out.boxAt 0) 1).trans rfl; have hczgb52 : w14.cell? ⟨gb5, 2, none⟩ = some (.int .i64 a1) := (qJ (HG.out.boxAt 0) 2).trans rfl) | ((with_reducible refine gate_store (t := 32) (p := 4) rfl ?_); refine Sto.store (its := _) 5 (Sto.at HG) rfl HS.out 32 (.tmp 4) (.tmp 16) _ [_, _, _] _ rfl rfl rfl rfl (by kernel_rfl) (by simp [putL]) (by intro q hq; simp at hq; rcases hq with rfl | rfl | rfl <;> rfl) ?_; intro w15 h4; replace HG := h4; clear h4))
 refine bodyPost_ret (results_cell_row rfl _ _ gb4 32 #[.slice A1 xs.length k1, .slice A2 ys.length k2, .int .i64 a1] (0, 0) _ rfl (HG.out.boxAt 5) Try.underlying32 rfl (by kernel_rfl)) rfl ?_
 exact ⟨_, _, rfl, xs, ys, hxy, ⟨HG.out.pick _ (fun n => n + 1) (fun m n e => by simpa using e) (fun n j hj => by match n, hj with | 0, hj => simpa using hj | 1, hj => simpa using hj | n + 2, hj => simp at hj)⟩⟩
end
end Go.Proofs.Ytpmdgmnpkdoamaa.Dv
