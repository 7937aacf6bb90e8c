/- Proved here: what spec.l2DrawAny answers: some lists and a number. Conditions: the source is one that numbers may be drawn from. -/
import Derived.Test.YtpmdgmnpkdoamaaViDvw
import Derived.StillTailTactics
namespace Go.Proofs.Ytpmdgmnpkdoamaa.Dv
open Go.RowKit Go.Proofs.YtpmdgmnpkdoamaaW.PrintWords Go.Proofs.YtpmdgmnpkdoamaaW.PrintLast Go.Proofs.YtpmdgmnpkdoamaaW.PrintMore
open Src
set_option linter.unusedVariables false
set_option linter.unusedSimpArgs false
def T27 : Bool × List (List Nat × List Nat) := (true, [([], []), ([0], [0]), ([], []), ([], []), ([3], [3]), ([4], [4]), ([1, 2, 0, 1, 2, 3, 4, 5], [1, 2]), ([6, 5, 4, 0, 1, 2, 3, 4, 5], [5, 6])])
def B27 : List Nat := [0, 1, 0, 0, 8, 24, 63, 127]
theorem q27t : rtab .any (opsOf Try.f109 27) = T27 := by kernel_rfl
theorem q27b : waitsOk T27.2 B27 = true := by kernel_rfl
theorem q29t : rtab .any (opsOf Try.f109 29) = T27 := by kernel_rfl
theorem Sto.two_of {c g : Nat} {w0 W w : World} {its : List It} (h : Sto c g w0 W w its) (m n : Nat) (hmn : m ≠ n) {i j : It} (hi : its[m]? = some i := by rfl) (hj : its[n]? = some j := by rfl) : Sto c g w0 W w [i, j] :=
 h.pick _ (fun q => match q with | 0 => m | 1 => n | q + 2 => m + n + q + 2) (by intro a b e; match a, b, e with | 0, 0, _ => rfl | 1, 1, _ => rfl | 0, 1, e => exact absurd e hmn | 1, 0, e => exact absurd e.symm hmn | 0, b + 2, e => simp at e; omega | 1, b + 2, e => simp at e; omega | a + 2, 0, e => simp at e; omega | a + 2, 1, e => simp at e; omega | a + 2, b + 2, e => simp at e; omega)
  (fun q x hx => by match q, hx with | 0, hx => simp at hx; subst hx; exact hi | 1, hx => simp at hx; subst hx; exact hj | q + 2, hx => simp at hx)
theorem Sto.putW {c g : Nat} {w0 W w : World} {its : List It} (n : Nat) {b gr cap : Nat} {xs : List Int} (i z : Int) (h : Sto c g w0 W w its) (hW : W.heap.size ≤ b) (h0 : w0.heap.size ≤ W.heap.size) (hn : its[n]? = some (.row b (.slice (some ⟨gr, 0, none⟩) xs.length cap) xs)) :
  Sto c g w0 W (w.setCell ⟨gr, i.toNat, none⟩ (.int .i64 z)) (its.set n (.row b (.slice (some ⟨gr, 0, none⟩) xs.length cap) (xs.set i.toNat z))) := by
 obtain ⟨h1, h2⟩ := Kd.R_put (h.rowAt n hn) i z
 exact h.grow n hn hW h0 h2 h1 (.inl rfl)
section
set_option maxHeartbeats 8000000 in
set_option maxRecDepth 100000 in
theorem any_run {c g : Nat} {w0 w : World} (h : Is c w0 w g) (hB : Below w0.heap.size w0 w) :
  Calls Try.prog 109 #[.pointer (some ⟨g, 0, none⟩)] w fun e w' => ∃ v1 v2 : Value, (∃ p : Int, e = .returned (.agg #[v1, v2, .int .i64 p])) ∧ ∃ xs ys : List Int, qS (xs.length ≤ 5 ∧ ys.length ≤ 5) ∧ qS (Sto c g w0 w w' [.row w.heap.size v1 xs, .row w.heap.size v2 ys]) := by
 have hu32 := Try.underlying32
 have HG := qS.mk (Sto.start h hB)
 have HS := qS.mk hB.size
 clear h hB
 go_enter Try.func109, Try.ntmps109
 go_upto_if 15 with (first | ((with_reducible refine gate_dst (N := 2) rfl ?_); refine Sto.boxed (its := _) (Sto.at HG) #[.slice none 0 0, .slice none 0 0, .int .i64 0] 32 ?hr ?_; (case hr => first | (go_simp; done) | (go_simp; rfl)); intro gb2 w2 h4; replace HG := h4; clear h4) | (go_at_call 119; refine (view_run (Sto.at HG).on.1 (Sto.at HG).on.2.1).mono ?_; rintro e w8 ⟨v8a, v8b, ⟨p, rfl⟩, xs, ys, hxy, hr⟩; replace HG := qS.mk ((Sto.at HG).two hr.out); clear hr; obtain ⟨A0, k0, rfl⟩ := Kd.qX (HG.out.rowAt 0); obtain ⟨A1, k1, rfl⟩ := Kd.qX (HG.out.rowAt 1)) | ((with_reducible refine gate_dst (N := 3) rfl ?_); refine Sto.boxed (its := _) (Sto.at HG) #[.slice none 0 0, .slice none 0 0, .int .i64 0] 32 ?hr ?_; (case hr => first | (go_simp; done) | (go_simp; rfl)); intro gb3 w3 h4; replace HG := h4; clear h4) | ((with_reducible refine gate_store (t := 32) (p := 3) rfl ?_); refine Sto.store (its := _) 0 (Sto.at HG) rfl HS.out 32 (.tmp 3) (.tmp 8) _ [_, _, _] _ rfl rfl rfl rfl (by kernel_rfl) (by simp [putL]) (by intro q hq; simp at hq; rcases hq with rfl | rfl | rfl <;> rfl) ?_; intro w9 h4; replace HG := h4; clear h4; (try clear hczgb30); have hczgb30 : w9.cell? ⟨gb3, 0, none⟩ = some (.slice A0 xs.length k0) := (qJ (HG.out.boxAt 0) 0).trans rfl; (try clear hczgb31); have hczgb31 : w9.cell? ⟨gb3, 1, none⟩ = some (.slice A1 ys.length k1) := (qJ (HG.out.boxAt 0) 1).trans rfl; (try clear hczgb32); have hczgb32 : w9.cell? ⟨gb3, 2, none⟩ = some (.int .i64 p) := (qJ (HG.out.boxAt 0) 2).trans rfl) | (go_at_call 94; refine (Sto.next (c := c) (w0 := w0) (W := w) (its := _) (Sto.at HG) _).mono ?_; rintro e w10 ⟨k, rfl, hrk, h1⟩; replace HG := h1; clear h1; (try clear hczgb30); have hczgb30 : w10.cell? ⟨gb3, 0, none⟩ = some (.slice A0 xs.length k0) := (qJ (HG.out.boxAt 0) 0).trans rfl; (try clear hczgb31); have hczgb31 : w10.cell? ⟨gb3, 1, none⟩ = some (.slice A1 ys.length k1) := (qJ (HG.out.boxAt 0) 1).trans rfl; (try clear hczgb32); have hczgb32 : w10.cell? ⟨gb3, 2, none⟩ = some (.int .i64 p) := (qJ (HG.out.boxAt 0) 2).trans rfl))
 (try simp only [Act.put, List.setIfInBounds_toArray, List.set_cons_zero, List.set_cons_succ])
 have hk : k = 0 ∨ k = 1 ∨ k = 2 ∨ k = 3 ∨ k = 4 ∨ k = 5 ∨ k = 6 ∨ k = 7 ∨ k = 8 ∨ k = 9 ∨ k = 10 ∨ k = 11 ∨ 12 ≤ k := by have := hrk.out; omega
 clear hrk
 rcases hk with rfl | hk
 ·go_wp2_with (first | ((with_reducible refine gate_dst (N := 16) rfl ?_); refine Sto.lit (its := _) (Sto.at HG) [4096] [.int .i64 4096] ?hr (by simp) ?_; (case hr => first | (go_simp; done) | (go_simp; rfl)); intro v16 w16 h4; replace HG := h4; clear h4; obtain ⟨A16, k16, rfl⟩ := Kd.qX (HG.out.rowAt 0)) | ((with_reducible refine gate_dst (N := 17) rfl ?_); refine Sto.lit (its := _) (Sto.at HG) [1] [.int .i64 1] ?hr (by simp) ?_; (case hr => first | (go_simp; done) | (go_simp; rfl)); intro v17 w17 h4; replace HG := h4; clear h4; obtain ⟨A17, k17, rfl⟩ := Kd.qX (HG.out.rowAt 0)) | (go_at_call 94; refine (Sto.next (c := c) (w0 := w0) (W := w) (its := _) (Sto.at HG) _).mono ?_; rintro e w19 ⟨r, rfl, hrr, h1⟩; replace HG := h1; clear h1) | ((with_reducible refine gate_store (t := 32) (p := 2) rfl ?_); refine Sto.store (its := _) 5 (Sto.at HG) rfl HS.out 32 (.tmp 2) (.tmp 20) _ [_, _, _] _ rfl rfl rfl rfl (by kernel_rfl) (by simp [putL]) (by intro q hq; simp at hq; rcases hq with rfl | rfl | rfl <;> rfl) ?_; intro w20 h4; replace HG := h4; clear h4))
  all_goals (refine bodyPost_ret (rC gb2 32 #[.slice A16 1 k16, .slice A17 1 k17, .int .i64 r] (HG.out.boxAt 5) Try.underlying32) rfl ?_; refine ⟨_, _, ⟨_, rfl⟩, [4096], [1], ?_, ⟨(Sto.two_of HG.out 1 0 (by decide))⟩⟩; exact ⟨by simp⟩)
 rcases hk with rfl | hk
 ·go_wp2_with (first | ((with_reducible refine gate_dst (N := 23) rfl ?_); refine Sto.lit (its := _) (Sto.at HG) [0, 5] [.int .i64 0, .int .i64 5] ?hr (by simp) ?_; (case hr => first | (go_simp; done) | (go_simp; rfl)); intro v23 w23 h4; replace HG := h4; clear h4; obtain ⟨A23, k23, rfl⟩ := Kd.qX (HG.out.rowAt 0)) | (go_at_call 94; refine (Sto.next (c := c) (w0 := w0) (W := w) (its := _) (Sto.at HG) _).mono ?_; rintro e w25 ⟨r, rfl, hrr, h1⟩; replace HG := h1; clear h1) | ((with_reducible refine gate_dst (N := 27) rfl ?_); refine Sto.lit (its := _) (Sto.at HG) [wrap64 (4096 + r), -4096] [.int .i64 (wrap64 (4096 + r)), .int .i64 (-4096)] ?hr (by simp) ?_; (case hr => first | (go_simp; done) | (go_simp; rfl)); intro v27 w27 h4; replace HG := h4; clear h4; obtain ⟨A27, k27, rfl⟩ := Kd.qX (HG.out.rowAt 0)) | ((with_reducible refine gate_store (t := 32) (p := 2) rfl ?_); refine Sto.store (its := _) 5 (Sto.at HG) rfl HS.out 32 (.tmp 2) (.tmp 31) _ [_, _, _] _ rfl rfl rfl rfl (by kernel_rfl) (by simp [putL]) (by intro q hq; simp at hq; rcases hq with rfl | rfl | rfl <;> rfl) ?_; intro w31 h4; replace HG := h4; clear h4))
  all_goals (refine bodyPost_ret (rC gb2 32 #[.slice A23 2 k23, .slice A27 2 k27, .int .i64 (wrap64 (4096 + r))] (HG.out.boxAt 5) Try.underlying32) rfl ?_; refine ⟨_, _, ⟨_, rfl⟩, [0, 5], [_, -4096], ?_, ⟨(Sto.two_of HG.out 1 0 (by decide))⟩⟩; exact ⟨by simp⟩)
 rcases hk with rfl | hk
 ·go_wp2_with (first | (go_at_call 94; refine (Sto.next (c := c) (w0 := w0) (W := w) (its := _) (Sto.at HG) _).mono ?_; rintro e w35 ⟨r, rfl, hrr, h1⟩; replace HG := h1; clear h1) | ((with_reducible refine gate_dst (N := 37) rfl ?_); refine Sto.lit (its := _) (Sto.at HG) [64, wrap64 (64 + r)] [.int .i64 64, .int .i64 (wrap64 (64 + r))] ?hr (by simp) ?_; (case hr => first | (go_simp; done) | (go_simp; rfl)); intro v37 w37 h4; replace HG := h4; clear h4; obtain ⟨A37, k37, rfl⟩ := Kd.qX (HG.out.rowAt 0)) | ((with_reducible refine gate_dst (N := 38) rfl ?_); refine Sto.lit (its := _) (Sto.at HG) [64, 1] [.int .i64 64, .int .i64 1] ?hr (by simp) ?_; (case hr => first | (go_simp; done) | (go_simp; rfl)); intro v38 w38 h4; replace HG := h4; clear h4; obtain ⟨A38, k38, rfl⟩ := Kd.qX (HG.out.rowAt 0)) | ((with_reducible refine gate_store (t := 32) (p := 2) rfl ?_); refine Sto.store (its := _) 5 (Sto.at HG) rfl HS.out 32 (.tmp 2) (.tmp 39) _ [_, _, _] _ rfl rfl rfl rfl (by kernel_rfl) (by simp [putL]) (by intro q hq; simp at hq; rcases hq with rfl | rfl | rfl <;> rfl) ?_; intro w39 h4; replace HG := h4; clear h4))
  all_goals (refine bodyPost_ret (rC gb2 32 #[.slice A37 2 k37, .slice A38 2 k38, .int .i64 0] (HG.out.boxAt 5) Try.underlying32) rfl ?_; refine ⟨_, _, ⟨_, rfl⟩, [64, _], [64, 1], ?_, ⟨(Sto.two_of HG.out 1 0 (by decide))⟩⟩; exact ⟨by simp⟩)
 rcases hk with rfl | hk
 ·go_wp2_with (first | ((with_reducible refine gate_dst (N := 42) rfl ?_); refine Sto.lit (its := _) (Sto.at HG) [4096, 4096, 0, 4096] [.int .i64 4096, .int .i64 4096, .int .i64 0, .int .i64 4096] ?hr (by simp) ?_; (case hr => first | (go_simp; done) | (go_simp; rfl)); intro v42 w42 h4; replace HG := h4; clear h4; obtain ⟨A42, k42, rfl⟩ := Kd.qX (HG.out.rowAt 0)) | ((with_reducible refine gate_dst (N := 43) rfl ?_); refine Sto.lit (its := _) (Sto.at HG) [1, 1, 1, 1] [.int .i64 1, .int .i64 1, .int .i64 1, .int .i64 1] ?hr (by simp) ?_; (case hr => first | (go_simp; done) | (go_simp; rfl)); intro v43 w43 h4; replace HG := h4; clear h4; obtain ⟨A43, k43, rfl⟩ := Kd.qX (HG.out.rowAt 0)) | ((with_reducible refine gate_store (t := 32) (p := 2) rfl ?_); refine Sto.store (its := _) 5 (Sto.at HG) rfl HS.out 32 (.tmp 2) (.tmp 44) _ [_, _, _] _ rfl rfl rfl rfl (by kernel_rfl) (by simp [putL]) (by intro q hq; simp at hq; rcases hq with rfl | rfl | rfl <;> rfl) ?_; intro w44 h4; replace HG := h4; clear h4))
  all_goals (refine bodyPost_ret (rC gb2 32 #[.slice A42 4 k42, .slice A43 4 k43, .int .i64 0] (HG.out.boxAt 5) Try.underlying32) rfl ?_; refine ⟨_, _, ⟨_, rfl⟩, [4096, 4096, 0, 4096], [1, 1, 1, 1], ?_, ⟨(Sto.two_of HG.out 1 0 (by decide))⟩⟩; exact ⟨by simp⟩)
 rcases hk with rfl | hk
 ·go_wp2_with (first | ((with_reducible refine gate_builtin (b := .append) (xs := #[.tmp 48, .tmp 49]) rfl ?_); at_builtin; refine Sto.append (c := c) (w0 := w0) (W := w) (its := _) (xs := xs) 1 (.tmp 48) (.tmp 49) (Sto.at HG) rfl (Nat.le_refl _) HS.out (by have := hxy.out; omega) (HG.out.on.size) ?_; intro v50 w50 h4; generalize hLe : xs ++ [1] = L at h4; have hLL : L.length = xs.length + 1 := (by rw [← hLe]; simp); replace hLL := qS.mk hLL; clear hLe; replace HG := h4; clear h4; obtain ⟨A50, k50, rfl⟩ := Kd.qX (HG.out.rowAt 1)) | ((with_reducible refine gate_store (t := 27) (p := 51) rfl ?_); refine Sto.store (its := _) 0 (Sto.at HG) rfl HS.out 27 (.tmp 51) (.tmp 50) _ [_] _ rfl rfl rfl rfl (by kernel_rfl) (by simp [putL]) (by intro q hq; simp at hq; subst hq; rfl) ?_; intro w51 h4; replace HG := h4; clear h4; (try clear hczgb30); have hczgb30 : w51.cell? ⟨gb3, 0, none⟩ = some (.slice A50 L.length k50) := (qJ (HG.out.boxAt 0) 0).trans rfl; (try clear hczgb31); have hczgb31 : w51.cell? ⟨gb3, 1, none⟩ = some (.slice A1 ys.length k1) := (qJ (HG.out.boxAt 0) 1).trans rfl; (try clear hczgb32); have hczgb32 : w51.cell? ⟨gb3, 2, none⟩ = some (.int .i64 p) := (qJ (HG.out.boxAt 0) 2).trans rfl) | ((with_reducible refine gate_store (t := 32) (p := 2) rfl ?_); refine Sto.store (its := _) 3 (Sto.at HG) rfl HS.out 32 (.tmp 2) (.tmp 117) _ [_, _, _] _ rfl rfl rfl rfl (by kernel_rfl) (by simp [putL]) (by intro q hq; simp at hq; rcases hq with rfl | rfl | rfl <;> rfl) ?_; intro w117 h4; replace HG := h4; clear h4))
  all_goals (refine bodyPost_ret (rC gb2 32 #[.slice A50 L.length k50, .slice A1 ys.length k1, .int .i64 p] (HG.out.boxAt 3) Try.underlying32) rfl ?_; refine ⟨_, _, ⟨_, rfl⟩, L, ys, ?_, ⟨(Sto.two_of HG.out 1 2 (by decide))⟩⟩; exact ⟨by have := hLL.out; have := hxy.out; omega⟩)
 rcases hk with rfl | hk
 ·go_wp2_with (first | ((with_reducible refine gate_builtin (b := .append) (xs := #[.tmp 55, .tmp 56]) rfl ?_); at_builtin; refine Sto.append (c := c) (w0 := w0) (W := w) (its := _) (xs := ys) 2 (.tmp 55) (.tmp 56) (Sto.at HG) rfl (Nat.le_refl _) HS.out (by have := hxy.out; omega) (HG.out.on.size) ?_; intro v57 w57 h4; generalize hLe : ys ++ [1] = L at h4; have hLL : L.length = ys.length + 1 := (by rw [← hLe]; simp); replace hLL := qS.mk hLL; clear hLe; replace HG := h4; clear h4; obtain ⟨A57, k57, rfl⟩ := Kd.qX (HG.out.rowAt 2)) | ((with_reducible refine gate_store (t := 27) (p := 58) rfl ?_); refine Sto.store (its := _) 0 (Sto.at HG) rfl HS.out 27 (.tmp 58) (.tmp 57) _ [_] _ rfl rfl rfl rfl (by kernel_rfl) (by simp [putL]) (by intro q hq; simp at hq; subst hq; rfl) ?_; intro w58 h4; replace HG := h4; clear h4; (try clear hczgb30); have hczgb30 : w58.cell? ⟨gb3, 0, none⟩ = some (.slice A0 xs.length k0) := (qJ (HG.out.boxAt 0) 0).trans rfl; (try clear hczgb31); have hczgb31 : w58.cell? ⟨gb3, 1, none⟩ = some (.slice A57 L.length k57) := (qJ (HG.out.boxAt 0) 1).trans rfl; (try clear hczgb32); have hczgb32 : w58.cell? ⟨gb3, 2, none⟩ = some (.int .i64 p) := (qJ (HG.out.boxAt 0) 2).trans rfl) | ((with_reducible refine gate_store (t := 32) (p := 2) rfl ?_); refine Sto.store (its := _) 3 (Sto.at HG) rfl HS.out 32 (.tmp 2) (.tmp 117) _ [_, _, _] _ rfl rfl rfl rfl (by kernel_rfl) (by simp [putL]) (by intro q hq; simp at hq; rcases hq with rfl | rfl | rfl <;> rfl) ?_; intro w117 h4; replace HG := h4; clear h4))
  all_goals (refine bodyPost_ret (rC gb2 32 #[.slice A0 xs.length k0, .slice A57 L.length k57, .int .i64 p] (HG.out.boxAt 3) Try.underlying32) rfl ?_; refine ⟨_, _, ⟨_, rfl⟩, xs, L, ?_, ⟨(Sto.two_of HG.out 1 2 (by decide))⟩⟩; exact ⟨by have := hLL.out; have := hxy.out; omega⟩)
 rcases hk with rfl | hk
 ·go_wp2_with (first | ((with_reducible refine gate_store (t := 2) (p := 61) rfl ?_); refine Sto.store (its := _) 0 (Sto.at HG) rfl HS.out 2 (.tmp 61) (.const (.int .i64 (-1))) _ [_] _ rfl rfl rfl rfl (by kernel_rfl) (by simp [putL]) (by intro q hq; simp at hq; subst hq; rfl) ?_; intro w61 h4; replace HG := h4; clear h4; (try clear hczgb30); have hczgb30 : w61.cell? ⟨gb3, 0, none⟩ = some (.slice A0 xs.length k0) := (qJ (HG.out.boxAt 0) 0).trans rfl; (try clear hczgb31); have hczgb31 : w61.cell? ⟨gb3, 1, none⟩ = some (.slice A1 ys.length k1) := (qJ (HG.out.boxAt 0) 1).trans rfl; (try clear hczgb32); have hczgb32 : w61.cell? ⟨gb3, 2, none⟩ = some (.int .i64 (-1)) := (qJ (HG.out.boxAt 0) 2).trans rfl) | ((with_reducible refine gate_store (t := 32) (p := 2) rfl ?_); refine Sto.store (its := _) 3 (Sto.at HG) rfl HS.out 32 (.tmp 2) (.tmp 117) _ [_, _, _] _ rfl rfl rfl rfl (by kernel_rfl) (by simp [putL]) (by intro q hq; simp at hq; rcases hq with rfl | rfl | rfl <;> rfl) ?_; intro w117 h4; replace HG := h4; clear h4))
  all_goals (refine bodyPost_ret (rC gb2 32 #[.slice A0 xs.length k0, .slice A1 ys.length k1, .int .i64 (-1)] (HG.out.boxAt 3) Try.underlying32) rfl ?_; refine ⟨_, _, ⟨_, rfl⟩, xs, ys, ?_, ⟨(Sto.two_of HG.out 1 2 (by decide))⟩⟩; exact ⟨by have := hxy.out; omega⟩)
 rcases hk with rfl | hk
 ·go_wp2_with (first | (go_at_call 94; refine (Sto.next (c := c) (w0 := w0) (W := w) (its := _) (Sto.at HG) _).mono ?_; rintro e w65 ⟨r, rfl, hrr, h1⟩; replace HG := h1; clear h1) | ((with_reducible refine gate_store (t := 2) (p := 67) rfl ?_); refine Sto.store (its := _) 0 (Sto.at HG) rfl HS.out 2 (.tmp 67) (.tmp 66) _ [_] _ rfl rfl rfl rfl (by kernel_rfl) (by simp [putL]) (by intro q hq; simp at hq; subst hq; rfl) ?_; intro w67 h4; replace HG := h4; clear h4; (try clear hczgb30); have hczgb30 : w67.cell? ⟨gb3, 0, none⟩ = some (.slice A0 xs.length k0) := (qJ (HG.out.boxAt 0) 0).trans rfl; (try clear hczgb31); have hczgb31 : w67.cell? ⟨gb3, 1, none⟩ = some (.slice A1 ys.length k1) := (qJ (HG.out.boxAt 0) 1).trans rfl; (try clear hczgb32); have hczgb32 : w67.cell? ⟨gb3, 2, none⟩ = some (.int .i64 (wrap64 (4096 - r))) := (qJ (HG.out.boxAt 0) 2).trans rfl) | ((with_reducible refine gate_store (t := 32) (p := 2) rfl ?_); refine Sto.store (its := _) 3 (Sto.at HG) rfl HS.out 32 (.tmp 2) (.tmp 117) _ [_, _, _] _ rfl rfl rfl rfl (by kernel_rfl) (by simp [putL]) (by intro q hq; simp at hq; rcases hq with rfl | rfl | rfl <;> rfl) ?_; intro w117 h4; replace HG := h4; clear h4))
  all_goals (refine bodyPost_ret (rC gb2 32 #[.slice A0 xs.length k0, .slice A1 ys.length k1, .int .i64 (wrap64 (4096 - r))] (HG.out.boxAt 3) Try.underlying32) rfl ?_; refine ⟨_, _, ⟨_, rfl⟩, xs, ys, ?_, ⟨(Sto.two_of HG.out 1 2 (by decide))⟩⟩; exact ⟨by have := hxy.out; omega⟩)
 have hD : 0 < (xs.length : Int) ∨ ¬ 0 < (xs.length : Int) := by omega
 rcases hD with hd | hd
 ·have hd1 : decide (0 < (xs.length : Int)) = true := decide_eq_true hd
  rcases hk with rfl | hk
  ·go_upto_if 82 with (first | (go_at_call 94; refine (Sto.next (c := c) (w0 := w0) (W := w) (its := _) (Sto.at HG) _).mono ?_; rintro e w80 ⟨i, rfl, hri, h1⟩; replace HG := h1; clear h1))
   (try simp only [Act.put, List.setIfInBounds_toArray, List.set_cons_zero, List.set_cons_succ])
   ·clear hczgb30 hczgb31 hczgb32
    have hi0 : 0 ≤ i ∧ i < (ys.length : Int) := by have := hri.out; have := hxy.out; omega
    obtain ⟨gr, cr, er, -⟩ := Kd.R_form (HG.out.rowAt 2) (by omega)
    cases er
    have pa := eq_true hi0.1
    have qa := eq_true hi0.2
    have hx := (Kd.R_celln 0 (HG.out.rowAt 2) i hi0.1 hi0.2).1
    replace hi0 := qS.mk hi0
    obtain ⟨hcz0, hcz1, hcz2, -⟩ := bx3 (qS.mk (HG.out.boxAt 0))
    go_wp2
    go_still_tail 10, (by kernel_rfl)
    change wpList _ _ _ _ _ w80.drew
    replace HG := qS.mk HG.out.drew
    clear hcz0 hcz1 hcz2 hx
    generalize w80.drew = w81 at HG ⊢
    go_wp2_with (first | ((with_reducible refine gate_store (t := 2) (p := 92) rfl ?_); refine Sto.putn (its := _) 2 ys.length (xs := ys) rfl (.tmp 92) (.tmp 91) i _ (Sto.at HG) (Nat.le_refl _) HS.out (HG.out.on.size) (by have := hri.out; omega) (by have := hri.out; have := hxy.out; omega) ?_; intro w92 h4; replace HG := h4; clear h4; obtain ⟨hcz0, hcz1, hcz2, -⟩ := bx3 (qS.mk (HG.out.boxAt 0))) | ((with_reducible refine gate_store (t := 32) (p := 2) rfl ?_); refine Sto.store (its := _) 3 (Sto.at HG) rfl HS.out 32 (.tmp 2) (.tmp 117) _ [_, _, _] _ rfl rfl rfl rfl (by kernel_rfl) (by simp [putL]) (by intro q hq; simp at hq; rcases hq with rfl | rfl | rfl <;> rfl) ?_; intro w117 h4; replace HG := h4; clear h4))
    all_goals (refine bodyPost_ret (rC gb2 32 #[.slice A0 xs.length k0, .slice (some ⟨gr, 0, none⟩) ys.length k1, .int .i64 p] (HG.out.boxAt 3) Try.underlying32) rfl ?_; refine ⟨_, _, ⟨_, rfl⟩, xs, _, ?_, ⟨(Sto.two_of HG.out 1 2 (by decide))⟩⟩; exact ⟨by have := hxy.out; first | omega | (simp; omega)⟩)
  rcases hk with rfl | hk
  ·go_upto_if 82 with (first | (go_at_call 94; refine (Sto.next (c := c) (w0 := w0) (W := w) (its := _) (Sto.at HG) _).mono ?_; rintro e w80 ⟨i, rfl, hri, h1⟩; replace HG := h1; clear h1))
   (try simp only [Act.put, List.setIfInBounds_toArray, List.set_cons_zero, List.set_cons_succ])
   ·clear hczgb30 hczgb31 hczgb32
    have hi0 : 0 ≤ i ∧ i < (xs.length : Int) := by have := hri.out; have := hxy.out; omega
    obtain ⟨gr, cr, er, -⟩ := Kd.R_form (HG.out.rowAt 1) (by omega)
    cases er
    have pa := eq_true hi0.1
    have qa := eq_true hi0.2
    have hx := (Kd.R_celln 0 (HG.out.rowAt 1) i hi0.1 hi0.2).1
    replace hi0 := qS.mk hi0
    obtain ⟨hcz0, hcz1, hcz2, -⟩ := bx3 (qS.mk (HG.out.boxAt 0))
    go_wp2_with (first | ((with_reducible refine gate_store (t := 2) (p := 98) rfl ?_); refine Sto.putn (its := _) 1 xs.length (xs := xs) rfl (.tmp 98) (.const (.int .i64 (-1))) i (-1) (Sto.at HG) (Nat.le_refl _) HS.out (HG.out.on.size) (by have := hri.out; omega) (by have := hri.out; have := hxy.out; omega) ?_; intro w98 h4; replace HG := h4; clear h4 hcz0 hcz1 hcz2 hx; obtain ⟨hcz0, hcz1, hcz2, -⟩ := bx3 (qS.mk (HG.out.boxAt 0))) | ((with_reducible refine gate_store (t := 32) (p := 2) rfl ?_); refine Sto.store (its := _) 3 (Sto.at HG) rfl HS.out 32 (.tmp 2) (.tmp 117) _ [_, _, _] _ rfl rfl rfl rfl (by kernel_rfl) (by simp [putL]) (by intro q hq; simp at hq; rcases hq with rfl | rfl | rfl <;> rfl) ?_; intro w117 h4; replace HG := h4; clear h4))
    all_goals (refine bodyPost_ret (rC gb2 32 #[.slice (some ⟨gr, 0, none⟩) xs.length k0, .slice A1 ys.length k1, .int .i64 p] (HG.out.boxAt 3) Try.underlying32) rfl ?_; refine ⟨_, _, ⟨_, rfl⟩, _, ys, ?_, ⟨(Sto.two_of HG.out 1 2 (by decide))⟩⟩; exact ⟨by have := hxy.out; first | omega | (simp; omega)⟩)
  rcases hk with rfl | hk
  ·go_upto_if 82 with (first | (go_at_call 94; refine (Sto.next (c := c) (w0 := w0) (W := w) (its := _) (Sto.at HG) _).mono ?_; rintro e w80 ⟨i, rfl, hri, h1⟩; replace HG := h1; clear h1))
   (try simp only [Act.put, List.setIfInBounds_toArray, List.set_cons_zero, List.set_cons_succ])
   ·clear hczgb30 hczgb31 hczgb32
    have hi0 : 0 ≤ i ∧ i < (ys.length : Int) := by have := hri.out; have := hxy.out; omega
    obtain ⟨gr, cr, er, -⟩ := Kd.R_form (HG.out.rowAt 2) (by omega)
    cases er
    have pa := eq_true hi0.1
    have qa := eq_true hi0.2
    have hx := (Kd.R_celln 0 (HG.out.rowAt 2) i hi0.1 hi0.2).1
    replace hi0 := qS.mk hi0
    obtain ⟨hcz0, hcz1, hcz2, -⟩ := bx3 (qS.mk (HG.out.boxAt 0))
    go_wp2
    refine start_ (n := 8) (S := fun w' => w'.cell? ⟨gb3, 1, none⟩ = some (.slice (some ⟨gr, 0, none⟩) ys.length k1)) (ds := [7]) (bs 8 0) (by kernel_rfl) rfl rfl ((qJ (HG.out.drew.boxAt 0) 1).trans rfl) (fun hHeld => ?_); refine with_tabW q27t q27b (fun HT_ HW_ => ?_)
    replace HG := qS.mk HG.out.drew
    clear hcz0 hcz1 hcz2 hx
    generalize w80.drew = w81 at HG hHeld ⊢
    refine pS 0 101 (bs 8 1) HT_ ?_
    refine pS 2 103 (bs 8 5) HT_ ?_
    refine pS 3 104 (bs 8 13) HT_ ?_
    refine tS 1 102 (bs 8 15) HT_ HW_ hHeld ?_
    refine one_ (i := 4) (N := some 105) (bs 8 31) rfl rfl (one_of HT_.out (by kernel_rfl)) (by decide) (fun K hK => ?_)
    refine goes_ Try.func94 (by kernel_rfl) rfl #[.pointer (some ⟨g, 0, none⟩), .int .i64 6000] (by rfl) rfl rfl (by (try simp only [List.map_toArray, List.map_cons, List.map_nil]); first | done | rfl) ?_
    refine (Sto.next (c := c) (w0 := w0) (W := w) (its := _) HG.out 6000).mono ?_
    rintro e w82 ⟨r, rfl, hr, h1⟩
    replace HG := h1
    clear h1
    refine ⟨_, rfl, ?_⟩
    refine hK.out _ _ ((qJ (HG.out.boxAt 0) 1).trans rfl) (fun hHeld => ?_)
    clear hK K
    refine norm_ (a' := ?_) ?_ ?_
    rotate_left
    ·show Act.put _ (some 105) _ = _
     simp only [Act.put, List.setIfInBounds_toArray, List.set_cons_zero, List.set_cons_succ, i64_w, i32_w]
     rfl
    refine pS 5 106 (bs 8 63) HT_ ?_
    refine pS 6 107 (bs 8 127) HT_ ?_
    refine last_ (i := 7) (N := none) (bs 8 255) rfl rfl (one_of HT_.out (by kernel_rfl)) (by decide) (fun K hK => ?_)
    have hx := (Kd.R_celln 0 (HG.out.rowAt 2) i hi0.out.1 hi0.out.2)
    obtain ⟨hx, hf⟩ := hx
    refine skip_ (w1 := ?_) (by rfl) rfl ?_ ?_
    rotate_left
    ·go_simp
     rfl
    refine hK.out _ _ ?_
    clear hK K
    refine done_ (done_of HT_.out (by kernel_rfl)) ?_
    replace HG := qS.mk (Sto.putW (its := _) 2 i (wrap64 (r - 3000)) HG.out (Nat.le_refl _) HS.out rfl)
    generalize World.setCell _ _ _ = w83 at HG ⊢
    obtain ⟨hcz0, hcz1, hcz2, -⟩ := bx3 (qS.mk (HG.out.boxAt 0))
    go_wp2_with (first | ((with_reducible refine gate_store (t := 32) (p := 2) rfl ?_); refine Sto.store (its := _) 3 (Sto.at HG) rfl HS.out 32 (.tmp 2) (.tmp 117) _ [_, _, _] _ rfl rfl rfl rfl (by kernel_rfl) (by simp [putL]) (by intro q hq; simp at hq; rcases hq with rfl | rfl | rfl <;> rfl) ?_; intro w117 h4; replace HG := h4; clear h4))
    all_goals (refine bodyPost_ret (rC gb2 32 #[.slice A0 xs.length k0, .slice (some ⟨gr, 0, none⟩) ys.length k1, .int .i64 p] (HG.out.boxAt 3) Try.underlying32) rfl ?_; refine ⟨_, _, ⟨_, rfl⟩, xs, (ys.set i.toNat (wrap64 (r - 3000))), ?_, ⟨(Sto.two_of HG.out 1 2 (by decide))⟩⟩; exact ⟨by have := hxy.out; first | omega | (simp; omega)⟩)
  rcases hk with rfl | hk
  ·go_upto_if 82 with (first | (go_at_call 94; refine (Sto.next (c := c) (w0 := w0) (W := w) (its := _) (Sto.at HG) _).mono ?_; rintro e w80 ⟨i, rfl, hri, h1⟩; replace HG := h1; clear h1))
   (try simp only [Act.put, List.setIfInBounds_toArray, List.set_cons_zero, List.set_cons_succ])
   ·clear hczgb30 hczgb31 hczgb32
    have hi0 : 0 ≤ i ∧ i < (xs.length : Int) := by have := hri.out; have := hxy.out; omega
    obtain ⟨gr, cr, er, -⟩ := Kd.R_form (HG.out.rowAt 1) (by omega)
    cases er
    have pa := eq_true hi0.1
    have qa := eq_true hi0.2
    have hx := (Kd.R_celln 0 (HG.out.rowAt 1) i hi0.1 hi0.2).1
    replace hi0 := qS.mk hi0
    obtain ⟨hcz0, hcz1, hcz2, -⟩ := bx3 (qS.mk (HG.out.boxAt 0))
    go_wp2
    refine start_ (n := 8) (S := fun w' => w'.cell? ⟨gb3, 0, none⟩ = some (.slice (some ⟨gr, 0, none⟩) xs.length k0)) (ds := [7]) (bs 8 0) (by kernel_rfl) rfl rfl ((qJ (HG.out.drew.boxAt 0) 0).trans rfl) (fun hHeld => ?_); refine with_tabW q29t q27b (fun HT_ HW_ => ?_)
    replace HG := qS.mk HG.out.drew
    clear hcz0 hcz1 hcz2 hx
    generalize w80.drew = w81 at HG hHeld ⊢
    refine pS 0 110 (bs 8 1) HT_ ?_
    refine pS 2 112 (bs 8 5) HT_ ?_
    refine pS 3 113 (bs 8 13) HT_ ?_
    refine tS 1 111 (bs 8 15) HT_ HW_ hHeld ?_
    refine one_ (i := 4) (N := some 114) (bs 8 31) rfl rfl (one_of HT_.out (by kernel_rfl)) (by decide) (fun K hK => ?_)
    refine goes_ Try.func94 (by kernel_rfl) rfl #[.pointer (some ⟨g, 0, none⟩), .int .i64 2] (by rfl) rfl rfl (by (try simp only [List.map_toArray, List.map_cons, List.map_nil]); first | done | rfl) ?_
    refine (Sto.next (c := c) (w0 := w0) (W := w) (its := _) HG.out 2).mono ?_
    rintro e w82 ⟨r, rfl, hr, h1⟩
    replace HG := h1
    clear h1
    refine ⟨_, rfl, ?_⟩
    refine hK.out _ _ ((qJ (HG.out.boxAt 0) 0).trans rfl) (fun hHeld => ?_)
    clear hK K
    refine norm_ (a' := ?_) ?_ ?_
    rotate_left
    ·show Act.put _ (some 114) _ = _
     simp only [Act.put, List.setIfInBounds_toArray, List.set_cons_zero, List.set_cons_succ, i64_w, i32_w]
     rfl
    refine pS 5 115 (bs 8 63) HT_ ?_
    refine pS 6 116 (bs 8 127) HT_ ?_
    refine last_ (i := 7) (N := none) (bs 8 255) rfl rfl (one_of HT_.out (by kernel_rfl)) (by decide) (fun K hK => ?_)
    have hx := (Kd.R_celln 0 (HG.out.rowAt 1) i hi0.out.1 hi0.out.2)
    obtain ⟨hx, hf⟩ := hx
    refine skip_ (w1 := ?_) (by rfl) rfl ?_ ?_
    rotate_left
    ·go_simp
     rfl
    refine hK.out _ _ ?_
    clear hK K
    refine done_ (done_of HT_.out (by kernel_rfl)) ?_
    replace HG := qS.mk (Sto.putW (its := _) 1 i (wrap64 (4096 + r)) HG.out (Nat.le_refl _) HS.out rfl)
    generalize World.setCell _ _ _ = w83 at HG ⊢
    obtain ⟨hcz0, hcz1, hcz2, -⟩ := bx3 (qS.mk (HG.out.boxAt 0))
    go_wp2_with (first | ((with_reducible refine gate_store (t := 32) (p := 2) rfl ?_); refine Sto.store (its := _) 3 (Sto.at HG) rfl HS.out 32 (.tmp 2) (.tmp 117) _ [_, _, _] _ rfl rfl rfl rfl (by kernel_rfl) (by simp [putL]) (by intro q hq; simp at hq; rcases hq with rfl | rfl | rfl <;> rfl) ?_; intro w117 h4; replace HG := h4; clear h4))
    all_goals (refine bodyPost_ret (rC gb2 32 #[.slice (some ⟨gr, 0, none⟩) xs.length k0, .slice A1 ys.length k1, .int .i64 p] (HG.out.boxAt 3) Try.underlying32) rfl ?_; refine ⟨_, _, ⟨_, rfl⟩, (xs.set i.toNat (wrap64 (4096 + r))), ys, ?_, ⟨(Sto.two_of HG.out 1 2 (by decide))⟩⟩; exact ⟨by have := hxy.out; first | omega | (simp; omega)⟩)
  ·have e0 : ∀ j : Int, j < 12 → (k == j) = false := fun j hj => beq_eq_false_iff_ne.mpr (by omega)
   have ek0 := e0 0 (by decide); have ek1 := e0 1 (by decide); have ek2 := e0 2 (by decide); have ek3 := e0 3 (by decide); have ek4 := e0 4 (by decide); have ek5 := e0 5 (by decide); have ek6 := e0 6 (by decide); have ek7 := e0 7 (by decide)
   clear e0
   have k8 : decide (7 < k) = true := decide_eq_true (by omega)
   have k9 : decide (k < 12) = false := decide_eq_false (by omega)
   replace hk := qS.mk hk
   go_wp2_with (first | ((with_reducible refine gate_store (t := 32) (p := 2) rfl ?_); refine Sto.store (its := _) 3 (Sto.at HG) rfl HS.out 32 (.tmp 2) (.tmp 117) _ [_, _, _] _ rfl rfl rfl rfl (by kernel_rfl) (by simp [putL]) (by intro q hq; simp at hq; rcases hq with rfl | rfl | rfl <;> rfl) ?_; intro w117 h4; replace HG := h4; clear h4))
   all_goals (refine bodyPost_ret (rC gb2 32 #[.slice A0 xs.length k0, .slice A1 ys.length k1, .int .i64 p] (HG.out.boxAt 3) Try.underlying32) rfl ?_; refine ⟨_, _, ⟨_, rfl⟩, xs, ys, ?_, ⟨(Sto.two_of HG.out 1 2 (by decide))⟩⟩; exact ⟨by have := hxy.out; omega⟩)
 ·have hd1 : decide (0 < (xs.length : Int)) = false := decide_eq_false hd
  have e0 : ∀ j : Int, j < 8 → (k == j) = false := fun j hj => beq_eq_false_iff_ne.mpr (by omega)
  have ek0 := e0 0 (by decide); have ek1 := e0 1 (by decide); have ek2 := e0 2 (by decide); have ek3 := e0 3 (by decide); have ek4 := e0 4 (by decide); have ek5 := e0 5 (by decide); have ek6 := e0 6 (by decide); have ek7 := e0 7 (by decide)
  clear e0
  replace hk := qS.mk hk
  go_wp2_with (first | ((with_reducible refine gate_store (t := 32) (p := 2) rfl ?_); refine Sto.store (its := _) 3 (Sto.at HG) rfl HS.out 32 (.tmp 2) (.tmp 117) _ [_, _, _] _ rfl rfl rfl rfl (by kernel_rfl) (by simp [putL]) (by intro q hq; simp at hq; rcases hq with rfl | rfl | rfl <;> rfl) ?_; intro w117 h4; replace HG := h4; clear h4))
  all_goals (refine bodyPost_ret (rC gb2 32 #[.slice A0 xs.length k0, .slice A1 ys.length k1, .int .i64 p] (HG.out.boxAt 3) Try.underlying32) rfl ?_; refine ⟨_, _, ⟨_, rfl⟩, xs, ys, ?_, ⟨(Sto.two_of HG.out 1 2 (by decide))⟩⟩; exact ⟨by have := hxy.out; omega⟩)
end
end Go.Proofs.Ytpmdgmnpkdoamaa.Dv
