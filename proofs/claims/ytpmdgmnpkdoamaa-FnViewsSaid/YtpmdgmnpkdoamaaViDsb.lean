/- Proved here: what spec.DrawBroadcast answers: some lists and numbers, in memory of their own. Conditions: the bytes handed in can be read. -/
import Derived.Test.YtpmdgmnpkdoamaaViDst
namespace Go.Proofs.Ytpmdgmnpkdoamaa.Dv
open Go.RowKit Go.Proofs.YtpmdgmnpkdoamaaW.PrintWords Go.Proofs.YtpmdgmnpkdoamaaW.PrintLast Go.Proofs.YtpmdgmnpkdoamaaW.PrintMore
open Src
set_option linter.unusedVariables false
set_option linter.unusedSimpArgs false
theorem cut1 {P : Program} {t e : TypeId} {i : TypeInfo} (ht : P.underlying t = some (.slice e)) (hi : P.info? e = some i) (hsz : i.size = 1) (A : Option Addr) (n c : Nat) (hm : 1 ≤ n) (W : World) :
  (Instr.slice t (.slice A n c) (some (.int .i64 1)) none none).run P W = .ok (.slice (if c = 1 then A else A.map (·.add 1)) (n - 1) (c - 1)) W := by
 have hel : P.elem t = e := by simp [Program.elem, ht]
 have hu : P.underlying t = some (.slice (P.elem t)) := by rw [hel]; exact ht
 rw [run_slice_l W t A n c hu .i64 (1 : Int) (by decide) (by omega), hel]
 simp [sizeOf, typeInfo, hi, hsz, sliced, Result.andThen]
theorem CF.drop1 {w w' : World} {A : Option Addr} {k : Nat} {xs : List Int} (h0 : 1 ≤ xs.length) (h : CF w w' A k xs) : CF w w' (if k = 1 then A else A.map (·.add 1)) (k - 1) (xs.drop 1) := by
 obtain ⟨h1, h2, h3⟩ := h
 have h4 := (Kd.reads_of_C (enc := Value.int .i64) (d := (0 : Int)) (h1 := fun _ => rfl) h2).drop_ 1 h0 h1
 refine ⟨by simp; omega, ?_, fun hp => ?_⟩
 ·have e : (xs.drop 1).length = xs.length - 1 := by simp
  rw [e]; exact Kd.C_of_reads h4
 ·obtain ⟨a, rfl, hb⟩ := h3 (by omega)
  by_cases hk : k = 1
  ·simp at hp; omega
  ·rw [if_neg hk]; exact ⟨_, rfl, hb⟩
section
variable {c g : Nat} {w0 W w : World} {its : List It} {ops : Array Oper} {o : Oper} {rest : List Oper} {a : Act} {Q : Exit → Act → World → Prop}
theorem Sto.appendRowN (n m len : Nat) {b b' cap : Nat} {A : Option Addr} {v : Value} {xs ys : List Int} (hlen : ys.length = len) (s x : Operand) (h : Sto c g w0 W w its) (hW : W.heap.size ≤ b) (h0 : w0.heap.size ≤ W.heap.size) (hb : b ≤ w.heap.size) (hl : xs.length + len < 1000000)
  (k : ∀ v1 w1, qS (Sto c g w0 W w1 (its.set n (.row b v1 (xs ++ ys)))) → wpList Try.prog ops Q rest (a.put o.dst v1) w1) (hn : its[n]? = some (.row b v xs) := by rfl) (hm : its[m]? = some (.row b' (.slice A len cap) ys) := by rfl)
  (hs : a.eval s = v := by rfl) (hx : a.eval x = .slice A len cap := by rfl) (hgd : o.guard = none := by rfl) (ho : o.op = .call { callee := .builtin .append, args := #[s, x], argTypes := #[27, 27] } := by rfl) : wpList Try.prog ops Q (o :: rest) a w := by
 subst hlen
 exact Sto.appendRow n m s x h hn hm hW h0 hb hl k hs hx hgd ho
end
section
set_option maxHeartbeats 8000000 in
set_option maxRecDepth 100000 in
theorem drawBroadcast_run (A : Option Addr) (c0 : Nat) (l0 : List Int) (w : World) (hr0 : Kd.C (Kd.int .u8) w A l0.length l0) (hc0 : l0.length ≤ c0) (hl : ∀ x ∈ l0, (Lit.int .u8 x).wf = true) :
  Calls Try.prog 73 #[.slice A l0.length c0] w fun e w' => ∃ (A0 A1 A2 : Option Addr) (k0 k1 k2 : Nat) (p : Int) (xs ys zs : List Int), e = .returned (.tuple #[.agg #[.slice A0 xs.length k0, .slice A1 ys.length k1, .int .i64 p], .slice A2 zs.length k2]) ∧ qS (xs.length ≤ 5 ∧ ys.length ≤ 5 ∧ zs.length ≤ 8) ∧ qS (CF w w' A0 k0 xs ∧ CF w w' A1 k1 ys ∧ CF w w' A2 k2 zs) ∧ qS (Below w.heap.size w w') := by
 have hu32 := Try.underlying32
 replace hr0 := qS.mk hr0
 replace hc0 := qS.mk hc0
 replace hl := qS.mk hl
 have HS := qS.mk (Nat.le_refl w.heap.size)
 go_enter Try.func73, Try.ntmps73
 go_upto_region 4 with (first | ((with_reducible refine gate_dst (N := 2) rfl ?_); refine bE #[.slice none 0 0, .slice none 0 0, .int .i64 0] 32 ?_; intro gb2 hg2 w2 hb2 hB2; replace hg2 := qS.mk hg2; replace hb2 := qS.mk hb2; replace hB2 := qS.mk hB2) | (go_at_call 93; refine (source_is A c0 l0 w w2 hB2.out hr0.out hc0.out hl.out).mono ?_; rintro e w17 ⟨cc, g, rfl, hI, hB3, hB4⟩; have HG := qS.mk (Sto.init hI hB3 (qL hb2.out hB4) (by have := hg2.out; omega)); clear hI hB3 hB4 hg2 hb2 hB2) | (go_at_call 109; refine (any_run (Sto.at HG).on.1 (Sto.at HG).on.2.1).mono ?_; rintro e w19 ⟨va, vb, ⟨p, rfl⟩, xs, ys, hxy, hr⟩; replace HG := qS.mk ((Sto.at HG).two hr.out); clear hr; obtain ⟨A0, k0, rfl⟩ := Kd.qX (HG.out.rowAt 0); obtain ⟨A1, k1, rfl⟩ := Kd.qX (HG.out.rowAt 1)) | ((with_reducible refine gate_dst (N := 5) rfl ?_); refine Sto.boxed (its := _) (Sto.at HG) #[.slice none 0 0, .slice none 0 0, .int .i64 0] 32 ?hr ?_; (case hr => first | (go_simp; done) | (go_simp; rfl)); intro gb8 w5 h4; replace HG := h4; clear h4) | ((with_reducible refine gate_store (t := 32) (p := 5) rfl ?_); refine Sto.store (its := _) 0 (Sto.at HG) rfl HS.out 32 (.tmp 5) (.tmp 12) _ [_, _, _] _ rfl rfl rfl rfl (by kernel_rfl) (by simp [putL]) (by intro q hq; simp at hq; rcases hq with rfl | rfl | rfl <;> rfl) ?_; intro w12 h4; replace HG := h4; clear h4; (try clear hczgb80); have hczgb80 : w12.cell? ⟨gb8, 0, none⟩ = some (.slice A0 xs.length k0) := (qJ (HG.out.boxAt 0) 0).trans rfl; (try clear hczgb81); have hczgb81 : w12.cell? ⟨gb8, 1, none⟩ = some (.slice A1 ys.length k1) := (qJ (HG.out.boxAt 0) 1).trans rfl; (try clear hczgb82); have hczgb82 : w12.cell? ⟨gb8, 2, none⟩ = some (.int .i64 p) := (qJ (HG.out.boxAt 0) 2).trans rfl) | (go_at_call 108; refine (copy_run (HG.out.rowAt 1) (by have := hxy.out; omega)).mono ?_; rintro e w15 ⟨v15, rfl, hr, hb⟩; replace HG := qS.mk (HG.out.row hb.out hr.out); clear hb hr; obtain ⟨A15, k15, rfl⟩ := Kd.qX (HG.out.rowAt 0)))
 (try simp only [Act.put, List.setIfInBounds_toArray, List.set_cons_zero, List.set_cons_succ])
 clear hczgb80 hczgb81 hczgb82
 go_cut [23] (fun v23 wc => ∃ b : Bool, v23 = .bool b ∧ qS (Sto cc g w w wc [.row w.heap.size (.slice A15 xs.length k15) xs, .box gb8 #[.slice A0 xs.length k0, .slice A1 ys.length k1, .int .i64 p] 32, .row w.heap.size (.slice A0 xs.length k0) xs, .row w.heap.size (.slice A1 ys.length k1) ys, .box gb2 #[.slice none 0 0, .slice none 0 0, .int .i64 0] 32]))
 case first =>
  have hD4 : (xs.length : Int) < 4 ∨ ¬ (xs.length : Int) < 4 := by omega
  rcases hD4 with hd | hd
  ·have hd1 : decide ((xs.length : Int) < 4) = true := decide_eq_true hd
   go_wp2_with (first | (go_at_call 94; refine (Sto.next (c := cc) (w0 := w) (W := w) (its := _) (Sto.at HG) _).mono ?_; rintro e w94 ⟨b, rfl, hrb, h1⟩; replace HG := h1; clear h1))
   all_goals go_meet
   all_goals case rel => exact ⟨_, rfl, ⟨Sto.at HG⟩⟩
  ·have hd1 : decide ((xs.length : Int) < 4) = false := decide_eq_false hd
   go_wp2_with (first | (go_at_call 94; refine (Sto.next (c := cc) (w0 := w) (W := w) (its := _) (Sto.at HG) _).mono ?_; rintro e w94 ⟨b, rfl, hrb, h1⟩; replace HG := h1; clear h1))
   all_goals go_meet
   all_goals case rel => exact ⟨_, rfl, ⟨Sto.at HG⟩⟩
 case rest =>
 clear HG
 obtain ⟨b, rfl, HG⟩ := hcut
 go_upto_if 23 with (fail)
 (try simp only [Act.put, List.setIfInBounds_toArray, List.set_cons_zero, List.set_cons_succ])
 go_cut [6] (fun v6 wc => ∃ (zs0 : List Int) (Az : Option Addr) (kz : Nat), v6 = .slice Az zs0.length kz ∧ qS (zs0.length ≤ 6) ∧ qS (Sto cc g w w wc [.row w.heap.size (.slice Az zs0.length kz) zs0, .box gb8 #[.slice A0 xs.length k0, .slice A1 ys.length k1, .int .i64 p] 32, .row w.heap.size (.slice A0 xs.length k0) xs, .row w.heap.size (.slice A1 ys.length k1) ys, .box gb2 #[.slice none 0 0, .slice none 0 0, .int .i64 0] 32]))
 case first =>
  cases b with
  | false =>
   go_wp2
   all_goals go_meet
   all_goals case rel => exact ⟨xs, A15, k15, rfl, ⟨by have := hxy.out; omega⟩, ⟨Sto.at HG⟩⟩
  | true =>
   go_wp2_with (first | (go_at_call 94; refine (Sto.next (c := cc) (w0 := w) (W := w) (its := _) (Sto.at HG) _).mono ?_; rintro e w94 ⟨b, rfl, hrb, h1⟩; replace HG := h1; clear h1) | ((with_reducible refine gate_dst (N := 26) rfl ?_); refine Sto.lit (its := _) (Sto.at HG) [b] [.int .i64 b] ?hr (by simp) ?_; (case hr => first | (go_simp; done) | (go_simp; rfl)); intro v26 w26 h4; replace HG := h4; clear h4; obtain ⟨A26, k26, rfl⟩ := Kd.qX (HG.out.rowAt 0)) | ((with_reducible refine gate_builtin (b := .append) (xs := #[.tmp 26, .tmp 27]) rfl ?_); at_builtin; refine Sto.appendRow (its := _) 0 1 (.tmp 26) (.tmp 27) (Sto.at HG) rfl rfl (Nat.le_refl _) HS.out (HG.out.on.size) (by have := hxy.out; simp; omega) ?_; intro v28 w28 h4; generalize hLe : [b] ++ xs = L at h4; have hLL : L.length = xs.length + 1 := (by rw [← hLe]; simp); replace hLL := qS.mk hLL; clear hLe; replace HG := h4; clear h4; replace HG := qS.mk HG.out.drop1; obtain ⟨A28, k28, rfl⟩ := Kd.qX (HG.out.rowAt 0)))
   all_goals go_meet
   all_goals case rel => exact ⟨L, A28, k28, rfl, ⟨by have := hLL.out; have := hxy.out; omega⟩, ⟨Sto.at HG⟩⟩
 case rest =>
 clear HG
 obtain ⟨zs0, Az, kz, rfl, hz, HG⟩ := hcut
 go_wp2
 go_loopg [7] 8 (fun kq v7 w' => ∃ (zs : List Int) (q : Int), v7 = .int .i64 q ∧ qS (0 ≤ q ∧ q ≤ zs0.length ∧ zs0.length - q < kq ∧ kq ≤ 8 ∧ zs.length = zs0.length) ∧ qS (Sto cc g w w w' [.row w.heap.size (.slice Az zs0.length kz) zs, .box gb8 #[.slice A0 xs.length k0, .slice A1 ys.length k1, .int .i64 p] 32, .row w.heap.size (.slice A0 xs.length k0) xs, .row w.heap.size (.slice A1 ys.length k1) ys, .box gb2 #[.slice none 0 0, .slice none 0 0, .int .i64 0] 32]))
 case atStart => exact ⟨zs0, 0, rfl, ⟨by have := hz.out; omega⟩, ⟨Sto.at HG⟩⟩
 case round =>
  clear HG
  obtain ⟨zs, q, rfl, hq, HG⟩ := hrel
  have hzl := qS.mk hq.out.2.2.2.2
  cases gk with
  | zero => exact absurd hq.out.2.2.1 (by have := hq.out.2.1; omega)
  | succ q1 =>
   have hD : q < (zs0.length : Int) ∨ ¬ q < (zs0.length : Int) := by omega
   rcases hD with hd | hd
   ·have hd1 : decide (q < (zs0.length : Int)) = true := decide_eq_true hd
    obtain ⟨gr, cr, er, -⟩ := Kd.R_form (HG.out.rowAt 0) (by have := hq.out; omega)
    rw [hzl.out] at er
    cases er
    have hx := (Kd.R_celln 0 (HG.out.rowAt 0) q hq.out.1 hd).1
    have pa := eq_true hq.out.1
    have qa := eq_true hd
    go_wp2_with (first | (go_at_call 94; refine (Sto.next (c := cc) (w0 := w) (W := w) (its := _) (Sto.at HG) _).mono ?_; rintro e w94 ⟨b, rfl, hrb, h1⟩; replace HG := h1; clear h1) | ((with_reducible refine gate_store (t := 2) (p := 44) rfl ?_); refine Sto.putn (its := _) 0 zs0.length (xs := zs) hzl.out (.tmp 44) (.tmp 43) q (b) (Sto.at HG) (Nat.le_refl _) HS.out (HG.out.on.size) hq.out.1 hd ?_; intro w44 h4; replace HG := h4; clear h4))
    all_goals go_roundg q1
    all_goals first | (case measure => have := hq.out; omega) | skip
    all_goals case rel => exact ⟨_, _, rfl, ⟨by have := hq.out; have := hz.out; have := w_id (n := q + 1) (by omega) (by omega); first | omega | (simp; omega)⟩, ⟨Sto.at HG⟩⟩
   ·have hd1 : decide (q < (zs0.length : Int)) = false := decide_eq_false hd
    go_upto_region 12 with (first | (go_at_call 94; refine (Sto.next (c := cc) (w0 := w) (W := w) (its := _) (Sto.at HG) _).mono ?_; rintro e w94 ⟨k, rfl, hrk, h1⟩; replace HG := h1; clear h1))
    (try simp only [Act.put, List.setIfInBounds_toArray, List.set_cons_zero, List.set_cons_succ])
    clear hd hd1
    obtain ⟨hcz0, hcz1, hcz2, -⟩ := bx3 (qS.mk (HG.out.boxAt 1))
    have hL : (0 < zs0.length ∧ 0 < (zs0.length : Int)) ∨ (¬ 0 < zs0.length ∧ ¬ 0 < (zs0.length : Int)) := by omega
    have hk : k = 0 ∨ k = 1 ∨ k = 2 ∨ (¬ k = 0 ∧ ¬ k = 1 ∧ ¬ k = 2) := by omega
    rcases hL with hL | hL
    ·have hd1 : decide (0 < (zs0.length : Int)) = true := decide_eq_true hL.2
     have hd2 : decide (0 < zs0.length) = true := decide_eq_true hL.1
     obtain ⟨gr, cr, er, -⟩ := Kd.R_form (HG.out.rowAt 0) (by have := hzl.out; omega)
     rw [hzl.out] at er
     cases er
     replace hL := qS.mk hL
     rcases hk with rfl | rfl | rfl | ⟨h0, h1, h2⟩
     ·obtain ⟨i2, hi2, hz2⟩ := Option.map_eq_some_iff.1 info2
      have hs2 : i2.size = 1 := by simp at hz2; exact hz2.2.1
      have hrun := fun W => cut1 Try.underlying27 hi2 hs2 (some ⟨gr, 0, none⟩) zs0.length kz (by have := hL.out; omega) W
      clear hi2 hz2 hs2
      generalize hA' : (if kz = 1 then (some (⟨gr, 0, none⟩ : Addr)) else (some (⟨gr, 0, none⟩ : Addr)).map (·.add 1)) = A' at hrun
      generalize hn' : zs0.length - 1 = n' at hrun
      replace hA' := qS.mk hA'
      replace hn' := qS.mk hn'
      go_wp2_with (first | ((with_reducible refine gate_store (t := 32) (p := 2) rfl ?_); refine Sto.store (its := _) 4 (Sto.at HG) rfl HS.out 32 (.tmp 2) (.tmp 77) _ [_, _, _] _ rfl rfl rfl rfl (by kernel_rfl) (by simp [putL]) (by intro q hq; simp at hq; rcases hq with rfl | rfl | rfl <;> rfl) ?_; intro w77 h4; replace HG := h4; clear h4))
      refine bodyPost_ret (results_list (rs := [.cell 2 32, .tmp 3]) rfl (by simp) (.cell gb2 32 #[.slice A0 xs.length k0, .slice A1 ys.length k1, .int .i64 p] (0, 0) _ rfl (HG.out.boxAt 4) Try.underlying32 rfl (by kernel_rfl) (.tmp .nil))) rfl ?_
      have hC := CF.drop1 (w := w) (xs := zs) (A := some ⟨gr, 0, none⟩) (k := kz) (by have := hL.out; have := hzl.out; omega) (CF.of (n := zs0.length) (HG.out.rowAt 0)).2
      rw [hA'.out] at hC
      have hdl : (zs.drop 1).length = n' := by have := hn'.out; have := hzl.out; simp; omega
      have e1 : n' = (zs.drop 1).length := hdl.symm
      subst e1
      exact ⟨A0, A1, A', k0, k1, _, p, xs, ys, zs.drop 1, rfl, ⟨⟨hxy.out.1, hxy.out.2, by have := hn'.out; have := hz.out; omega⟩⟩, ⟨⟨(CF.of (HG.out.rowAt 2)).2, (CF.of (HG.out.rowAt 3)).2, hC⟩⟩, ⟨HG.out.on.2.1⟩⟩
     ·clear hcz0 hcz1 hcz2
      go_wp2_with (first | (go_at_call 94; refine (Sto.next (c := cc) (w0 := w) (W := w) (its := _) (Sto.at HG) _).mono ?_; rintro e w94 ⟨j, rfl, hrj, h1⟩; replace HG := h1; clear h1; have hj1 : 0 ≤ j ∧ j < (zs0.length : Int) := (by have := hrj.out; have := hL.out; omega); have pb := eq_true hj1.1; have qb := eq_true hj1.2; replace hj1 := qS.mk hj1) | ((with_reducible refine gate_store (t := 2) (p := 68) rfl ?_); refine Sto.putn (its := _) 0 zs0.length (xs := zs) hzl.out (.tmp 68) (.const (.int .i64 5)) j (5) (Sto.at HG) (Nat.le_refl _) HS.out (HG.out.on.size) hj1.out.1 hj1.out.2 ?_; intro w68 h4; replace HG := h4; clear h4; obtain ⟨hcz0, hcz1, hcz2, -⟩ := bx3 (qS.mk (HG.out.boxAt 1))) | ((with_reducible refine gate_store (t := 32) (p := 2) rfl ?_); refine Sto.store (its := _) 4 (Sto.at HG) rfl HS.out 32 (.tmp 2) (.tmp 77) _ [_, _, _] _ rfl rfl rfl rfl (by kernel_rfl) (by simp [putL]) (by intro q hq; simp at hq; rcases hq with rfl | rfl | rfl <;> rfl) ?_; intro w77 h4; replace HG := h4; clear h4))
      all_goals refine bodyPost_ret (results_list (rs := [.cell 2 32, .tmp 3]) rfl (by simp) (.cell gb2 32 #[.slice A0 xs.length k0, .slice A1 ys.length k1, .int .i64 p] (0, 0) _ rfl (HG.out.boxAt 4) Try.underlying32 rfl (by kernel_rfl) (.tmp .nil))) rfl ?_
      all_goals exact Sto.answer' HG.out (i := 2) (j := 3) (k := 0) (by simp; exact hzl.out) rfl rfl rfl ⟨hxy.out.1, hxy.out.2, by have := hz.out; omega⟩
     ·clear hcz0 hcz1 hcz2
      go_wp2_with (first | (go_at_call 94; refine (Sto.next (c := cc) (w0 := w) (W := w) (its := _) (Sto.at HG) _).mono ?_; rintro e w94 ⟨b, rfl, hrb, h1⟩; replace HG := h1; clear h1) | ((with_reducible refine gate_dst (N := 74) rfl ?_); refine Sto.lit (its := _) (Sto.at HG) [wrap64 (4096 + b)] [.int .i64 (wrap64 (4096 + b))] ?hr (by simp) ?_; (case hr => first | (go_simp; done) | (go_simp; rfl)); intro v74 w74 h4; replace HG := h4; clear h4; obtain ⟨A74, k74, rfl⟩ := Kd.qX (HG.out.rowAt 0)) | ((with_reducible refine gate_builtin (b := .append) (xs := #[.tmp 74, .tmp 75]) rfl ?_); at_builtin; refine Sto.appendRowN (its := _) (xs := [wrap64 (4096 + b)]) (ys := zs) 0 1 zs0.length hzl.out (.tmp 74) (.tmp 75) (Sto.at HG) (Nat.le_refl _) HS.out (HG.out.on.size) (by have := hz.out; have := hzl.out; simp; omega) ?_; intro v76 w76 h4; generalize hLe : [wrap64 (4096 + b)] ++ zs = L at h4; have hLL : L.length = zs.length + 1 := (by rw [← hLe]; simp); replace hLL := qS.mk hLL; clear hLe; replace HG := h4; clear h4; replace HG := qS.mk HG.out.drop1; obtain ⟨A76, k76, rfl⟩ := Kd.qX (HG.out.rowAt 0); obtain ⟨hcz0, hcz1, hcz2, -⟩ := bx3 (qS.mk (HG.out.boxAt 1))) | ((with_reducible refine gate_store (t := 32) (p := 2) rfl ?_); refine Sto.store (its := _) 4 (Sto.at HG) rfl HS.out 32 (.tmp 2) (.tmp 77) _ [_, _, _] _ rfl rfl rfl rfl (by kernel_rfl) (by simp [putL]) (by intro q hq; simp at hq; rcases hq with rfl | rfl | rfl <;> rfl) ?_; intro w77 h4; replace HG := h4; clear h4))
      all_goals refine bodyPost_ret (results_list (rs := [.cell 2 32, .tmp 3]) rfl (by simp) (.cell gb2 32 #[.slice A0 xs.length k0, .slice A1 ys.length k1, .int .i64 p] (0, 0) _ rfl (HG.out.boxAt 4) Try.underlying32 rfl (by kernel_rfl) (.tmp .nil))) rfl ?_
      all_goals exact Sto.answer' HG.out (i := 2) (j := 3) (k := 0) rfl rfl rfl rfl ⟨hxy.out.1, hxy.out.2, by have := hz.out; have := hzl.out; have := hLL.out; omega⟩
     ·have e0 : (k == 0) = false := beq_eq_false_iff_ne.mpr h0
      have e1 : (k == 1) = false := beq_eq_false_iff_ne.mpr h1
      have e2 : (k == 2) = false := beq_eq_false_iff_ne.mpr h2
      clear h0 h1 h2
      go_wp2_with (first | ((with_reducible refine gate_store (t := 32) (p := 2) rfl ?_); refine Sto.store (its := _) 4 (Sto.at HG) rfl HS.out 32 (.tmp 2) (.tmp 77) _ [_, _, _] _ rfl rfl rfl rfl (by kernel_rfl) (by simp [putL]) (by intro q hq; simp at hq; rcases hq with rfl | rfl | rfl <;> rfl) ?_; intro w77 h4; replace HG := h4; clear h4))
      all_goals refine bodyPost_ret (results_list (rs := [.cell 2 32, .tmp 3]) rfl (by simp) (.cell gb2 32 #[.slice A0 xs.length k0, .slice A1 ys.length k1, .int .i64 p] (0, 0) _ rfl (HG.out.boxAt 4) Try.underlying32 rfl (by kernel_rfl) (.tmp .nil))) rfl ?_
      all_goals exact Sto.answer' HG.out (i := 2) (j := 3) (k := 0) hzl.out rfl rfl rfl ⟨hxy.out.1, hxy.out.2, by have := hz.out; omega⟩
    ·have hd1 : decide (0 < (zs0.length : Int)) = false := decide_eq_false hL.2
     have hd2 : decide (0 < zs0.length) = false := decide_eq_false hL.1
     replace hL := qS.mk hL
     rcases hk with rfl | rfl | rfl | ⟨h0, h1, h2⟩
     ·go_wp2_with (first | ((with_reducible refine gate_store (t := 32) (p := 2) rfl ?_); refine Sto.store (its := _) 4 (Sto.at HG) rfl HS.out 32 (.tmp 2) (.tmp 77) _ [_, _, _] _ rfl rfl rfl rfl (by kernel_rfl) (by simp [putL]) (by intro q hq; simp at hq; rcases hq with rfl | rfl | rfl <;> rfl) ?_; intro w77 h4; replace HG := h4; clear h4))
      all_goals refine bodyPost_ret (results_list (rs := [.cell 2 32, .tmp 3]) rfl (by simp) (.cell gb2 32 #[.slice A0 xs.length k0, .slice A1 ys.length k1, .int .i64 p] (0, 0) _ rfl (HG.out.boxAt 4) Try.underlying32 rfl (by kernel_rfl) (.tmp .nil))) rfl ?_
      all_goals exact Sto.answer' HG.out (i := 2) (j := 3) (k := 0) hzl.out rfl rfl rfl ⟨hxy.out.1, hxy.out.2, by have := hz.out; omega⟩
     ·go_wp2_with (first | ((with_reducible refine gate_store (t := 32) (p := 2) rfl ?_); refine Sto.store (its := _) 4 (Sto.at HG) rfl HS.out 32 (.tmp 2) (.tmp 77) _ [_, _, _] _ rfl rfl rfl rfl (by kernel_rfl) (by simp [putL]) (by intro q hq; simp at hq; rcases hq with rfl | rfl | rfl <;> rfl) ?_; intro w77 h4; replace HG := h4; clear h4))
      all_goals refine bodyPost_ret (results_list (rs := [.cell 2 32, .tmp 3]) rfl (by simp) (.cell gb2 32 #[.slice A0 xs.length k0, .slice A1 ys.length k1, .int .i64 p] (0, 0) _ rfl (HG.out.boxAt 4) Try.underlying32 rfl (by kernel_rfl) (.tmp .nil))) rfl ?_
      all_goals exact Sto.answer' HG.out (i := 2) (j := 3) (k := 0) hzl.out rfl rfl rfl ⟨hxy.out.1, hxy.out.2, by have := hz.out; omega⟩
     ·clear hcz0 hcz1 hcz2
      go_wp2_with (first | (go_at_call 94; refine (Sto.next (c := cc) (w0 := w) (W := w) (its := _) (Sto.at HG) _).mono ?_; rintro e w94 ⟨b, rfl, hrb, h1⟩; replace HG := h1; clear h1) | ((with_reducible refine gate_dst (N := 74) rfl ?_); refine Sto.lit (its := _) (Sto.at HG) [wrap64 (4096 + b)] [.int .i64 (wrap64 (4096 + b))] ?hr (by simp) ?_; (case hr => first | (go_simp; done) | (go_simp; rfl)); intro v74 w74 h4; replace HG := h4; clear h4; obtain ⟨A74, k74, rfl⟩ := Kd.qX (HG.out.rowAt 0)) | ((with_reducible refine gate_builtin (b := .append) (xs := #[.tmp 74, .tmp 75]) rfl ?_); at_builtin; refine Sto.appendRowN (its := _) (xs := [wrap64 (4096 + b)]) (ys := zs) 0 1 zs0.length hzl.out (.tmp 74) (.tmp 75) (Sto.at HG) (Nat.le_refl _) HS.out (HG.out.on.size) (by have := hz.out; have := hzl.out; simp; omega) ?_; intro v76 w76 h4; generalize hLe : [wrap64 (4096 + b)] ++ zs = L at h4; have hLL : L.length = zs.length + 1 := (by rw [← hLe]; simp); replace hLL := qS.mk hLL; clear hLe; replace HG := h4; clear h4; replace HG := qS.mk HG.out.drop1; obtain ⟨A76, k76, rfl⟩ := Kd.qX (HG.out.rowAt 0); obtain ⟨hcz0, hcz1, hcz2, -⟩ := bx3 (qS.mk (HG.out.boxAt 1))) | ((with_reducible refine gate_store (t := 32) (p := 2) rfl ?_); refine Sto.store (its := _) 4 (Sto.at HG) rfl HS.out 32 (.tmp 2) (.tmp 77) _ [_, _, _] _ rfl rfl rfl rfl (by kernel_rfl) (by simp [putL]) (by intro q hq; simp at hq; rcases hq with rfl | rfl | rfl <;> rfl) ?_; intro w77 h4; replace HG := h4; clear h4))
      all_goals refine bodyPost_ret (results_list (rs := [.cell 2 32, .tmp 3]) rfl (by simp) (.cell gb2 32 #[.slice A0 xs.length k0, .slice A1 ys.length k1, .int .i64 p] (0, 0) _ rfl (HG.out.boxAt 4) Try.underlying32 rfl (by kernel_rfl) (.tmp .nil))) rfl ?_
      all_goals exact Sto.answer' HG.out (i := 2) (j := 3) (k := 0) rfl rfl rfl rfl ⟨hxy.out.1, hxy.out.2, by have := hz.out; have := hzl.out; have := hLL.out; omega⟩
     ·have e0 : (k == 0) = false := beq_eq_false_iff_ne.mpr h0
      have e1 : (k == 1) = false := beq_eq_false_iff_ne.mpr h1
      have e2 : (k == 2) = false := beq_eq_false_iff_ne.mpr h2
      clear h0 h1 h2
      go_wp2_with (first | ((with_reducible refine gate_store (t := 32) (p := 2) rfl ?_); refine Sto.store (its := _) 4 (Sto.at HG) rfl HS.out 32 (.tmp 2) (.tmp 77) _ [_, _, _] _ rfl rfl rfl rfl (by kernel_rfl) (by simp [putL]) (by intro q hq; simp at hq; rcases hq with rfl | rfl | rfl <;> rfl) ?_; intro w77 h4; replace HG := h4; clear h4))
      all_goals refine bodyPost_ret (results_list (rs := [.cell 2 32, .tmp 3]) rfl (by simp) (.cell gb2 32 #[.slice A0 xs.length k0, .slice A1 ys.length k1, .int .i64 p] (0, 0) _ rfl (HG.out.boxAt 4) Try.underlying32 rfl (by kernel_rfl) (.tmp .nil))) rfl ?_
      all_goals exact Sto.answer' HG.out (i := 2) (j := 3) (k := 0) hzl.out rfl rfl rfl ⟨hxy.out.1, hxy.out.2, by have := hz.out; omega⟩
end
end Go.Proofs.Ytpmdgmnpkdoamaa.Dv
