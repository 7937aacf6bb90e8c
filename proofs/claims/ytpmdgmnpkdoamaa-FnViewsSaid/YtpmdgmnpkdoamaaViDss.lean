/- Proved here: what spec.DrawSlice, DrawTranspose and DrawBroadcast answer: some lists and numbers, in memory of their own. Conditions: the bytes handed in can be read. -/
import Derived.Test.YtpmdgmnpkdoamaaViDan
namespace Go.Proofs.Ytpmdgmnpkdoamaa.Dv
open Go.RowKit Go.Proofs.YtpmdgmnpkdoamaaW.PrintWords Go.Proofs.YtpmdgmnpkdoamaaW.PrintLast Go.Proofs.YtpmdgmnpkdoamaaW.PrintMore
open Src
set_option linter.unusedVariables false
set_option linter.unusedSimpArgs false
theorem Sto.init {c g gb t : Nat} {w w' : World} {cs : Array Value} (h : Is c w w' g) (hB : Below w.heap.size w w') (hb : w'.heap[gb]? = some (.cells cs t (0, 0))) (hg : w.heap.size ≤ gb) (ht : t ≠ 113 ∧ t ≠ 5 ∧ t ≠ 2 := by decide) : Sto c g w w w' [.box gb cs t] :=
 ⟨⟨h, hB, KeepBut.of_below hB g none⟩, fun n i hi => by match n, hi with | 0, hi => simp at hi; subst hi; exact ⟨hb, hg, ht⟩ | n + 1, hi => simp at hi, fun m n i j hmn hi hj => by match m, n, hi, hj with | 0, 0, _, _ => exact absurd rfl hmn | m + 1, _, hi, _ => simp at hi | _, n + 1, _, hj => simp at hj⟩
def CF (w w' : World) (A : Option Addr) (k : Nat) (xs : List Int) : Prop := xs.length ≤ k ∧ Kd.C (Kd.int .i64) w' A xs.length xs ∧ (0 < xs.length → ∃ a, A = some a ∧ w.heap.size ≤ a.block)
theorem CF.of {w w' : World} {A : Option Addr} {n k : Nat} {ok : Nat → Prop} {xs : List Int} (h : Kd.R (Kd.int .i64) 2 w' w.heap.size ok (.slice A n k) xs) : n = xs.length ∧ CF w w' A k xs := by
 obtain ⟨h1, h2, h3⟩ := Kd.qY h
 refine ⟨h1, by omega, h3, fun hp => ?_⟩
 obtain ⟨g, cap, e, hb, -⟩ := Kd.R_form h hp
 injection e with e
 exact ⟨_, e, hb⟩
section
set_option maxHeartbeats 8000000 in
set_option maxRecDepth 100000 in
theorem drawSlice_run (A : Option Addr) (c0 : Nat) (l0 : List Int) (w : World) (hr0 : Kd.C (Kd.int .u8) w A l0.length l0) (hc0 : l0.length ≤ c0) (hl : ∀ x ∈ l0, (Lit.int .u8 x).wf = true) :
  Calls Try.prog 70 #[.slice A l0.length c0] w fun e w' => ∃ (A0 A1 : Option Addr) (k0 k1 : Nat) (p a b c d : Int) (xs ys : List Int), e = .returned (.tuple #[.agg #[.slice A0 xs.length k0, .slice A1 ys.length k1, .int .i64 p], .int .i64 a, .int .i64 b, .int .i64 c, .int .i64 d]) ∧ qS (xs.length ≤ 5 ∧ ys.length ≤ 5) ∧ qS (CF w w' A0 k0 xs ∧ CF w w' A1 k1 ys) ∧ qS (Below w.heap.size w w') := by
 have hu32 := Try.underlying32
 replace hr0 := qS.mk hr0
 replace hc0 := qS.mk hc0
 replace hl := qS.mk hl
 have HS := qS.mk (Nat.le_refl w.heap.size)
 go_enter Try.func70, Try.ntmps70
 go_upto_if 27 with (first | ((with_reducible refine gate_dst (N := 2) rfl ?_); refine bE #[.slice none 0 0, .slice none 0 0, .int .i64 0] 32 ?_; intro gb2 hg2 w2 hb2 hB2; replace hg2 := qS.mk hg2; replace hb2 := qS.mk hb2; replace hB2 := qS.mk hB2) | (go_at_call 93; refine (source_is A c0 l0 w w2 hB2.out hr0.out hc0.out hl.out).mono ?_; rintro e w17 ⟨cc, g, rfl, hI, hB3, hB4⟩; have HG := qS.mk (Sto.init hI hB3 (qL hb2.out hB4) (by have := hg2.out; omega)); clear hI hB3 hB4 hg2 hb2 hB2) | (go_at_call 109; refine (any_run (Sto.at HG).on.1 (Sto.at HG).on.2.1).mono ?_; rintro e w19 ⟨va, vb, ⟨p, rfl⟩, xs, ys, hxy, hr⟩; replace HG := qS.mk ((Sto.at HG).two hr.out); clear hr; obtain ⟨A0, k0, rfl⟩ := Kd.qX (HG.out.rowAt 0); obtain ⟨A1, k1, rfl⟩ := Kd.qX (HG.out.rowAt 1)) | ((with_reducible refine gate_dst (N := 8) rfl ?_); refine Sto.boxed (its := _) (Sto.at HG) #[.slice none 0 0, .slice none 0 0, .int .i64 0] 32 ?hr ?_; (case hr => first | (go_simp; done) | (go_simp; rfl)); intro gb8 w8 h4; replace HG := h4; clear h4) | ((with_reducible refine gate_store (t := 32) (p := 8) rfl ?_); refine Sto.store (its := _) 0 (Sto.at HG) rfl HS.out 32 (.tmp 8) (.tmp 19) _ [_, _, _] _ rfl rfl rfl rfl (by kernel_rfl) (by simp [putL]) (by intro q hq; simp at hq; rcases hq with rfl | rfl | rfl <;> rfl) ?_; intro w20 h4; replace HG := h4; clear h4; (try clear hczgb80); have hczgb80 : w20.cell? ⟨gb8, 0, none⟩ = some (.slice A0 xs.length k0) := (qJ (HG.out.boxAt 0) 0).trans rfl; (try clear hczgb81); have hczgb81 : w20.cell? ⟨gb8, 1, none⟩ = some (.slice A1 ys.length k1) := (qJ (HG.out.boxAt 0) 1).trans rfl; (try clear hczgb82); have hczgb82 : w20.cell? ⟨gb8, 2, none⟩ = some (.int .i64 p) := (qJ (HG.out.boxAt 0) 2).trans rfl) | (go_at_call 94; refine (Sto.next (c := cc) (w0 := w) (W := w) (its := _) (Sto.at HG) _).mono ?_; rintro e w94 ⟨a, rfl, hra, h1⟩; replace HG := h1; clear h1; (try clear hczgb80); have hczgb80 : w94.cell? ⟨gb8, 0, none⟩ = some (.slice A0 xs.length k0) := (qJ (HG.out.boxAt 0) 0).trans rfl; (try clear hczgb81); have hczgb81 : w94.cell? ⟨gb8, 1, none⟩ = some (.slice A1 ys.length k1) := (qJ (HG.out.boxAt 0) 1).trans rfl; (try clear hczgb82); have hczgb82 : w94.cell? ⟨gb8, 2, none⟩ = some (.int .i64 p) := (qJ (HG.out.boxAt 0) 2).trans rfl))
 (try simp only [Act.put, List.setIfInBounds_toArray, List.set_cons_zero, List.set_cons_succ])
 go_cut [11] (fun v11 wc => ∃ n : Int, v11 = .int .i64 n ∧ qS (Sto cc g w w wc [.box gb8 #[.slice A0 xs.length k0, .slice A1 ys.length k1, .int .i64 p] 32, .row w.heap.size (.slice A0 xs.length k0) xs, .row w.heap.size (.slice A1 ys.length k1) ys, .box gb2 #[.slice none 0 0, .slice none 0 0, .int .i64 0] 32]))
 case first =>
  have hD : 0 < (xs.length : Int) ∨ ¬ 0 < (xs.length : Int) := by omega
  rcases hD with hd | hd
  ·have hd1 : decide (0 < (xs.length : Int)) = true := decide_eq_true hd
   have ha : 0 ≤ a ∧ a < (xs.length : Int) := by have := hra.out; omega
   obtain ⟨ad, e, hx⟩ := Kd.at_int (Kd.qY (HG.out.rowAt 1)).2.2 a ha.1 ha.2
   cases e
   have pa := eq_true ha.1
   have qa := eq_true ha.2
   go_wp2
   all_goals go_meet
   all_goals case rel => exact ⟨_, rfl, ⟨Sto.at HG⟩⟩
  ·have hd1 : decide (0 < (xs.length : Int)) = false := decide_eq_false hd
   go_wp2
   all_goals go_meet
   all_goals case rel => exact ⟨_, rfl, ⟨Sto.at HG⟩⟩
 case rest =>
 clear hczgb80 hczgb81 hczgb82 HG
 obtain ⟨n, rfl, HG⟩ := hcut
 go_upto_if 35 with (first | (go_at_call 94; refine (Sto.next (c := cc) (w0 := w) (W := w) (its := _) (Sto.at HG) _).mono ?_; rintro e w94 ⟨b, rfl, hrb, h1⟩; replace HG := h1; clear h1))
 (try simp only [Act.put, List.setIfInBounds_toArray, List.set_cons_zero, List.set_cons_succ])
 go_cut [10] (fun v10 wc => ∃ n : Int, v10 = .int .i64 n ∧ qS (Sto cc g w w wc [.box gb8 #[.slice A0 xs.length k0, .slice A1 ys.length k1, .int .i64 p] 32, .row w.heap.size (.slice A0 xs.length k0) xs, .row w.heap.size (.slice A1 ys.length k1) ys, .box gb2 #[.slice none 0 0, .slice none 0 0, .int .i64 0] 32]))
 case first =>
  go_wp2_with (first | (go_at_call 94; refine (Sto.next (c := cc) (w0 := w) (W := w) (its := _) (Sto.at HG) _).mono ?_; rintro e w94 ⟨b, rfl, hrb, h1⟩; replace HG := h1; clear h1))
  all_goals go_meet
  all_goals case rel => exact ⟨_, rfl, ⟨Sto.at HG⟩⟩
 case rest =>
 clear HG
 obtain ⟨a, rfl, HG⟩ := hcut
 go_upto_if 64 with (first | (go_at_call 94; refine (Sto.next (c := cc) (w0 := w) (W := w) (its := _) (Sto.at HG) _).mono ?_; rintro e w94 ⟨b, rfl, hrb, h1⟩; replace HG := h1; clear h1))
 (try simp only [Act.put, List.setIfInBounds_toArray, List.set_cons_zero, List.set_cons_succ])
 go_cut [12, 14] (fun v12 v14 wc => ∃ n m : Int, v12 = .int .i64 n ∧ v14 = .int .i64 m ∧ qS (Sto cc g w w wc [.box gb8 #[.slice A0 xs.length k0, .slice A1 ys.length k1, .int .i64 p] 32, .row w.heap.size (.slice A0 xs.length k0) xs, .row w.heap.size (.slice A1 ys.length k1) ys, .box gb2 #[.slice none 0 0, .slice none 0 0, .int .i64 0] 32]))
 case first =>
  go_wp2_with (first | (go_at_call 94; refine (Sto.next (c := cc) (w0 := w) (W := w) (its := _) (Sto.at HG) _).mono ?_; rintro e w94 ⟨b, rfl, hrb, h1⟩; replace HG := h1; clear h1))
  all_goals go_meet
  all_goals case rel => exact ⟨_, _, rfl, rfl, ⟨Sto.at HG⟩⟩
 case rest =>
 clear HG
 obtain ⟨q12, q14, rfl, rfl, HG⟩ := hcut
 go_upto_if 73 with (first | (go_at_call 94; refine (Sto.next (c := cc) (w0 := w) (W := w) (its := _) (Sto.at HG) _).mono ?_; rintro e w94 ⟨b, rfl, hrb, h1⟩; replace HG := h1; clear h1))
 (try simp only [Act.put, List.setIfInBounds_toArray, List.set_cons_zero, List.set_cons_succ])
 go_cut [14] (fun v14 wc => ∃ n : Int, v14 = .int .i64 n ∧ qS (Sto cc g w w wc [.box gb8 #[.slice A0 xs.length k0, .slice A1 ys.length k1, .int .i64 p] 32, .row w.heap.size (.slice A0 xs.length k0) xs, .row w.heap.size (.slice A1 ys.length k1) ys, .box gb2 #[.slice none 0 0, .slice none 0 0, .int .i64 0] 32]))
 case first =>
  go_wp2_with (first | (go_at_call 94; refine (Sto.next (c := cc) (w0 := w) (W := w) (its := _) (Sto.at HG) _).mono ?_; rintro e w94 ⟨b, rfl, hrb, h1⟩; replace HG := h1; clear h1))
  all_goals go_meet
  all_goals case rel => exact ⟨_, rfl, ⟨Sto.at HG⟩⟩
 case rest =>
 clear HG
 obtain ⟨q14, rfl, HG⟩ := hcut
 go_upto_if 78 with (first | (go_at_call 94; refine (Sto.next (c := cc) (w0 := w) (W := w) (its := _) (Sto.at HG) _).mono ?_; rintro e w94 ⟨b, rfl, hrb, h1⟩; replace HG := h1; clear h1))
 (try simp only [Act.put, List.setIfInBounds_toArray, List.set_cons_zero, List.set_cons_succ])
 go_cut [12] (fun v12 wc => ∃ n : Int, v12 = .int .i64 n ∧ qS (Sto cc g w w wc [.box gb8 #[.slice A0 xs.length k0, .slice A1 ys.length k1, .int .i64 p] 32, .row w.heap.size (.slice A0 xs.length k0) xs, .row w.heap.size (.slice A1 ys.length k1) ys, .box gb2 #[.slice none 0 0, .slice none 0 0, .int .i64 0] 32]))
 case first =>
  go_wp2_with (first | (go_at_call 94; refine (Sto.next (c := cc) (w0 := w) (W := w) (its := _) (Sto.at HG) _).mono ?_; rintro e w94 ⟨b, rfl, hrb, h1⟩; replace HG := h1; clear h1))
  all_goals go_meet
  all_goals case rel => exact ⟨_, rfl, ⟨Sto.at HG⟩⟩
 case rest =>
 clear HG
 obtain ⟨q12, rfl, HG⟩ := hcut
 go_upto_if 83 with (first | (go_at_call 94; refine (Sto.next (c := cc) (w0 := w) (W := w) (its := _) (Sto.at HG) _).mono ?_; rintro e w94 ⟨b, rfl, hrb, h1⟩; replace HG := h1; clear h1))
 (try simp only [Act.put, List.setIfInBounds_toArray, List.set_cons_zero, List.set_cons_succ])
 go_cut [13] (fun v13 wc => ∃ n : Int, v13 = .int .i64 n ∧ qS (Sto cc g w w wc [.box gb8 #[.slice A0 xs.length k0, .slice A1 ys.length k1, .int .i64 p] 32, .row w.heap.size (.slice A0 xs.length k0) xs, .row w.heap.size (.slice A1 ys.length k1) ys, .box gb2 #[.slice none 0 0, .slice none 0 0, .int .i64 0] 32]))
 case first =>
  go_wp2_with (first | (go_at_call 94; refine (Sto.next (c := cc) (w0 := w) (W := w) (its := _) (Sto.at HG) _).mono ?_; rintro e w94 ⟨b, rfl, hrb, h1⟩; replace HG := h1; clear h1))
  all_goals go_meet
  all_goals case rel => exact ⟨_, rfl, ⟨Sto.at HG⟩⟩
 case rest =>
 clear HG
 obtain ⟨q13, rfl, HG⟩ := hcut
 obtain ⟨hcz0, hcz1, hcz2, -⟩ := bx3 (qS.mk (HG.out.boxAt 0))
 go_wp2_with (first | ((with_reducible refine gate_store (t := 32) (p := 2) rfl ?_); refine Sto.store (its := _) 3 (Sto.at HG) rfl HS.out 32 (.tmp 2) (.tmp 87) _ [_, _, _] _ rfl rfl rfl rfl (by kernel_rfl) (by simp [putL]) (by intro q hq; simp at hq; rcases hq with rfl | rfl | rfl <;> rfl) ?_; intro w92 h4; replace HG := h4; clear h4))
 refine bodyPost_ret (results_list (rs := [.cell 2 32, .tmp 3, .tmp 4, .tmp 5, .tmp 6]) rfl (by simp) (.cell gb2 32 #[.slice A0 xs.length k0, .slice A1 ys.length k1, .int .i64 p] (0, 0) _ rfl (HG.out.boxAt 3) Try.underlying32 rfl (by kernel_rfl) (.tmp (.tmp (.tmp (.tmp .nil)))))) rfl ?_
 exact ⟨A0, A1, k0, k1, p, _, _, _, _, xs, ys, rfl, hxy, ⟨⟨(CF.of (HG.out.rowAt 1)).2, (CF.of (HG.out.rowAt 2)).2⟩⟩, ⟨HG.out.on.2.1⟩⟩
end
end Go.Proofs.Ytpmdgmnpkdoamaa.Dv
