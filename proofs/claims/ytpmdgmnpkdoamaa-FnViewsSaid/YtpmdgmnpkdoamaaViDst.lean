/- Proved here: what spec.DrawTranspose and DrawBroadcast answer: some lists and numbers, in memory of their own. Conditions: the bytes handed in can be read. -/
import Derived.Test.YtpmdgmnpkdoamaaViDss
namespace Go.Proofs.Ytpmdgmnpkdoamaa.Dv
open Go.RowKit Go.Proofs.YtpmdgmnpkdoamaaW.PrintWords Go.Proofs.YtpmdgmnpkdoamaaW.PrintLast Go.Proofs.YtpmdgmnpkdoamaaW.PrintMore
open Src
set_option linter.unusedVariables false
set_option linter.unusedSimpArgs false
theorem Sto.answer' {c g : Nat} {w w' : World} {its : List It} {A0 A1 A2 : Option Addr} {k0 k1 k2 n : Nat} {p : Int} {xs ys zs : List Int} (h : Sto c g w w w' its) {i j k : Nat} (hn : zs.length = n) (hi : its[i]? = some (.row w.heap.size (.slice A0 xs.length k0) xs)) (hj : its[j]? = some (.row w.heap.size (.slice A1 ys.length k1) ys)) (hk : its[k]? = some (.row w.heap.size (.slice A2 n k2) zs)) (hl : xs.length ≤ 5 ∧ ys.length ≤ 5 ∧ n ≤ 8) :
  ∃ (A0' A1' A2' : Option Addr) (k0' k1' k2' : Nat) (p' : Int) (xs' ys' zs' : List Int), (Ending.returned (.tuple #[.agg #[.slice A0 xs.length k0, .slice A1 ys.length k1, .int .i64 p], .slice A2 n k2])) = .returned (.tuple #[.agg #[.slice A0' xs'.length k0', .slice A1' ys'.length k1', .int .i64 p'], .slice A2' zs'.length k2']) ∧ qS (xs'.length ≤ 5 ∧ ys'.length ≤ 5 ∧ zs'.length ≤ 8) ∧ qS (CF w w' A0' k0' xs' ∧ CF w w' A1' k1' ys' ∧ CF w w' A2' k2' zs') ∧ qS (Below w.heap.size w w') := by
 subst hn
 exact ⟨A0, A1, A2, k0, k1, k2, p, xs, ys, zs, rfl, ⟨hl⟩, ⟨⟨(CF.of (h.rowAt i hi)).2, (CF.of (h.rowAt j hj)).2, (CF.of (h.rowAt k hk)).2⟩⟩, ⟨h.on.2.1⟩⟩
theorem Sto.answer {c g : Nat} {w w' : World} {its : List It} {A0 A1 A2 : Option Addr} {k0 k1 k2 : Nat} {p : Int} {xs ys zs : List Int} (h : Sto c g w w w' its) {i j k : Nat} (hi : its[i]? = some (.row w.heap.size (.slice A0 xs.length k0) xs)) (hj : its[j]? = some (.row w.heap.size (.slice A1 ys.length k1) ys)) (hk : its[k]? = some (.row w.heap.size (.slice A2 zs.length k2) zs)) (hl : xs.length ≤ 5 ∧ ys.length ≤ 5 ∧ zs.length ≤ 8) :
  ∃ (A0' A1' A2' : Option Addr) (k0' k1' k2' : Nat) (p' : Int) (xs' ys' zs' : List Int), (Ending.returned (.tuple #[.agg #[.slice A0 xs.length k0, .slice A1 ys.length k1, .int .i64 p], .slice A2 zs.length k2])) = .returned (.tuple #[.agg #[.slice A0' xs'.length k0', .slice A1' ys'.length k1', .int .i64 p'], .slice A2' zs'.length k2']) ∧ qS (xs'.length ≤ 5 ∧ ys'.length ≤ 5 ∧ zs'.length ≤ 8) ∧ qS (CF w w' A0' k0' xs' ∧ CF w w' A1' k1' ys' ∧ CF w w' A2' k2' zs') ∧ qS (Below w.heap.size w w') := Sto.answer' h rfl hi hj hk hl
section
set_option maxHeartbeats 8000000 in
set_option maxRecDepth 100000 in
theorem drawTranspose_run (A : Option Addr) (c0 : Nat) (l0 : List Int) (w : World) (hr0 : Kd.C (Kd.int .u8) w A l0.length l0) (hc0 : l0.length ≤ c0) (hl : ∀ x ∈ l0, (Lit.int .u8 x).wf = true) :
  Calls Try.prog 72 #[.slice A l0.length c0] w fun e w' => ∃ (A0 A1 A2 : Option Addr) (k0 k1 k2 : Nat) (p : Int) (xs ys zs : List Int), e = .returned (.tuple #[.agg #[.slice A0 xs.length k0, .slice A1 ys.length k1, .int .i64 p], .slice A2 zs.length k2]) ∧ qS (xs.length ≤ 5 ∧ ys.length ≤ 5 ∧ zs.length ≤ 8) ∧ qS (CF w w' A0 k0 xs ∧ CF w w' A1 k1 ys ∧ CF w w' A2 k2 zs) ∧ qS (Below w.heap.size w w') := by
 have hu32 := Try.underlying32
 replace hr0 := qS.mk hr0
 replace hc0 := qS.mk hc0
 replace hl := qS.mk hl
 have HS := qS.mk (Nat.le_refl w.heap.size)
 go_enter Try.func72, Try.ntmps72
 go_wp2_with (first | ((with_reducible refine gate_dst (N := 2) rfl ?_); refine bE #[.slice none 0 0, .slice none 0 0, .int .i64 0] 32 ?_; intro gb2 hg2 w2 hb2 hB2; replace hg2 := qS.mk hg2; replace hb2 := qS.mk hb2; replace hB2 := qS.mk hB2) | (go_at_call 93; refine (source_is A c0 l0 w w2 hB2.out hr0.out hc0.out hl.out).mono ?_; rintro e w17 ⟨cc, g, rfl, hI, hB3, hB4⟩; have HG := qS.mk (Sto.init hI hB3 (qL hb2.out hB4) (by have := hg2.out; omega)); clear hI hB3 hB4 hg2 hb2 hB2) | (go_at_call 109; refine (any_run (Sto.at HG).on.1 (Sto.at HG).on.2.1).mono ?_; rintro e w19 ⟨va, vb, ⟨p, rfl⟩, xs, ys, hxy, hr⟩; replace HG := qS.mk ((Sto.at HG).two hr.out); clear hr; obtain ⟨A0, k0, rfl⟩ := Kd.qX (HG.out.rowAt 0); obtain ⟨A1, k1, rfl⟩ := Kd.qX (HG.out.rowAt 1)) | ((with_reducible refine gate_dst (N := 5) rfl ?_); refine Sto.boxed (its := _) (Sto.at HG) #[.slice none 0 0, .slice none 0 0, .int .i64 0] 32 ?hr ?_; (case hr => first | (go_simp; done) | (go_simp; rfl)); intro gb8 w5 h4; replace HG := h4; clear h4) | ((with_reducible refine gate_store (t := 32) (p := 5) rfl ?_); refine Sto.store (its := _) 0 (Sto.at HG) rfl HS.out 32 (.tmp 5) (.tmp 16) _ [_, _, _] _ rfl rfl rfl rfl (by kernel_rfl) (by simp [putL]) (by intro q hq; simp at hq; rcases hq with rfl | rfl | rfl <;> rfl) ?_; intro w20 h4; replace HG := h4; clear h4; (try clear hczgb80); have hczgb80 : w20.cell? ⟨gb8, 0, none⟩ = some (.slice A0 xs.length k0) := (qJ (HG.out.boxAt 0) 0).trans rfl; (try clear hczgb81); have hczgb81 : w20.cell? ⟨gb8, 1, none⟩ = some (.slice A1 ys.length k1) := (qJ (HG.out.boxAt 0) 1).trans rfl; (try clear hczgb82); have hczgb82 : w20.cell? ⟨gb8, 2, none⟩ = some (.int .i64 p) := (qJ (HG.out.boxAt 0) 2).trans rfl) | ((with_reducible refine gate_dst (N := 17) rfl ?_); refine Sto.lit (its := _) (Sto.at HG) ([] : List Int) [] ?hr (by simp) ?_; (case hr => first | (go_simp; done) | (go_simp; rfl)); intro v17 w17 h4; replace HG := h4; clear h4; obtain ⟨A17, k17, rfl⟩ := Kd.qX (HG.out.rowAt 0); (try clear hczgb80); have hczgb80 : w17.cell? ⟨gb8, 0, none⟩ = some (.slice A0 xs.length k0) := (qJ (HG.out.boxAt 1) 0).trans rfl; (try clear hczgb81); have hczgb81 : w17.cell? ⟨gb8, 1, none⟩ = some (.slice A1 ys.length k1) := (qJ (HG.out.boxAt 1) 1).trans rfl; (try clear hczgb82); have hczgb82 : w17.cell? ⟨gb8, 2, none⟩ = some (.int .i64 p) := (qJ (HG.out.boxAt 1) 2).trans rfl))
 go_loopg [6, 8] 7 (fun kq v6 v8 w' => ∃ (zs : List Int) (q : Int), v8 = .int .i64 q ∧ qS (0 ≤ q ∧ q ≤ xs.length ∧ xs.length - q < kq ∧ kq ≤ 7 ∧ (zs.length : Int) = q) ∧ qS (Sto cc g w w w' [.row w.heap.size v6 zs, .box gb8 #[.slice A0 xs.length k0, .slice A1 ys.length k1, .int .i64 p] 32, .row w.heap.size (.slice A0 xs.length k0) xs, .row w.heap.size (.slice A1 ys.length k1) ys, .box gb2 #[.slice none 0 0, .slice none 0 0, .int .i64 0] 32]))
 case atStart => exact ⟨[], 0, rfl, ⟨by have := hxy.out; simp; omega⟩, ⟨Sto.at HG⟩⟩
 case round =>
  clear hczgb80 hczgb81 hczgb82
  obtain ⟨zs0, q, rfl, hq0, HG⟩ := hrel
  cases gk with
  | zero => exact absurd hq0.out.2.2.1 (by have := hq0.out.2.1; omega)
  | succ q1 =>
   have hq := qS.mk (show zs0.length < 100 by have := hq0.out; have := hxy.out; omega)
   have hD : q < (xs.length : Int) ∨ ¬ q < (xs.length : Int) := by omega
   rcases hD with hd | hd
   ·have hd1 : decide (q < (xs.length : Int)) = true := decide_eq_true hd
    go_wp2_with (first | ((with_reducible refine gate_builtin (b := .append) (xs := #[.tmp 26, .tmp 28]) rfl ?_); at_builtin; refine Sto.append (c := cc) (w0 := w) (W := w) (its := _) (xs := zs0) 0 (.tmp 26) (.tmp 28) (Sto.at HG) rfl (Nat.le_refl _) HS.out (by have := hq.out; omega) (HG.out.on.size) ?_; intro v29 w29 h4; replace HG := h4; clear h4))
    all_goals go_roundg q1
    all_goals first | (case measure => have := hq0.out; omega) | skip
    all_goals case rel => exact ⟨_, _, rfl, ⟨by have := hq0.out; have := hxy.out; have := w_id (n := q + 1) (by omega) (by omega); simp only [List.length_append, List.length_cons, List.length_nil]; omega⟩, ⟨Sto.at HG⟩⟩
   ·have hd1 : decide (q < (xs.length : Int)) = false := decide_eq_false hd
    obtain ⟨Az, kz, rfl⟩ := Kd.qX (HG.out.rowAt 0)
    have hz := qS.mk (show (zs0.length : Int) = xs.length by have := hq0.out; omega)
    go_wp2
    clear hq0 hd hd1
    go_loopg [9] 8 (fun kq v9 w' => ∃ (zs : List Int) (q : Int), v9 = .int .i64 q ∧ qS (-1 ≤ q ∧ q < xs.length ∧ q + 1 < kq ∧ kq ≤ 8 ∧ zs.length = zs0.length) ∧ qS (Sto cc g w w w' [.row w.heap.size (.slice Az zs0.length kz) zs, .box gb8 #[.slice A0 xs.length k0, .slice A1 ys.length k1, .int .i64 p] 32, .row w.heap.size (.slice A0 xs.length k0) xs, .row w.heap.size (.slice A1 ys.length k1) ys, .box gb2 #[.slice none 0 0, .slice none 0 0, .int .i64 0] 32]))
    case atStart => exact ⟨zs0, _, rfl, ⟨by have := hxy.out; have := w_id (n := (xs.length : Int) - 1) (by omega) (by omega); omega⟩, ⟨Sto.at HG⟩⟩
    case round =>
     obtain ⟨zs, i, rfl, hi, HG⟩ := hrel
     cases gk with
     | zero => exact absurd hi.out.2.2.1 (by have := hi.out.1; omega)
     | succ q2 =>
      have hD : 0 < i ∨ ¬ 0 < i := by omega
      rcases hD with hd | hd
      ·have hd1 : decide (0 < i) = true := decide_eq_true hd
       obtain ⟨gr, cr, er, -⟩ := Kd.R_form (HG.out.rowAt 0) (by have := hi.out; have := hz.out; omega)
       have hzl := hi.out.2.2.2.2
       rw [hzl] at er
       cases er
       have h1 : 0 ≤ i ∧ i < (zs0.length : Int) := by have := hi.out; have := hz.out; omega
       have pa := eq_true h1.1
       have qa := eq_true h1.2
       have ew := w_id (n := i + 1) (by omega) (by have := hxy.out; have := hz.out; omega)
       replace ew := qS.mk ew
       replace hzl := qS.mk hzl
       replace h1 := qS.mk h1
       go_wp2_with (first | (go_at_call 94; refine (Sto.next (c := cc) (w0 := w) (W := w) (its := _) (Sto.at HG) _).mono ?_; rintro e w94 ⟨j, rfl, hrj, h1⟩; replace HG := h1; clear h1; have hj1 : 0 ≤ j ∧ j < (zs0.length : Int) := (by have := hrj.out; have := ew.out; have := h1.out; omega); have pb := eq_true hj1.1; have qb := eq_true hj1.2; have hxi := (Kd.R_celln 0 (HG.out.rowAt 0) i h1.out.1 h1.out.2).1; have hxj := (Kd.R_celln 0 (HG.out.rowAt 0) j hj1.1 hj1.2).1; replace hj1 := qS.mk hj1) | ((with_reducible refine gate_store (t := 2) (p := 50) rfl ?_); refine Sto.putn (its := _) 0 zs0.length (xs := zs) (hzl.out) (.tmp 50) (.tmp 49) i (rdOf 0 zs j) (Sto.at HG) (Nat.le_refl _) HS.out (HG.out.on.size) h1.out.1 h1.out.2 ?_; intro w50 h4; replace HG := h4; clear h4) | ((with_reducible refine gate_store (t := 2) (p := 54) rfl ?_); refine Sto.putn (its := _) 0 zs0.length (xs := zs.set i.toNat (rdOf 0 zs j)) (by simp; exact hzl.out) (.tmp 54) (.tmp 53) j (rdOf 0 zs i) (Sto.at HG) (Nat.le_refl _) HS.out (HG.out.on.size) hj1.out.1 hj1.out.2 ?_; intro w54 h4; replace HG := h4; clear h4))
       all_goals go_roundg q2
       all_goals first | (case measure => have := hi.out; omega) | skip
       all_goals case rel => exact ⟨_, _, rfl, ⟨by have := hi.out; have := hxy.out; have := w_id (n := i - 1) (by omega) (by omega); simp; omega⟩, ⟨Sto.at HG⟩⟩
      ·have hd1 : decide (0 < i) = false := decide_eq_false hd
       have hzl := qS.mk hi.out.2.2.2.2
       go_upto_if 58 with (first | (go_at_call 94; refine (Sto.next (c := cc) (w0 := w) (W := w) (its := _) (Sto.at HG) _).mono ?_; rintro e w94 ⟨k, rfl, hrk, h1⟩; replace HG := h1; clear h1))
       (try simp only [Act.put, List.setIfInBounds_toArray, List.set_cons_zero, List.set_cons_succ])
       by_cases hk : k = 0
       ·subst hk
        go_wp2_with (first | ((with_reducible refine gate_builtin (b := .append) (xs := #[.tmp 59, .tmp 60]) rfl ?_); at_builtin; refine Sto.append (c := cc) (w0 := w) (W := w) (its := _) (xs := zs) 0 (.tmp 59) (.tmp 60) (Sto.at HG) rfl (Nat.le_refl _) HS.out (by have := hq.out; have := hzl.out; omega) (HG.out.on.size) ?_; intro v61 w61 h4; replace HG := h4; clear h4; obtain ⟨Ay, ky, rfl⟩ := Kd.qX (HG.out.rowAt 0); obtain ⟨hcz0, hcz1, hcz2, -⟩ := bx3 (qS.mk (HG.out.boxAt 1))) | ((with_reducible refine gate_store (t := 32) (p := 2) rfl ?_); refine Sto.store (its := _) 4 (Sto.at HG) rfl HS.out 32 (.tmp 2) (.tmp 75) _ [_, _, _] _ rfl rfl rfl rfl (by kernel_rfl) (by simp [putL]) (by intro q hq; simp at hq; rcases hq with rfl | rfl | rfl <;> rfl) ?_; intro w75 h4; replace HG := h4; clear h4))
        all_goals refine bodyPost_ret (results_list (rs := [.cell 2 32, .tmp 3]) rfl (by simp) (.cell gb2 32 #[.slice A0 xs.length k0, .slice A1 ys.length k1, .int .i64 p] (0, 0) _ rfl (HG.out.boxAt 4) Try.underlying32 rfl (by kernel_rfl) (.tmp .nil))) rfl ?_
        all_goals exact Sto.answer' HG.out (i := 2) (j := 3) (k := 0) (zs := zs ++ [0]) (n := zs.length + 1) (by simp) rfl rfl (by rw [show zs.length + 1 = (zs ++ [0]).length by simp]; rfl) ⟨hxy.out.1, hxy.out.2, by have := hz.out; have := hzl.out; have := hxy.out; omega⟩
       have hk0 : (k == 0) = false := beq_eq_false_iff_ne.mpr hk
       obtain ⟨hcz0, hcz1, hcz2, -⟩ := bx3 (qS.mk (HG.out.boxAt 1))
       have hD : (k = 1 ∧ 0 < (xs.length : Int)) ∨ ¬ (k = 1 ∧ 0 < (xs.length : Int)) := Decidable.em _
       rcases hD with hD | hD
       ·obtain ⟨rfl, hd2⟩ := hD
        have hd3 : decide (0 < (xs.length : Int)) = true := decide_eq_true hd2
        obtain ⟨gr, cr, er, -⟩ := Kd.R_form (HG.out.rowAt 0) (by have := hzl.out; have := hz.out; omega)
        rw [hzl.out] at er
        cases er
        have pc := eq_true (show 0 < zs0.length by have := hz.out; omega)
        have pd := qS.mk (show (0 : Int) < (zs0.length : Int) by have := hz.out; omega)
        clear hcz0 hcz1 hcz2
        go_wp2_with (first | (go_at_call 94; refine (Sto.next (c := cc) (w0 := w) (W := w) (its := _) (Sto.at HG) _).mono ?_; rintro e w94 ⟨j, rfl, hrj, h1⟩; replace HG := h1; clear h1) | ((with_reducible refine gate_store (t := 2) (p := 74) rfl ?_); refine Sto.putn (its := _) 0 zs0.length (xs := zs) (hzl.out) (.tmp 74) (.tmp 73) 0 _ (Sto.at HG) (Nat.le_refl _) HS.out (HG.out.on.size) (by decide) pd.out ?_; intro w74 h4; replace HG := h4; clear h4; obtain ⟨hcz0, hcz1, hcz2, -⟩ := bx3 (qS.mk (HG.out.boxAt 1))) | ((with_reducible refine gate_store (t := 32) (p := 2) rfl ?_); refine Sto.store (its := _) 4 (Sto.at HG) rfl HS.out 32 (.tmp 2) (.tmp 75) _ [_, _, _] _ rfl rfl rfl rfl (by kernel_rfl) (by simp [putL]) (by intro q hq; simp at hq; rcases hq with rfl | rfl | rfl <;> rfl) ?_; intro w75 h4; replace HG := h4; clear h4))
        all_goals refine bodyPost_ret (results_list (rs := [.cell 2 32, .tmp 3]) rfl (by simp) (.cell gb2 32 #[.slice A0 xs.length k0, .slice A1 ys.length k1, .int .i64 p] (0, 0) _ rfl (HG.out.boxAt 4) Try.underlying32 rfl (by kernel_rfl) (.tmp .nil))) rfl ?_
        all_goals exact Sto.answer' HG.out (i := 2) (j := 3) (k := 0) (by simp; exact hzl.out) rfl rfl rfl ⟨hxy.out.1, hxy.out.2, by have := hz.out; have := hxy.out; omega⟩
       ·by_cases hk1 : k = 1
        ·subst hk1
         have hd3 : decide (0 < (xs.length : Int)) = false := decide_eq_false (fun h => hD ⟨rfl, h⟩)
         have hd4 : xs = [] := by cases xs with | nil => rfl | cons a t => exact absurd ⟨rfl, by simp⟩ hD
         replace hd4 := qS.mk hd4
         have hd5 : decide (0 < xs.length) = false := by rw [hd4.out]; rfl
         clear hD
         go_wp2_with (first | ((with_reducible refine gate_store (t := 32) (p := 2) rfl ?_); refine Sto.store (its := _) 4 (Sto.at HG) rfl HS.out 32 (.tmp 2) (.tmp 75) _ [_, _, _] _ rfl rfl rfl rfl (by kernel_rfl) (by simp [putL]) (by intro q hq; simp at hq; rcases hq with rfl | rfl | rfl <;> rfl) ?_; intro w75 h4; replace HG := h4; clear h4))
         all_goals refine bodyPost_ret (results_list (rs := [.cell 2 32, .tmp 3]) rfl (by simp) (.cell gb2 32 #[.slice A0 xs.length k0, .slice A1 ys.length k1, .int .i64 p] (0, 0) _ rfl (HG.out.boxAt 4) Try.underlying32 rfl (by kernel_rfl) (.tmp .nil))) rfl ?_
         all_goals exact Sto.answer' HG.out (i := 2) (j := 3) (k := 0) hzl.out rfl rfl rfl ⟨hxy.out.1, hxy.out.2, by have := hz.out; have := hxy.out; omega⟩
        ·have hk2 : (k == 1) = false := beq_eq_false_iff_ne.mpr hk1
         clear hD
         go_wp2_with (first | ((with_reducible refine gate_store (t := 32) (p := 2) rfl ?_); refine Sto.store (its := _) 4 (Sto.at HG) rfl HS.out 32 (.tmp 2) (.tmp 75) _ [_, _, _] _ rfl rfl rfl rfl (by kernel_rfl) (by simp [putL]) (by intro q hq; simp at hq; rcases hq with rfl | rfl | rfl <;> rfl) ?_; intro w75 h4; replace HG := h4; clear h4))
         all_goals refine bodyPost_ret (results_list (rs := [.cell 2 32, .tmp 3]) rfl (by simp) (.cell gb2 32 #[.slice A0 xs.length k0, .slice A1 ys.length k1, .int .i64 p] (0, 0) _ rfl (HG.out.boxAt 4) Try.underlying32 rfl (by kernel_rfl) (.tmp .nil))) rfl ?_
         all_goals exact Sto.answer' HG.out (i := 2) (j := 3) (k := 0) hzl.out rfl rfl rfl ⟨hxy.out.1, hxy.out.2, by have := hz.out; have := hxy.out; omega⟩
end
end Go.Proofs.Ytpmdgmnpkdoamaa.Dv
