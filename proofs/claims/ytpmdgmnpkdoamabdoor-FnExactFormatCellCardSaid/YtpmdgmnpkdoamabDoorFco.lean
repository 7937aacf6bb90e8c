/- Proved here: at all arguments the law on FormatCell answers true. Conditions: the words are of their kind; the tables hold what the program lays. -/
import Derived.Test.YtpmdgmnpkdoamabDoorFcn
namespace Go.Proofs.YtpmdgmnpkdoamabDoor.Vc
open Go.RowKit Fl Prom Go.Proofs.YtpmdgmnpkdoamabDoorW.PrintWords
set_option linter.unusedVariables false
set_option linter.unusedSimpArgs false
set_option maxRecDepth 20000 in
set_option maxHeartbeats 4000000 in
theorem law_format (dt i : Int) (f g : Nat) (hf : f < 18446744073709551616) (hg : g < 18446744073709551616) (w : World) (hT : Table.Holds w) (hP : Tab w) :
    Calls Tryd.prog 11 #[.int .i64 dt, .agg #[.int .i64 i, .float .f64 f, .float .f64 g]] w fun e w' => e = .returned (.bool true) ∧ Below w.heap.size w w' := by
  have h0 : 0 < w.heap.size := World.block_lt_of_cell? w _ (hT 0 0 (by omega) (by omega))
  obtain ⟨l, hl⟩ := ctx_ex dt i f g hf hg
  have HT := Lib.hid hT
  have HP := Lib.hid hP
  have S := Lib.hid (fun u => spec_fmt hf hg hl u)
  have I := Lib.hid (fun u h1 h2 => impl_fmt hf hg hl u h1 h2)
  have HL := Lib.hid (ctx_len hl)
  obtain ⟨r, hr⟩ : ∃ r : Nat → Int, r = (fun j => ((l.getD j 0).toNat : Int)) := ⟨_, rfl⟩
  have HR := Lib.hid hr
  clear hT hP hf hg hl hr
  go_enter Tryd.func11, Tryd.ntmps11
  go_wp2_with fail
  refine (to_cell i f g _).mono ?_
  rintro e w1 ⟨rfl, hb1⟩
  have z1 : w.heap.size < w1.heap.size := (by have q := hb1.size; (try simp at q); omega)
  have c01 : w1.cell? ⟨w.heap.size, 0, none⟩ = some (.int .i64 i) := (hb1.cell (p := ⟨w.heap.size, 0, none⟩) (by first | omega | (simp; done) | (simp; omega))).trans (by first | assumption | (simp; done) | (simp; assumption))
  have c11 : w1.cell? ⟨w.heap.size, 1, none⟩ = some (.float .f64 f) := (hb1.cell (p := ⟨w.heap.size, 1, none⟩) (by first | omega | (simp; done) | (simp; omega))).trans (by first | assumption | (simp; done) | (simp; assumption))
  have c21 : w1.cell? ⟨w.heap.size, 2, none⟩ = some (.float .f64 g) := (hb1.cell (p := ⟨w.heap.size, 2, none⟩) (by first | omega | (simp; done) | (simp; omega))).trans (by first | assumption | (simp; done) | (simp; assumption))
  have B1 : Hid (Below w.heap.size w w1) := Lib.hid (Below.trans (by repeat (first | exact Below.refl _ _ | (with_reducible apply below_drewN) | (with_reducible apply Below.drew) | ((with_reducible refine Below.setCell ?_ ?hs _); (case hs => first | omega | (simp; try omega))) | ((with_reducible refine Below.alloc ?_ ?ha _); (case ha => first | omega | (simp; try omega))))) (hb1.mono (by first | omega | (simp; done) | (simp; omega))))
  clear hb1
  go_wp2_with fail
  refine (S.out _).mono ?_
  rintro e w2 ⟨v0, rfl, hv, hb2⟩
  obtain ⟨A0, c0, rfl, hM⟩ := mk_of hv
  rw [← HR.out] at hM
  have M0 := Lib.hid hM
  clear hM hv
  have z2 : w.heap.size < w2.heap.size := (by have q := hb2.size; (try simp at q); omega)
  have c02 : w2.cell? ⟨w.heap.size, 0, none⟩ = some (.int .i64 i) := (hb2.cell (p := ⟨w.heap.size, 0, none⟩) (by first | omega | (simp; done) | (simp; omega))).trans (by first | assumption | (simp; done) | (simp; assumption) | (simp [go_sem, z1]; done) | (simp [go_sem, *]; done))
  have c12 : w2.cell? ⟨w.heap.size, 1, none⟩ = some (.float .f64 f) := (hb2.cell (p := ⟨w.heap.size, 1, none⟩) (by first | omega | (simp; done) | (simp; omega))).trans (by first | assumption | (simp; done) | (simp; assumption) | (simp [go_sem, z1]; done) | (simp [go_sem, *]; done))
  have c22 : w2.cell? ⟨w.heap.size, 2, none⟩ = some (.float .f64 g) := (hb2.cell (p := ⟨w.heap.size, 2, none⟩) (by first | omega | (simp; done) | (simp; omega))).trans (by first | assumption | (simp; done) | (simp; assumption) | (simp [go_sem, z1]; done) | (simp [go_sem, *]; done))
  have B2 : Hid (Below w.heap.size w w2) := Lib.hid (Below.trans (by repeat (first | (with_reducible exact B1.out) | (with_reducible apply below_drewN) | (with_reducible apply Below.drew) | ((with_reducible refine Below.setCell ?_ ?hs _); (case hs => first | omega | (simp; try omega))) | ((with_reducible refine Below.alloc ?_ ?ha _); (case ha => first | omega | (simp; try omega))))) (hb2.mono (by first | omega | (simp; done) | (simp; omega))))
  clear hb2
  go_wp2_with fail
  refine (to_cell i f g _).mono ?_
  rintro e w3 ⟨rfl, hb3⟩
  have z3 : w.heap.size < w3.heap.size := (by have q := hb3.size; (try simp at q); omega)
  have c03 : w3.cell? ⟨w.heap.size, 0, none⟩ = some (.int .i64 i) := (hb3.cell (p := ⟨w.heap.size, 0, none⟩) (by first | omega | (simp; done) | (simp; omega))).trans (by first | assumption | (simp; done) | (simp; assumption) | (simp [go_sem, z2]; done) | (simp [go_sem, *]; done))
  have c13 : w3.cell? ⟨w.heap.size, 1, none⟩ = some (.float .f64 f) := (hb3.cell (p := ⟨w.heap.size, 1, none⟩) (by first | omega | (simp; done) | (simp; omega))).trans (by first | assumption | (simp; done) | (simp; assumption) | (simp [go_sem, z2]; done) | (simp [go_sem, *]; done))
  have c23 : w3.cell? ⟨w.heap.size, 2, none⟩ = some (.float .f64 g) := (hb3.cell (p := ⟨w.heap.size, 2, none⟩) (by first | omega | (simp; done) | (simp; omega))).trans (by first | assumption | (simp; done) | (simp; assumption) | (simp [go_sem, z2]; done) | (simp [go_sem, *]; done))
  have B3 : Hid (Below w.heap.size w w3) := Lib.hid (Below.trans (by repeat (first | (with_reducible exact B2.out) | (with_reducible apply below_drewN) | (with_reducible apply Below.drew) | ((with_reducible refine Below.setCell ?_ ?hs _); (case hs => first | omega | (simp; try omega))) | ((with_reducible refine Below.alloc ?_ ?ha _); (case ha => first | omega | (simp; try omega))))) (hb3.mono (by first | omega | (simp; done) | (simp; omega))))
  have Q2_3 : Hid (Below w2.heap.size w2 w3) := Lib.hid (Below.trans (by repeat (first | (with_reducible exact Below.refl _ _) | (with_reducible apply below_drewN) | (with_reducible apply Below.drew) | ((with_reducible refine Below.setCell ?_ ?hs _); (case hs => first | omega | (simp; try omega))) | ((with_reducible refine Below.alloc ?_ ?ha _); (case ha => first | omega | (simp; try omega))))) (hb3.mono (by (first | omega | (simp; done) | (simp; omega)))))
  clear hb3
  go_wp2_with fail
  refine (I.out _ (Table.holds_below HT.out (by repeat (first | (with_reducible exact B3.out) | (with_reducible apply below_drewN) | (with_reducible apply Below.drew) | ((with_reducible refine Below.setCell ?_ ?hs _); (case hs => first | omega | (simp; try omega))) | ((with_reducible refine Below.alloc ?_ ?ha _); (case ha => first | omega | (simp; try omega))))) h0) (tab_below HP.out (by repeat (first | (with_reducible exact B3.out) | (with_reducible apply below_drewN) | (with_reducible apply Below.drew) | ((with_reducible refine Below.setCell ?_ ?hs _); (case hs => first | omega | (simp; try omega))) | ((with_reducible refine Below.alloc ?_ ?ha _); (case ha => first | omega | (simp; try omega))))))).mono ?_
  rintro e w4 ⟨v1, rfl, hv, hb4⟩
  obtain ⟨A1, c1, rfl, hM⟩ := mk_of hv
  rw [← HR.out] at hM
  have M1 := Lib.hid hM
  clear hM hv
  have z4 : w.heap.size < w4.heap.size := (by have q := hb4.size; (try simp at q); omega)
  have c04 : w4.cell? ⟨w.heap.size, 0, none⟩ = some (.int .i64 i) := (hb4.cell (p := ⟨w.heap.size, 0, none⟩) (by first | omega | (simp; done) | (simp; omega))).trans (by first | assumption | (simp; done) | (simp; assumption) | (simp [go_sem, z3]; done) | (simp [go_sem, *]; done))
  have c14 : w4.cell? ⟨w.heap.size, 1, none⟩ = some (.float .f64 f) := (hb4.cell (p := ⟨w.heap.size, 1, none⟩) (by first | omega | (simp; done) | (simp; omega))).trans (by first | assumption | (simp; done) | (simp; assumption) | (simp [go_sem, z3]; done) | (simp [go_sem, *]; done))
  have c24 : w4.cell? ⟨w.heap.size, 2, none⟩ = some (.float .f64 g) := (hb4.cell (p := ⟨w.heap.size, 2, none⟩) (by first | omega | (simp; done) | (simp; omega))).trans (by first | assumption | (simp; done) | (simp; assumption) | (simp [go_sem, z3]; done) | (simp [go_sem, *]; done))
  have B4 : Hid (Below w.heap.size w w4) := Lib.hid (Below.trans (by repeat (first | (with_reducible exact B3.out) | (with_reducible apply below_drewN) | (with_reducible apply Below.drew) | ((with_reducible refine Below.setCell ?_ ?hs _); (case hs => first | omega | (simp; try omega))) | ((with_reducible refine Below.alloc ?_ ?ha _); (case ha => first | omega | (simp; try omega))))) (hb4.mono (by first | omega | (simp; done) | (simp; omega))))
  have Q2_4 : Hid (Below w2.heap.size w2 w4) := Lib.hid (Below.trans (by repeat (first | (with_reducible exact Q2_3.out) | (with_reducible apply below_drewN) | (with_reducible apply Below.drew) | ((with_reducible refine Below.setCell ?_ ?hs _); (case hs => first | omega | (simp; try omega))) | ((with_reducible refine Below.alloc ?_ ?ha _); (case ha => first | omega | (simp; try omega))))) (hb4.mono (by (have q1 := Q2_3.out.size; (try simp); omega))))
  have Q3_4 : Hid (Below w3.heap.size w3 w4) := Lib.hid (Below.trans (by repeat (first | (with_reducible exact Below.refl _ _) | (with_reducible apply below_drewN) | (with_reducible apply Below.drew) | ((with_reducible refine Below.setCell ?_ ?hs _); (case hs => first | omega | (simp; try omega))) | ((with_reducible refine Below.alloc ?_ ?ha _); (case ha => first | omega | (simp; try omega))))) (hb4.mono (by (first | omega | (simp; done) | (simp; omega)))))
  clear hb4
  go_wp2_with fail
  refine (eq_bytes A1 A0 c1 c0 l.length r HL.out _ (mk_rd M1.out) (mk_rd (mk_below M0.out Q2_4.out))).mono ?_
  rintro e w5 ⟨rfl, hb5⟩
  have z5 : w.heap.size < w5.heap.size := (by have q := hb5.size; (try simp at q); omega)
  have c05 : w5.cell? ⟨w.heap.size, 0, none⟩ = some (.int .i64 i) := (hb5.cell (p := ⟨w.heap.size, 0, none⟩) (by first | omega | (simp; done) | (simp; omega))).trans (by first | assumption | (simp; done) | (simp; assumption) | (simp [go_sem, z4]; done) | (simp [go_sem, *]; done))
  have c15 : w5.cell? ⟨w.heap.size, 1, none⟩ = some (.float .f64 f) := (hb5.cell (p := ⟨w.heap.size, 1, none⟩) (by first | omega | (simp; done) | (simp; omega))).trans (by first | assumption | (simp; done) | (simp; assumption) | (simp [go_sem, z4]; done) | (simp [go_sem, *]; done))
  have c25 : w5.cell? ⟨w.heap.size, 2, none⟩ = some (.float .f64 g) := (hb5.cell (p := ⟨w.heap.size, 2, none⟩) (by first | omega | (simp; done) | (simp; omega))).trans (by first | assumption | (simp; done) | (simp; assumption) | (simp [go_sem, z4]; done) | (simp [go_sem, *]; done))
  have B5 : Hid (Below w.heap.size w w5) := Lib.hid (Below.trans (by repeat (first | (with_reducible exact B4.out) | (with_reducible apply below_drewN) | (with_reducible apply Below.drew) | ((with_reducible refine Below.setCell ?_ ?hs _); (case hs => first | omega | (simp; try omega))) | ((with_reducible refine Below.alloc ?_ ?ha _); (case ha => first | omega | (simp; try omega))))) (hb5.mono (by first | omega | (simp; done) | (simp; omega))))
  have Q2_5 : Hid (Below w2.heap.size w2 w5) := Lib.hid (Below.trans (by repeat (first | (with_reducible exact Q2_4.out) | (with_reducible apply below_drewN) | (with_reducible apply Below.drew) | ((with_reducible refine Below.setCell ?_ ?hs _); (case hs => first | omega | (simp; try omega))) | ((with_reducible refine Below.alloc ?_ ?ha _); (case ha => first | omega | (simp; try omega))))) (hb5.mono (by (have q1 := Q2_4.out.size; (try simp); omega))))
  have Q3_5 : Hid (Below w3.heap.size w3 w5) := Lib.hid (Below.trans (by repeat (first | (with_reducible exact Q3_4.out) | (with_reducible apply below_drewN) | (with_reducible apply Below.drew) | ((with_reducible refine Below.setCell ?_ ?hs _); (case hs => first | omega | (simp; try omega))) | ((with_reducible refine Below.alloc ?_ ?ha _); (case ha => first | omega | (simp; try omega))))) (hb5.mono (by (have q1 := Q3_4.out.size; (try simp); omega))))
  have Q4_5 : Hid (Below w4.heap.size w4 w5) := Lib.hid (Below.trans (by repeat (first | (with_reducible exact Below.refl _ _) | (with_reducible apply below_drewN) | (with_reducible apply Below.drew) | ((with_reducible refine Below.setCell ?_ ?hs _); (case hs => first | omega | (simp; try omega))) | ((with_reducible refine Below.alloc ?_ ?ha _); (case ha => first | omega | (simp; try omega))))) (hb5.mono (by (first | omega | (simp; done) | (simp; omega)))))
  clear hb5
  go_wp2_with fail
  refine (mark_bytes w3.heap.size A1 c1 l.length r HL.out _ Q3_5.out.size (mk_below M1.out Q4_5.out)).mono ?_
  rintro e w6 ⟨rfl, hM, hb6⟩
  have M6 := Lib.hid hM
  clear hM
  have z6 : w.heap.size < w6.heap.size := (by have q := hb6.size; (try simp at q); omega)
  have c06 : w6.cell? ⟨w.heap.size, 0, none⟩ = some (.int .i64 i) := (hb6.cell (p := ⟨w.heap.size, 0, none⟩) (by first | omega | (simp; done) | (simp; omega))).trans (by first | assumption | (simp; done) | (simp; assumption) | (simp [go_sem, z5]; done) | (simp [go_sem, *]; done))
  have c16 : w6.cell? ⟨w.heap.size, 1, none⟩ = some (.float .f64 f) := (hb6.cell (p := ⟨w.heap.size, 1, none⟩) (by first | omega | (simp; done) | (simp; omega))).trans (by first | assumption | (simp; done) | (simp; assumption) | (simp [go_sem, z5]; done) | (simp [go_sem, *]; done))
  have c26 : w6.cell? ⟨w.heap.size, 2, none⟩ = some (.float .f64 g) := (hb6.cell (p := ⟨w.heap.size, 2, none⟩) (by first | omega | (simp; done) | (simp; omega))).trans (by first | assumption | (simp; done) | (simp; assumption) | (simp [go_sem, z5]; done) | (simp [go_sem, *]; done))
  have B6 : Hid (Below w.heap.size w w6) := Lib.hid (Below.trans (by repeat (first | (with_reducible exact B5.out) | (with_reducible apply below_drewN) | (with_reducible apply Below.drew) | ((with_reducible refine Below.setCell ?_ ?hs _); (case hs => first | omega | (simp; try omega))) | ((with_reducible refine Below.alloc ?_ ?ha _); (case ha => first | omega | (simp; try omega))))) (hb6.mono (by first | omega | (simp; done) | (simp; omega))))
  have Q2_6 : Hid (Below w2.heap.size w2 w6) := Lib.hid (Below.trans (by repeat (first | (with_reducible exact Q2_5.out) | (with_reducible apply below_drewN) | (with_reducible apply Below.drew) | ((with_reducible refine Below.setCell ?_ ?hs _); (case hs => first | omega | (simp; try omega))) | ((with_reducible refine Below.alloc ?_ ?ha _); (case ha => first | omega | (simp; try omega))))) (hb6.mono (by (have q1 := Q2_5.out.size; have q2 := Q2_3.out.size; (try simp); omega))))
  clear hb6
  go_wp2_with fail
  refine (held_bytes A1 c1 l.length HL.out _ (mk_rd M6.out)).mono ?_
  rintro e w7 ⟨rfl, hb7⟩
  have z7 : w.heap.size < w7.heap.size := (by have q := hb7.size; (try simp at q); omega)
  have c07 : w7.cell? ⟨w.heap.size, 0, none⟩ = some (.int .i64 i) := (hb7.cell (p := ⟨w.heap.size, 0, none⟩) (by first | omega | (simp; done) | (simp; omega))).trans (by first | assumption | (simp; done) | (simp; assumption) | (simp [go_sem, z6]; done) | (simp [go_sem, *]; done))
  have c17 : w7.cell? ⟨w.heap.size, 1, none⟩ = some (.float .f64 f) := (hb7.cell (p := ⟨w.heap.size, 1, none⟩) (by first | omega | (simp; done) | (simp; omega))).trans (by first | assumption | (simp; done) | (simp; assumption) | (simp [go_sem, z6]; done) | (simp [go_sem, *]; done))
  have c27 : w7.cell? ⟨w.heap.size, 2, none⟩ = some (.float .f64 g) := (hb7.cell (p := ⟨w.heap.size, 2, none⟩) (by first | omega | (simp; done) | (simp; omega))).trans (by first | assumption | (simp; done) | (simp; assumption) | (simp [go_sem, z6]; done) | (simp [go_sem, *]; done))
  have B7 : Hid (Below w.heap.size w w7) := Lib.hid (Below.trans (by repeat (first | (with_reducible exact B6.out) | (with_reducible apply below_drewN) | (with_reducible apply Below.drew) | ((with_reducible refine Below.setCell ?_ ?hs _); (case hs => first | omega | (simp; try omega))) | ((with_reducible refine Below.alloc ?_ ?ha _); (case ha => first | omega | (simp; try omega))))) (hb7.mono (by first | omega | (simp; done) | (simp; omega))))
  have Q2_7 : Hid (Below w2.heap.size w2 w7) := Lib.hid (Below.trans (by repeat (first | (with_reducible exact Q2_6.out) | (with_reducible apply below_drewN) | (with_reducible apply Below.drew) | ((with_reducible refine Below.setCell ?_ ?hs _); (case hs => first | omega | (simp; try omega))) | ((with_reducible refine Below.alloc ?_ ?ha _); (case ha => first | omega | (simp; try omega))))) (hb7.mono (by (have q1 := Q2_6.out.size; (try simp); omega))))
  have Q6_7 : Hid (Below w6.heap.size w6 w7) := Lib.hid (Below.trans (by repeat (first | (with_reducible exact Below.refl _ _) | (with_reducible apply below_drewN) | (with_reducible apply Below.drew) | ((with_reducible refine Below.setCell ?_ ?hs _); (case hs => first | omega | (simp; try omega))) | ((with_reducible refine Below.alloc ?_ ?ha _); (case ha => first | omega | (simp; try omega))))) (hb7.mono (by (first | omega | (simp; done) | (simp; omega)))))
  clear hb7
  have k1 : decide ((1 : Int) + (l.length : Int) < 0) = false := decide_eq_false (by omega)
  go_wp2_with fail
  refine (to_cell i f g _).mono ?_
  rintro e w8 ⟨rfl, hb8⟩
  have z8 : w.heap.size < w8.heap.size := (by have q := hb8.size; (try simp at q); omega)
  have c08 : w8.cell? ⟨w.heap.size, 0, none⟩ = some (.int .i64 i) := (hb8.cell (p := ⟨w.heap.size, 0, none⟩) (by first | omega | (simp; done) | (simp; omega))).trans (by first | assumption | (simp; done) | (simp; assumption) | (simp [go_sem, z7]; done) | (simp [go_sem, *]; done))
  have c18 : w8.cell? ⟨w.heap.size, 1, none⟩ = some (.float .f64 f) := (hb8.cell (p := ⟨w.heap.size, 1, none⟩) (by first | omega | (simp; done) | (simp; omega))).trans (by first | assumption | (simp; done) | (simp; assumption) | (simp [go_sem, z7]; done) | (simp [go_sem, *]; done))
  have c28 : w8.cell? ⟨w.heap.size, 2, none⟩ = some (.float .f64 g) := (hb8.cell (p := ⟨w.heap.size, 2, none⟩) (by first | omega | (simp; done) | (simp; omega))).trans (by first | assumption | (simp; done) | (simp; assumption) | (simp [go_sem, z7]; done) | (simp [go_sem, *]; done))
  have B8 : Hid (Below w.heap.size w w8) := Lib.hid (Below.trans (by repeat (first | (with_reducible exact B7.out) | (with_reducible apply below_drewN) | (with_reducible apply Below.drew) | ((with_reducible refine Below.setCell ?_ ?hs _); (case hs => first | omega | (simp; try omega))) | ((with_reducible refine Below.alloc ?_ ?ha _); (case ha => first | omega | (simp; try omega))))) (hb8.mono (by first | omega | (simp; done) | (simp; omega))))
  have Q2_8 : Hid (Below w2.heap.size w2 w8) := Lib.hid (Below.trans (by repeat (first | (with_reducible exact Q2_7.out) | (with_reducible apply below_drewN) | (with_reducible apply Below.drew) | ((with_reducible refine Below.setCell ?_ ?hs _); (case hs => first | omega | (simp; try omega))) | ((with_reducible refine Below.alloc ?_ ?ha _); (case ha => first | omega | (simp; try omega))))) (hb8.mono (by (have q1 := Q2_7.out.size; (try simp); omega))))
  have Q6_8 : Hid (Below w6.heap.size w6 w8) := Lib.hid (Below.trans (by repeat (first | (with_reducible exact Q6_7.out) | (with_reducible apply below_drewN) | (with_reducible apply Below.drew) | ((with_reducible refine Below.setCell ?_ ?hs _); (case hs => first | omega | (simp; try omega))) | ((with_reducible refine Below.alloc ?_ ?ha _); (case ha => first | omega | (simp; try omega))))) (hb8.mono (by (have q1 := Q6_7.out.size; (try simp); omega))))
  clear hb8
  go_wp2_with fail
  refine (I.out _ (Table.holds_below HT.out (by repeat (first | (with_reducible exact B8.out) | (with_reducible apply below_drewN) | (with_reducible apply Below.drew) | ((with_reducible refine Below.setCell ?_ ?hs _); (case hs => first | omega | (simp; try omega))) | ((with_reducible refine Below.alloc ?_ ?ha _); (case ha => first | omega | (simp; try omega))))) h0) (tab_below HP.out (by repeat (first | (with_reducible exact B8.out) | (with_reducible apply below_drewN) | (with_reducible apply Below.drew) | ((with_reducible refine Below.setCell ?_ ?hs _); (case hs => first | omega | (simp; try omega))) | ((with_reducible refine Below.alloc ?_ ?ha _); (case ha => first | omega | (simp; try omega))))))).mono ?_
  rintro e w9 ⟨v2, rfl, hv, hb9⟩
  obtain ⟨A2, c2, rfl, hM⟩ := mk_of hv
  rw [← HR.out] at hM
  have M2 := Lib.hid hM
  clear hM hv
  have z9 : w.heap.size < w9.heap.size := (by have q := hb9.size; (try simp at q); omega)
  have c09 : w9.cell? ⟨w.heap.size, 0, none⟩ = some (.int .i64 i) := (hb9.cell (p := ⟨w.heap.size, 0, none⟩) (by first | omega | (simp; done) | (simp; omega))).trans (by first | assumption | (simp; done) | (simp; assumption) | (simp [go_sem, z8]; done) | (simp [go_sem, *]; done))
  have c19 : w9.cell? ⟨w.heap.size, 1, none⟩ = some (.float .f64 f) := (hb9.cell (p := ⟨w.heap.size, 1, none⟩) (by first | omega | (simp; done) | (simp; omega))).trans (by first | assumption | (simp; done) | (simp; assumption) | (simp [go_sem, z8]; done) | (simp [go_sem, *]; done))
  have c29 : w9.cell? ⟨w.heap.size, 2, none⟩ = some (.float .f64 g) := (hb9.cell (p := ⟨w.heap.size, 2, none⟩) (by first | omega | (simp; done) | (simp; omega))).trans (by first | assumption | (simp; done) | (simp; assumption) | (simp [go_sem, z8]; done) | (simp [go_sem, *]; done))
  have B9 : Hid (Below w.heap.size w w9) := Lib.hid (Below.trans (by repeat (first | (with_reducible exact B8.out) | (with_reducible apply below_drewN) | (with_reducible apply Below.drew) | ((with_reducible refine Below.setCell ?_ ?hs _); (case hs => first | omega | (simp; try omega))) | ((with_reducible refine Below.alloc ?_ ?ha _); (case ha => first | omega | (simp; try omega))))) (hb9.mono (by first | omega | (simp; done) | (simp; omega))))
  have Q2_9 : Hid (Below w2.heap.size w2 w9) := Lib.hid (Below.trans (by repeat (first | (with_reducible exact Q2_8.out) | (with_reducible apply below_drewN) | (with_reducible apply Below.drew) | ((with_reducible refine Below.setCell ?_ ?hs _); (case hs => first | omega | (simp; try omega))) | ((with_reducible refine Below.alloc ?_ ?ha _); (case ha => first | omega | (simp; try omega))))) (hb9.mono (by (have q1 := Q2_8.out.size; (try simp); omega))))
  have Q6_9 : Hid (Below w6.heap.size w6 w9) := Lib.hid (Below.trans (by repeat (first | (with_reducible exact Q6_8.out) | (with_reducible apply below_drewN) | (with_reducible apply Below.drew) | ((with_reducible refine Below.setCell ?_ ?hs _); (case hs => first | omega | (simp; try omega))) | ((with_reducible refine Below.alloc ?_ ?ha _); (case ha => first | omega | (simp; try omega))))) (hb9.mono (by (have q1 := Q6_8.out.size; (try simp); omega))))
  clear hb9
  go_wp2_with fail
  refine (eq_bytes A2 A0 c2 c0 l.length r HL.out _ (mk_rd M2.out) (mk_rd (mk_below M0.out Q2_9.out))).mono ?_
  rintro e w10 ⟨rfl, hb10⟩
  have z10 : w.heap.size < w10.heap.size := (by have q := hb10.size; (try simp at q); omega)
  have c010 : w10.cell? ⟨w.heap.size, 0, none⟩ = some (.int .i64 i) := (hb10.cell (p := ⟨w.heap.size, 0, none⟩) (by first | omega | (simp; done) | (simp; omega))).trans (by first | assumption | (simp; done) | (simp; assumption) | (simp [go_sem, z9]; done) | (simp [go_sem, *]; done))
  have c110 : w10.cell? ⟨w.heap.size, 1, none⟩ = some (.float .f64 f) := (hb10.cell (p := ⟨w.heap.size, 1, none⟩) (by first | omega | (simp; done) | (simp; omega))).trans (by first | assumption | (simp; done) | (simp; assumption) | (simp [go_sem, z9]; done) | (simp [go_sem, *]; done))
  have c210 : w10.cell? ⟨w.heap.size, 2, none⟩ = some (.float .f64 g) := (hb10.cell (p := ⟨w.heap.size, 2, none⟩) (by first | omega | (simp; done) | (simp; omega))).trans (by first | assumption | (simp; done) | (simp; assumption) | (simp [go_sem, z9]; done) | (simp [go_sem, *]; done))
  have B10 : Hid (Below w.heap.size w w10) := Lib.hid (Below.trans (by repeat (first | (with_reducible exact B9.out) | (with_reducible apply below_drewN) | (with_reducible apply Below.drew) | ((with_reducible refine Below.setCell ?_ ?hs _); (case hs => first | omega | (simp; try omega))) | ((with_reducible refine Below.alloc ?_ ?ha _); (case ha => first | omega | (simp; try omega))))) (hb10.mono (by first | omega | (simp; done) | (simp; omega))))
  have Q6_10 : Hid (Below w6.heap.size w6 w10) := Lib.hid (Below.trans (by repeat (first | (with_reducible exact Q6_9.out) | (with_reducible apply below_drewN) | (with_reducible apply Below.drew) | ((with_reducible refine Below.setCell ?_ ?hs _); (case hs => first | omega | (simp; try omega))) | ((with_reducible refine Below.alloc ?_ ?ha _); (case ha => first | omega | (simp; try omega))))) (hb10.mono (by (have q1 := Q6_9.out.size; (try simp); omega))))
  clear hb10
  go_wp2_with fail
  refine (held_bytes A1 c1 l.length HL.out _ (mk_rd (mk_below M6.out Q6_10.out))).mono ?_
  rintro e w11 ⟨rfl, hb11⟩
  have z11 : w.heap.size < w11.heap.size := (by have q := hb11.size; (try simp at q); omega)
  have c011 : w11.cell? ⟨w.heap.size, 0, none⟩ = some (.int .i64 i) := (hb11.cell (p := ⟨w.heap.size, 0, none⟩) (by first | omega | (simp; done) | (simp; omega))).trans (by first | assumption | (simp; done) | (simp; assumption) | (simp [go_sem, z10]; done) | (simp [go_sem, *]; done))
  have c111 : w11.cell? ⟨w.heap.size, 1, none⟩ = some (.float .f64 f) := (hb11.cell (p := ⟨w.heap.size, 1, none⟩) (by first | omega | (simp; done) | (simp; omega))).trans (by first | assumption | (simp; done) | (simp; assumption) | (simp [go_sem, z10]; done) | (simp [go_sem, *]; done))
  have c211 : w11.cell? ⟨w.heap.size, 2, none⟩ = some (.float .f64 g) := (hb11.cell (p := ⟨w.heap.size, 2, none⟩) (by first | omega | (simp; done) | (simp; omega))).trans (by first | assumption | (simp; done) | (simp; assumption) | (simp [go_sem, z10]; done) | (simp [go_sem, *]; done))
  have B11 : Hid (Below w.heap.size w w11) := Lib.hid (Below.trans (by repeat (first | (with_reducible exact B10.out) | (with_reducible apply below_drewN) | (with_reducible apply Below.drew) | ((with_reducible refine Below.setCell ?_ ?hs _); (case hs => first | omega | (simp; try omega))) | ((with_reducible refine Below.alloc ?_ ?ha _); (case ha => first | omega | (simp; try omega))))) (hb11.mono (by first | omega | (simp; done) | (simp; omega))))
  clear hb11
  go_wp2_with fail
  go_ret
  exact ⟨rfl, B11.out⟩

end Go.Proofs.YtpmdgmnpkdoamabDoor.Vc
