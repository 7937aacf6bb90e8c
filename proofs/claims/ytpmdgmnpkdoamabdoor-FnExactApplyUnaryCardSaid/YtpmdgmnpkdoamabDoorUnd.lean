/- Proved here: what spec.ApplyUnary answers for the absolute value. Conditions: the words are of their kind. -/
import Derived.Test.YtpmdgmnpkdoamabDoorUnc
namespace Go.Proofs.YtpmdgmnpkdoamabDoor.Vc
open Go.RowKit Fl Prom
set_option linter.unusedSimpArgs false
set_option linter.unusedVariables false
attribute [local go_sem] run_store_float'
set_option maxHeartbeats 4000000 in
theorem spec_au_3_1n (a i : Int) (hc : a = 2 ∨ a = 3 ∨ a = 4 ∨ a = 5 ∨ a = 6) (hi : i < 0) (h1 : isdt a = true) (h2 : hasU 3 a = true) (hk : kindI a = 1) (hv : vcell a i 0 0 = true) (w : World) :
    Calls Tryd.prog 27 #[.int .i64 3, .int .i64 a, .agg #[.int .i64 i, .float .f64 0, .float .f64 0]] w (SpW 0 a (cutI a (wrap64 (-i))) 0 0 w) := by
  have HC := Lib.hid hc
  clear hc
  have li : decide (i < 0) = true := decide_eq_true hi
  clear hi
  have I := fun w => spec_isd a w
  have S := fun w => spec_hasU 3 a w
  simp only [h1] at I
  simp only [h2] at S
  have V := fun w => spec_vcell a i 0 0 (by decide) (by decide) w
  simp only [hv] at V
  have KK := fun w => spec_kind a w
  simp only [hk] at KK
  have I := Lib.hid I
  have S := Lib.hid S
  have V := Lib.hid V
  have KK := Lib.hid KK
  have HK := Lib.hid hk
  clear h1 h2 hv hk
  go_enter Tryd.func27, Tryd.ntmps27
  go_wp2_with fail
  refine (I.out _).mono ?_
  rintro e w' ⟨rfl, rfl⟩
  go_wp2_with fail
  refine (S.out _).mono ?_
  rintro e w' ⟨rfl, rfl⟩
  go_wp2_with fail
  refine (V.out _).mono ?_
  rintro e w1 ⟨rfl, hb1⟩
  have z1 : w.heap.size + 1 < w1.heap.size := by have := hb1.size; simp at this; omega
  have z2 : w.heap.size < w1.heap.size := by omega
  have p0 : w1.cell? ⟨w.heap.size, 0, none⟩ = some (.int .i64 i) := (hb1.cell (p := ⟨w.heap.size, 0, none⟩) (by first | omega | (simp; done) | (simp; omega))).trans (by simp)
  have p1 : w1.cell? ⟨w.heap.size, 1, none⟩ = some (.float .f64 0) := (hb1.cell (p := ⟨w.heap.size, 1, none⟩) (by first | omega | (simp; done) | (simp; omega))).trans (by simp)
  have p2 : w1.cell? ⟨w.heap.size, 2, none⟩ = some (.float .f64 0) := (hb1.cell (p := ⟨w.heap.size, 2, none⟩) (by first | omega | (simp; done) | (simp; omega))).trans (by simp)
  have c0 : w1.cell? ⟨w.heap.size + 1, 0, none⟩ = some (.int .i64 0) := (hb1.cell (p := ⟨w.heap.size + 1, 0, none⟩) (by first | omega | (simp; done) | (simp; omega))).trans (by simp)
  have d0 : w1.frozen? ⟨w.heap.size + 1, 0, none⟩ = false := (hb1.frozen (p := ⟨w.heap.size + 1, 0, none⟩) (by first | omega | (simp; done) | (simp; omega))).trans (by simp)
  have c1 : w1.cell? ⟨w.heap.size + 1, 1, none⟩ = some (.int .i64 0) := (hb1.cell (p := ⟨w.heap.size + 1, 1, none⟩) (by first | omega | (simp; done) | (simp; omega))).trans (by simp)
  have d1 : w1.frozen? ⟨w.heap.size + 1, 1, none⟩ = false := (hb1.frozen (p := ⟨w.heap.size + 1, 1, none⟩) (by first | omega | (simp; done) | (simp; omega))).trans (by simp)
  have c2 : w1.cell? ⟨w.heap.size + 1, 2, none⟩ = some (.int .i64 0) := (hb1.cell (p := ⟨w.heap.size + 1, 2, none⟩) (by first | omega | (simp; done) | (simp; omega))).trans (by simp)
  have d2 : w1.frozen? ⟨w.heap.size + 1, 2, none⟩ = false := (hb1.frozen (p := ⟨w.heap.size + 1, 2, none⟩) (by first | omega | (simp; done) | (simp; omega))).trans (by simp)
  have c3 : w1.cell? ⟨w.heap.size + 1, 3, none⟩ = some (.float .f64 0) := (hb1.cell (p := ⟨w.heap.size + 1, 3, none⟩) (by first | omega | (simp; done) | (simp; omega))).trans (by simp)
  have d3 : w1.frozen? ⟨w.heap.size + 1, 3, none⟩ = false := (hb1.frozen (p := ⟨w.heap.size + 1, 3, none⟩) (by first | omega | (simp; done) | (simp; omega))).trans (by simp)
  have c4 : w1.cell? ⟨w.heap.size + 1, 4, none⟩ = some (.float .f64 0) := (hb1.cell (p := ⟨w.heap.size + 1, 4, none⟩) (by first | omega | (simp; done) | (simp; omega))).trans (by simp)
  have d4 : w1.frozen? ⟨w.heap.size + 1, 4, none⟩ = false := (hb1.frozen (p := ⟨w.heap.size + 1, 4, none⟩) (by first | omega | (simp; done) | (simp; omega))).trans (by simp)
  have B1 := Lib.hid ((((Below.refl w.heap.size w).alloc (Nat.le_refl _) _).alloc (by simp) _).trans (hb1.mono (by simp; try omega)))
  clear hb1
  go_wp2_with fail
  refine (KK.out _).mono ?_
  rintro e w' ⟨rfl, rfl⟩
  go_wp2_with fail
  refine (spec_cut a (wrap64 (-i)) HC.out (wrap_range _) _).mono ?_
  rintro e w' ⟨rfl, rfl⟩
  go_wp2_with fail
  have s0 := World.cell?_setCell_same w1 ⟨w.heap.size + 1, 0, none⟩ (.int .i64 0) c0
  have s1 := World.cell?_setCell_same (w1.setCell ⟨w.heap.size + 1, 0, none⟩ (.int .i64 0)) ⟨w.heap.size + 1, 1, none⟩ (.int .i64 a) ((World.cell?_setCell_other _ _ _ _ (by simp)).trans c1)
  have s2 := World.cell?_setCell_same ((w1.setCell ⟨w.heap.size + 1, 0, none⟩ (.int .i64 0)).setCell ⟨w.heap.size + 1, 1, none⟩ (.int .i64 a)) ⟨w.heap.size + 1, 2, none⟩ (.int .i64 (cutI a (wrap64 (-i)))) ((World.cell?_setCell_other _ _ _ _ (by simp)).trans ((World.cell?_setCell_other _ _ _ _ (by simp)).trans c2))
  have s3 := World.cell?_setCell_same (((w1.setCell ⟨w.heap.size + 1, 0, none⟩ (.int .i64 0)).setCell ⟨w.heap.size + 1, 1, none⟩ (.int .i64 a)).setCell ⟨w.heap.size + 1, 2, none⟩ (.int .i64 (cutI a (wrap64 (-i))))) ⟨w.heap.size + 1, 3, none⟩ (.float .f64 0) ((World.cell?_setCell_other _ _ _ _ (by simp)).trans ((World.cell?_setCell_other _ _ _ _ (by simp)).trans ((World.cell?_setCell_other _ _ _ _ (by simp)).trans c3)))
  have s4 := World.cell?_setCell_same ((((w1.setCell ⟨w.heap.size + 1, 0, none⟩ (.int .i64 0)).setCell ⟨w.heap.size + 1, 1, none⟩ (.int .i64 a)).setCell ⟨w.heap.size + 1, 2, none⟩ (.int .i64 (cutI a (wrap64 (-i))))).setCell ⟨w.heap.size + 1, 3, none⟩ (.float .f64 0)) ⟨w.heap.size + 1, 4, none⟩ (.float .f64 0) ((World.cell?_setCell_other _ _ _ _ (by simp)).trans ((World.cell?_setCell_other _ _ _ _ (by simp)).trans ((World.cell?_setCell_other _ _ _ _ (by simp)).trans ((World.cell?_setCell_other _ _ _ _ (by simp)).trans c4))))
  refine bodyPost_ret (v := .agg #[.int .i64 0, .int .i64 a, .int .i64 (cutI a (wrap64 (-i))), .float .f64 0, .float .f64 0]) (by simp [results, go_sem, s0, s1, s2, s3, s4, z1]) rfl ⟨0, 0, rfl, (by decide), (by decide), same_self _, same_self _, ?_⟩
  repeat (first | (with_reducible exact B1.out) | (with_reducible apply below_drewN) | (with_reducible apply Below.drew) | ((with_reducible refine Below.setCell ?_ ?hs _); (case hs => first | omega | (simp; try omega))) | ((with_reducible refine Below.alloc ?_ ?ha _); (case ha => first | omega | (simp; try omega))))
set_option maxHeartbeats 4000000 in
theorem spec_au_3_1p (a i : Int) (hi : ¬ i < 0) (h1 : isdt a = true) (h2 : hasU 3 a = true) (hk : kindI a = 1) (hv : vcell a i 0 0 = true) (w : World) :
    Calls Tryd.prog 27 #[.int .i64 3, .int .i64 a, .agg #[.int .i64 i, .float .f64 0, .float .f64 0]] w (SpW 0 a i 0 0 w) := by
  have o0 : (FloatKind.f64.format.order 0 0 == some Ordering.lt) = false := by decide
  have li : decide (i < 0) = false := decide_eq_false hi
  clear hi
  have I := fun w => spec_isd a w
  have S := fun w => spec_hasU 3 a w
  simp only [h1] at I
  simp only [h2] at S
  have V := fun w => spec_vcell a i 0 0 (by decide) (by decide) w
  simp only [hv] at V
  have KK := fun w => spec_kind a w
  simp only [hk] at KK
  have I := Lib.hid I
  have S := Lib.hid S
  have V := Lib.hid V
  have KK := Lib.hid KK
  have HK := Lib.hid hk
  clear h1 h2 hv hk
  go_enter Tryd.func27, Tryd.ntmps27
  go_wp2_with fail
  refine (I.out _).mono ?_
  rintro e w' ⟨rfl, rfl⟩
  go_wp2_with fail
  refine (S.out _).mono ?_
  rintro e w' ⟨rfl, rfl⟩
  go_wp2_with fail
  refine (V.out _).mono ?_
  rintro e w1 ⟨rfl, hb1⟩
  have z1 : w.heap.size + 1 < w1.heap.size := by have := hb1.size; simp at this; omega
  have z2 : w.heap.size < w1.heap.size := by omega
  have p0 : w1.cell? ⟨w.heap.size, 0, none⟩ = some (.int .i64 i) := (hb1.cell (p := ⟨w.heap.size, 0, none⟩) (by first | omega | (simp; done) | (simp; omega))).trans (by simp)
  have p1 : w1.cell? ⟨w.heap.size, 1, none⟩ = some (.float .f64 0) := (hb1.cell (p := ⟨w.heap.size, 1, none⟩) (by first | omega | (simp; done) | (simp; omega))).trans (by simp)
  have p2 : w1.cell? ⟨w.heap.size, 2, none⟩ = some (.float .f64 0) := (hb1.cell (p := ⟨w.heap.size, 2, none⟩) (by first | omega | (simp; done) | (simp; omega))).trans (by simp)
  have c0 : w1.cell? ⟨w.heap.size + 1, 0, none⟩ = some (.int .i64 0) := (hb1.cell (p := ⟨w.heap.size + 1, 0, none⟩) (by first | omega | (simp; done) | (simp; omega))).trans (by simp)
  have d0 : w1.frozen? ⟨w.heap.size + 1, 0, none⟩ = false := (hb1.frozen (p := ⟨w.heap.size + 1, 0, none⟩) (by first | omega | (simp; done) | (simp; omega))).trans (by simp)
  have c1 : w1.cell? ⟨w.heap.size + 1, 1, none⟩ = some (.int .i64 0) := (hb1.cell (p := ⟨w.heap.size + 1, 1, none⟩) (by first | omega | (simp; done) | (simp; omega))).trans (by simp)
  have d1 : w1.frozen? ⟨w.heap.size + 1, 1, none⟩ = false := (hb1.frozen (p := ⟨w.heap.size + 1, 1, none⟩) (by first | omega | (simp; done) | (simp; omega))).trans (by simp)
  have c2 : w1.cell? ⟨w.heap.size + 1, 2, none⟩ = some (.int .i64 0) := (hb1.cell (p := ⟨w.heap.size + 1, 2, none⟩) (by first | omega | (simp; done) | (simp; omega))).trans (by simp)
  have d2 : w1.frozen? ⟨w.heap.size + 1, 2, none⟩ = false := (hb1.frozen (p := ⟨w.heap.size + 1, 2, none⟩) (by first | omega | (simp; done) | (simp; omega))).trans (by simp)
  have c3 : w1.cell? ⟨w.heap.size + 1, 3, none⟩ = some (.float .f64 0) := (hb1.cell (p := ⟨w.heap.size + 1, 3, none⟩) (by first | omega | (simp; done) | (simp; omega))).trans (by simp)
  have d3 : w1.frozen? ⟨w.heap.size + 1, 3, none⟩ = false := (hb1.frozen (p := ⟨w.heap.size + 1, 3, none⟩) (by first | omega | (simp; done) | (simp; omega))).trans (by simp)
  have c4 : w1.cell? ⟨w.heap.size + 1, 4, none⟩ = some (.float .f64 0) := (hb1.cell (p := ⟨w.heap.size + 1, 4, none⟩) (by first | omega | (simp; done) | (simp; omega))).trans (by simp)
  have d4 : w1.frozen? ⟨w.heap.size + 1, 4, none⟩ = false := (hb1.frozen (p := ⟨w.heap.size + 1, 4, none⟩) (by first | omega | (simp; done) | (simp; omega))).trans (by simp)
  have B1 := Lib.hid ((((Below.refl w.heap.size w).alloc (Nat.le_refl _) _).alloc (by simp) _).trans (hb1.mono (by simp; try omega)))
  clear hb1
  go_wp2_with fail
  refine (KK.out _).mono ?_
  rintro e w' ⟨rfl, rfl⟩
  go_wp2_with fail
  have s0 := World.cell?_setCell_same w1 ⟨w.heap.size + 1, 0, none⟩ (.int .i64 0) c0
  have s1 := World.cell?_setCell_same (w1.setCell ⟨w.heap.size + 1, 0, none⟩ (.int .i64 0)) ⟨w.heap.size + 1, 1, none⟩ (.int .i64 a) ((World.cell?_setCell_other _ _ _ _ (by simp)).trans c1)
  have s2 := World.cell?_setCell_same ((w1.setCell ⟨w.heap.size + 1, 0, none⟩ (.int .i64 0)).setCell ⟨w.heap.size + 1, 1, none⟩ (.int .i64 a)) ⟨w.heap.size + 1, 2, none⟩ (.int .i64 i) ((World.cell?_setCell_other _ _ _ _ (by simp)).trans ((World.cell?_setCell_other _ _ _ _ (by simp)).trans c2))
  have s3 := World.cell?_setCell_same (((w1.setCell ⟨w.heap.size + 1, 0, none⟩ (.int .i64 0)).setCell ⟨w.heap.size + 1, 1, none⟩ (.int .i64 a)).setCell ⟨w.heap.size + 1, 2, none⟩ (.int .i64 i)) ⟨w.heap.size + 1, 3, none⟩ (.float .f64 0) ((World.cell?_setCell_other _ _ _ _ (by simp)).trans ((World.cell?_setCell_other _ _ _ _ (by simp)).trans ((World.cell?_setCell_other _ _ _ _ (by simp)).trans c3)))
  have s4 := World.cell?_setCell_same ((((w1.setCell ⟨w.heap.size + 1, 0, none⟩ (.int .i64 0)).setCell ⟨w.heap.size + 1, 1, none⟩ (.int .i64 a)).setCell ⟨w.heap.size + 1, 2, none⟩ (.int .i64 i)).setCell ⟨w.heap.size + 1, 3, none⟩ (.float .f64 0)) ⟨w.heap.size + 1, 4, none⟩ (.float .f64 0) ((World.cell?_setCell_other _ _ _ _ (by simp)).trans ((World.cell?_setCell_other _ _ _ _ (by simp)).trans ((World.cell?_setCell_other _ _ _ _ (by simp)).trans ((World.cell?_setCell_other _ _ _ _ (by simp)).trans c4))))
  refine bodyPost_ret (v := .agg #[.int .i64 0, .int .i64 a, .int .i64 i, .float .f64 0, .float .f64 0]) (by simp [results, go_sem, s0, s1, s2, s3, s4, z1]) rfl ⟨0, 0, rfl, (by decide), (by decide), same_self _, same_self _, ?_⟩
  repeat (first | (with_reducible exact B1.out) | (with_reducible apply below_drewN) | (with_reducible apply Below.drew) | ((with_reducible refine Below.setCell ?_ ?hs _); (case hs => first | omega | (simp; try omega))) | ((with_reducible refine Below.alloc ?_ ?ha _); (case ha => first | omega | (simp; try omega))))
set_option maxHeartbeats 4000000 in
theorem spec_au_3_2n (a : Int) (f : Nat) (hf : f < 18446744073709551616) (hlt : flt f 0 = true) (h1 : isdt a = true) (h2 : hasU 3 a = true) (hk : kindI a = 2) (hv : vcell a 0 f 0 = true) (w : World) :
    Calls Tryd.prog 27 #[.int .i64 3, .int .i64 a, .agg #[.int .i64 0, .float .f64 f, .float .f64 0]] w (SpW 0 a 0 (f % negZero) 0 w) := by
  have o1 : (FloatKind.f64.format.order f 0 == some Ordering.lt) = true := hlt
  have HL := Lib.hid hlt
  clear hlt
  have I := fun w => spec_isd a w
  have S := fun w => spec_hasU 3 a w
  simp only [h1] at I
  simp only [h2] at S
  have V := fun w => spec_vcell a 0 f 0 hf (by decide) w
  simp only [hv] at V
  have KK := fun w => spec_kind a w
  simp only [hk] at KK
  have I := Lib.hid I
  have S := Lib.hid S
  have V := Lib.hid V
  have KK := Lib.hid KK
  have HK := Lib.hid hk
  clear h1 h2 hv hk
  go_enter Tryd.func27, Tryd.ntmps27
  go_wp2_with fail
  refine (I.out _).mono ?_
  rintro e w' ⟨rfl, rfl⟩
  go_wp2_with fail
  refine (S.out _).mono ?_
  rintro e w' ⟨rfl, rfl⟩
  go_wp2_with fail
  refine (V.out _).mono ?_
  rintro e w1 ⟨rfl, hb1⟩
  have z1 : w.heap.size + 1 < w1.heap.size := by have := hb1.size; simp at this; omega
  have z2 : w.heap.size < w1.heap.size := by omega
  have p0 : w1.cell? ⟨w.heap.size, 0, none⟩ = some (.int .i64 0) := (hb1.cell (p := ⟨w.heap.size, 0, none⟩) (by first | omega | (simp; done) | (simp; omega))).trans (by simp)
  have p1 : w1.cell? ⟨w.heap.size, 1, none⟩ = some (.float .f64 f) := (hb1.cell (p := ⟨w.heap.size, 1, none⟩) (by first | omega | (simp; done) | (simp; omega))).trans (by simp)
  have p2 : w1.cell? ⟨w.heap.size, 2, none⟩ = some (.float .f64 0) := (hb1.cell (p := ⟨w.heap.size, 2, none⟩) (by first | omega | (simp; done) | (simp; omega))).trans (by simp)
  have c0 : w1.cell? ⟨w.heap.size + 1, 0, none⟩ = some (.int .i64 0) := (hb1.cell (p := ⟨w.heap.size + 1, 0, none⟩) (by first | omega | (simp; done) | (simp; omega))).trans (by simp)
  have d0 : w1.frozen? ⟨w.heap.size + 1, 0, none⟩ = false := (hb1.frozen (p := ⟨w.heap.size + 1, 0, none⟩) (by first | omega | (simp; done) | (simp; omega))).trans (by simp)
  have c1 : w1.cell? ⟨w.heap.size + 1, 1, none⟩ = some (.int .i64 0) := (hb1.cell (p := ⟨w.heap.size + 1, 1, none⟩) (by first | omega | (simp; done) | (simp; omega))).trans (by simp)
  have d1 : w1.frozen? ⟨w.heap.size + 1, 1, none⟩ = false := (hb1.frozen (p := ⟨w.heap.size + 1, 1, none⟩) (by first | omega | (simp; done) | (simp; omega))).trans (by simp)
  have c2 : w1.cell? ⟨w.heap.size + 1, 2, none⟩ = some (.int .i64 0) := (hb1.cell (p := ⟨w.heap.size + 1, 2, none⟩) (by first | omega | (simp; done) | (simp; omega))).trans (by simp)
  have d2 : w1.frozen? ⟨w.heap.size + 1, 2, none⟩ = false := (hb1.frozen (p := ⟨w.heap.size + 1, 2, none⟩) (by first | omega | (simp; done) | (simp; omega))).trans (by simp)
  have c3 : w1.cell? ⟨w.heap.size + 1, 3, none⟩ = some (.float .f64 0) := (hb1.cell (p := ⟨w.heap.size + 1, 3, none⟩) (by first | omega | (simp; done) | (simp; omega))).trans (by simp)
  have d3 : w1.frozen? ⟨w.heap.size + 1, 3, none⟩ = false := (hb1.frozen (p := ⟨w.heap.size + 1, 3, none⟩) (by first | omega | (simp; done) | (simp; omega))).trans (by simp)
  have c4 : w1.cell? ⟨w.heap.size + 1, 4, none⟩ = some (.float .f64 0) := (hb1.cell (p := ⟨w.heap.size + 1, 4, none⟩) (by first | omega | (simp; done) | (simp; omega))).trans (by simp)
  have d4 : w1.frozen? ⟨w.heap.size + 1, 4, none⟩ = false := (hb1.frozen (p := ⟨w.heap.size + 1, 4, none⟩) (by first | omega | (simp; done) | (simp; omega))).trans (by simp)
  have B1 := Lib.hid ((((Below.refl w.heap.size w).alloc (Nat.le_refl _) _).alloc (by simp) _).trans (hb1.mono (by simp; try omega)))
  clear hb1
  go_wp2_with fail
  refine (KK.out _).mono ?_
  rintro e w' ⟨rfl, rfl⟩
  go_wp2_with fail
  refine (spec_negate f hf _).mono ?_
  rintro e w' ⟨y, n, rfl, HY, rfl⟩
  have HYH := Lib.hid HY
  clear HY
  go_wp2_with fail
  have zz : ¬ w.heap.size + 1 = w1.heap.size := by omega
  obtain ⟨X, hX⟩ : ∃ X : World, ((w1.alloc (.cells #[.int .i64 0, .int .i64 a, .int .i64 0, .float .f64 f, .float .f64 0] 44)).drewN n).setCell ⟨w1.heap.size, 3, none⟩ (.float .f64 y) = X := ⟨_, rfl⟩
  have q0 : X.cell? ⟨w.heap.size + 1, 0, none⟩ = some (.int .i64 0) := by rw [← hX]; simp [go_sem, c0, z1, zz]
  have q1 : X.cell? ⟨w.heap.size + 1, 1, none⟩ = some (.int .i64 0) := by rw [← hX]; simp [go_sem, c1, z1, zz]
  have q2 : X.cell? ⟨w.heap.size + 1, 2, none⟩ = some (.int .i64 0) := by rw [← hX]; simp [go_sem, c2, z1, zz]
  have q3 : X.cell? ⟨w.heap.size + 1, 3, none⟩ = some (.float .f64 0) := by rw [← hX]; simp [go_sem, c3, z1, zz]
  have q4 : X.cell? ⟨w.heap.size + 1, 4, none⟩ = some (.float .f64 0) := by rw [← hX]; simp [go_sem, c4, z1, zz]
  have HB := Lib.hid (show Below w.heap.size w X by rw [← hX]; repeat (first | (with_reducible exact B1.out) | (with_reducible apply below_drewN) | (with_reducible apply Below.drew) | ((with_reducible refine Below.setCell ?_ ?hs _); (case hs => first | omega | (simp; try omega))) | ((with_reducible refine Below.alloc ?_ ?ha _); (case ha => first | omega | (simp; try omega)))))
  rw [hX]
  clear hX
  have s0 := World.cell?_setCell_same X ⟨w.heap.size + 1, 0, none⟩ (.int .i64 0) q0
  have s1 := World.cell?_setCell_same (X.setCell ⟨w.heap.size + 1, 0, none⟩ (.int .i64 0)) ⟨w.heap.size + 1, 1, none⟩ (.int .i64 a) ((World.cell?_setCell_other _ _ _ _ (by simp)).trans q1)
  have s2 := World.cell?_setCell_same ((X.setCell ⟨w.heap.size + 1, 0, none⟩ (.int .i64 0)).setCell ⟨w.heap.size + 1, 1, none⟩ (.int .i64 a)) ⟨w.heap.size + 1, 2, none⟩ (.int .i64 0) ((World.cell?_setCell_other _ _ _ _ (by simp)).trans ((World.cell?_setCell_other _ _ _ _ (by simp)).trans q2))
  have s3 := World.cell?_setCell_same (((X.setCell ⟨w.heap.size + 1, 0, none⟩ (.int .i64 0)).setCell ⟨w.heap.size + 1, 1, none⟩ (.int .i64 a)).setCell ⟨w.heap.size + 1, 2, none⟩ (.int .i64 0)) ⟨w.heap.size + 1, 3, none⟩ (.float .f64 y) ((World.cell?_setCell_other _ _ _ _ (by simp)).trans ((World.cell?_setCell_other _ _ _ _ (by simp)).trans ((World.cell?_setCell_other _ _ _ _ (by simp)).trans q3)))
  have s4 := World.cell?_setCell_same ((((X.setCell ⟨w.heap.size + 1, 0, none⟩ (.int .i64 0)).setCell ⟨w.heap.size + 1, 1, none⟩ (.int .i64 a)).setCell ⟨w.heap.size + 1, 2, none⟩ (.int .i64 0)).setCell ⟨w.heap.size + 1, 3, none⟩ (.float .f64 y)) ⟨w.heap.size + 1, 4, none⟩ (.float .f64 0) ((World.cell?_setCell_other _ _ _ _ (by simp)).trans ((World.cell?_setCell_other _ _ _ _ (by simp)).trans ((World.cell?_setCell_other _ _ _ _ (by simp)).trans ((World.cell?_setCell_other _ _ _ _ (by simp)).trans q4))))
  refine bodyPost_ret (v := .agg #[.int .i64 0, .int .i64 a, .int .i64 0, .float .f64 y, .float .f64 0]) (by simp [results, go_sem, s0, s1, s2, s3, s4]) rfl ⟨y, 0, rfl, HYH.out.1, (by decide), (abs_neg hf HL.out HYH.out), same_self _, ?_⟩
  repeat (first | (with_reducible exact HB.out) | (with_reducible apply below_drewN) | (with_reducible apply Below.drew) | ((with_reducible refine Below.setCell ?_ ?hs _); (case hs => first | omega | (simp; try omega))) | ((with_reducible refine Below.alloc ?_ ?ha _); (case ha => first | omega | (simp; try omega))))
set_option maxHeartbeats 4000000 in
theorem spec_au_3_2z (a : Int) (f : Nat) (hf : f < 18446744073709551616) (hlt : flt f 0 = false) (heq : feq f 0 = true) (h1 : isdt a = true) (h2 : hasU 3 a = true) (hk : kindI a = 2) (hv : vcell a 0 f 0 = true) (w : World) :
    Calls Tryd.prog 27 #[.int .i64 3, .int .i64 a, .agg #[.int .i64 0, .float .f64 f, .float .f64 0]] w (SpW 0 a 0 (f % negZero) 0 w) := by
  have o1 : (FloatKind.f64.format.order f 0 == some Ordering.lt) = false := hlt
  have HL := Lib.hid hlt
  clear hlt
  have o2 : (FloatKind.f64.format.order f 0 == some Ordering.eq) = true := heq
  have HE := Lib.hid heq
  clear heq
  have I := fun w => spec_isd a w
  have S := fun w => spec_hasU 3 a w
  simp only [h1] at I
  simp only [h2] at S
  have V := fun w => spec_vcell a 0 f 0 hf (by decide) w
  simp only [hv] at V
  have KK := fun w => spec_kind a w
  simp only [hk] at KK
  have I := Lib.hid I
  have S := Lib.hid S
  have V := Lib.hid V
  have KK := Lib.hid KK
  have HK := Lib.hid hk
  clear h1 h2 hv hk
  go_enter Tryd.func27, Tryd.ntmps27
  go_wp2_with fail
  refine (I.out _).mono ?_
  rintro e w' ⟨rfl, rfl⟩
  go_wp2_with fail
  refine (S.out _).mono ?_
  rintro e w' ⟨rfl, rfl⟩
  go_wp2_with fail
  refine (V.out _).mono ?_
  rintro e w1 ⟨rfl, hb1⟩
  have z1 : w.heap.size + 1 < w1.heap.size := by have := hb1.size; simp at this; omega
  have z2 : w.heap.size < w1.heap.size := by omega
  have p0 : w1.cell? ⟨w.heap.size, 0, none⟩ = some (.int .i64 0) := (hb1.cell (p := ⟨w.heap.size, 0, none⟩) (by first | omega | (simp; done) | (simp; omega))).trans (by simp)
  have p1 : w1.cell? ⟨w.heap.size, 1, none⟩ = some (.float .f64 f) := (hb1.cell (p := ⟨w.heap.size, 1, none⟩) (by first | omega | (simp; done) | (simp; omega))).trans (by simp)
  have p2 : w1.cell? ⟨w.heap.size, 2, none⟩ = some (.float .f64 0) := (hb1.cell (p := ⟨w.heap.size, 2, none⟩) (by first | omega | (simp; done) | (simp; omega))).trans (by simp)
  have c0 : w1.cell? ⟨w.heap.size + 1, 0, none⟩ = some (.int .i64 0) := (hb1.cell (p := ⟨w.heap.size + 1, 0, none⟩) (by first | omega | (simp; done) | (simp; omega))).trans (by simp)
  have d0 : w1.frozen? ⟨w.heap.size + 1, 0, none⟩ = false := (hb1.frozen (p := ⟨w.heap.size + 1, 0, none⟩) (by first | omega | (simp; done) | (simp; omega))).trans (by simp)
  have c1 : w1.cell? ⟨w.heap.size + 1, 1, none⟩ = some (.int .i64 0) := (hb1.cell (p := ⟨w.heap.size + 1, 1, none⟩) (by first | omega | (simp; done) | (simp; omega))).trans (by simp)
  have d1 : w1.frozen? ⟨w.heap.size + 1, 1, none⟩ = false := (hb1.frozen (p := ⟨w.heap.size + 1, 1, none⟩) (by first | omega | (simp; done) | (simp; omega))).trans (by simp)
  have c2 : w1.cell? ⟨w.heap.size + 1, 2, none⟩ = some (.int .i64 0) := (hb1.cell (p := ⟨w.heap.size + 1, 2, none⟩) (by first | omega | (simp; done) | (simp; omega))).trans (by simp)
  have d2 : w1.frozen? ⟨w.heap.size + 1, 2, none⟩ = false := (hb1.frozen (p := ⟨w.heap.size + 1, 2, none⟩) (by first | omega | (simp; done) | (simp; omega))).trans (by simp)
  have c3 : w1.cell? ⟨w.heap.size + 1, 3, none⟩ = some (.float .f64 0) := (hb1.cell (p := ⟨w.heap.size + 1, 3, none⟩) (by first | omega | (simp; done) | (simp; omega))).trans (by simp)
  have d3 : w1.frozen? ⟨w.heap.size + 1, 3, none⟩ = false := (hb1.frozen (p := ⟨w.heap.size + 1, 3, none⟩) (by first | omega | (simp; done) | (simp; omega))).trans (by simp)
  have c4 : w1.cell? ⟨w.heap.size + 1, 4, none⟩ = some (.float .f64 0) := (hb1.cell (p := ⟨w.heap.size + 1, 4, none⟩) (by first | omega | (simp; done) | (simp; omega))).trans (by simp)
  have d4 : w1.frozen? ⟨w.heap.size + 1, 4, none⟩ = false := (hb1.frozen (p := ⟨w.heap.size + 1, 4, none⟩) (by first | omega | (simp; done) | (simp; omega))).trans (by simp)
  have B1 := Lib.hid ((((Below.refl w.heap.size w).alloc (Nat.le_refl _) _).alloc (by simp) _).trans (hb1.mono (by simp; try omega)))
  clear hb1
  go_wp2_with fail
  refine (KK.out _).mono ?_
  rintro e w' ⟨rfl, rfl⟩
  go_wp2_with fail
  have s0 := World.cell?_setCell_same w1 ⟨w.heap.size + 1, 0, none⟩ (.int .i64 0) c0
  have s1 := World.cell?_setCell_same (w1.setCell ⟨w.heap.size + 1, 0, none⟩ (.int .i64 0)) ⟨w.heap.size + 1, 1, none⟩ (.int .i64 a) ((World.cell?_setCell_other _ _ _ _ (by simp)).trans c1)
  have s2 := World.cell?_setCell_same ((w1.setCell ⟨w.heap.size + 1, 0, none⟩ (.int .i64 0)).setCell ⟨w.heap.size + 1, 1, none⟩ (.int .i64 a)) ⟨w.heap.size + 1, 2, none⟩ (.int .i64 0) ((World.cell?_setCell_other _ _ _ _ (by simp)).trans ((World.cell?_setCell_other _ _ _ _ (by simp)).trans c2))
  have s3 := World.cell?_setCell_same (((w1.setCell ⟨w.heap.size + 1, 0, none⟩ (.int .i64 0)).setCell ⟨w.heap.size + 1, 1, none⟩ (.int .i64 a)).setCell ⟨w.heap.size + 1, 2, none⟩ (.int .i64 0)) ⟨w.heap.size + 1, 3, none⟩ (.float .f64 0) ((World.cell?_setCell_other _ _ _ _ (by simp)).trans ((World.cell?_setCell_other _ _ _ _ (by simp)).trans ((World.cell?_setCell_other _ _ _ _ (by simp)).trans c3)))
  have s4 := World.cell?_setCell_same ((((w1.setCell ⟨w.heap.size + 1, 0, none⟩ (.int .i64 0)).setCell ⟨w.heap.size + 1, 1, none⟩ (.int .i64 a)).setCell ⟨w.heap.size + 1, 2, none⟩ (.int .i64 0)).setCell ⟨w.heap.size + 1, 3, none⟩ (.float .f64 0)) ⟨w.heap.size + 1, 4, none⟩ (.float .f64 0) ((World.cell?_setCell_other _ _ _ _ (by simp)).trans ((World.cell?_setCell_other _ _ _ _ (by simp)).trans ((World.cell?_setCell_other _ _ _ _ (by simp)).trans ((World.cell?_setCell_other _ _ _ _ (by simp)).trans c4))))
  refine bodyPost_ret (v := .agg #[.int .i64 0, .int .i64 a, .int .i64 0, .float .f64 0, .float .f64 0]) (by simp [results, go_sem, s0, s1, s2, s3, s4, z1]) rfl ⟨0, 0, rfl, (by decide), (by decide), (abs_zero hf HE.out), same_self _, ?_⟩
  repeat (first | (with_reducible exact B1.out) | (with_reducible apply below_drewN) | (with_reducible apply Below.drew) | ((with_reducible refine Below.setCell ?_ ?hs _); (case hs => first | omega | (simp; try omega))) | ((with_reducible refine Below.alloc ?_ ?ha _); (case ha => first | omega | (simp; try omega))))
set_option maxHeartbeats 4000000 in
theorem spec_au_3_2p (a : Int) (f : Nat) (hf : f < 18446744073709551616) (hlt : flt f 0 = false) (heq : feq f 0 = false) (h1 : isdt a = true) (h2 : hasU 3 a = true) (hk : kindI a = 2) (hv : vcell a 0 f 0 = true) (w : World) :
    Calls Tryd.prog 27 #[.int .i64 3, .int .i64 a, .agg #[.int .i64 0, .float .f64 f, .float .f64 0]] w (SpW 0 a 0 (f % negZero) 0 w) := by
  have o1 : (FloatKind.f64.format.order f 0 == some Ordering.lt) = false := hlt
  have HL := Lib.hid hlt
  clear hlt
  have o2 : (FloatKind.f64.format.order f 0 == some Ordering.eq) = false := heq
  have HE := Lib.hid heq
  clear heq
  have I := fun w => spec_isd a w
  have S := fun w => spec_hasU 3 a w
  simp only [h1] at I
  simp only [h2] at S
  have V := fun w => spec_vcell a 0 f 0 hf (by decide) w
  simp only [hv] at V
  have KK := fun w => spec_kind a w
  simp only [hk] at KK
  have I := Lib.hid I
  have S := Lib.hid S
  have V := Lib.hid V
  have KK := Lib.hid KK
  have HK := Lib.hid hk
  clear h1 h2 hv hk
  go_enter Tryd.func27, Tryd.ntmps27
  go_wp2_with fail
  refine (I.out _).mono ?_
  rintro e w' ⟨rfl, rfl⟩
  go_wp2_with fail
  refine (S.out _).mono ?_
  rintro e w' ⟨rfl, rfl⟩
  go_wp2_with fail
  refine (V.out _).mono ?_
  rintro e w1 ⟨rfl, hb1⟩
  have z1 : w.heap.size + 1 < w1.heap.size := by have := hb1.size; simp at this; omega
  have z2 : w.heap.size < w1.heap.size := by omega
  have p0 : w1.cell? ⟨w.heap.size, 0, none⟩ = some (.int .i64 0) := (hb1.cell (p := ⟨w.heap.size, 0, none⟩) (by first | omega | (simp; done) | (simp; omega))).trans (by simp)
  have p1 : w1.cell? ⟨w.heap.size, 1, none⟩ = some (.float .f64 f) := (hb1.cell (p := ⟨w.heap.size, 1, none⟩) (by first | omega | (simp; done) | (simp; omega))).trans (by simp)
  have p2 : w1.cell? ⟨w.heap.size, 2, none⟩ = some (.float .f64 0) := (hb1.cell (p := ⟨w.heap.size, 2, none⟩) (by first | omega | (simp; done) | (simp; omega))).trans (by simp)
  have c0 : w1.cell? ⟨w.heap.size + 1, 0, none⟩ = some (.int .i64 0) := (hb1.cell (p := ⟨w.heap.size + 1, 0, none⟩) (by first | omega | (simp; done) | (simp; omega))).trans (by simp)
  have d0 : w1.frozen? ⟨w.heap.size + 1, 0, none⟩ = false := (hb1.frozen (p := ⟨w.heap.size + 1, 0, none⟩) (by first | omega | (simp; done) | (simp; omega))).trans (by simp)
  have c1 : w1.cell? ⟨w.heap.size + 1, 1, none⟩ = some (.int .i64 0) := (hb1.cell (p := ⟨w.heap.size + 1, 1, none⟩) (by first | omega | (simp; done) | (simp; omega))).trans (by simp)
  have d1 : w1.frozen? ⟨w.heap.size + 1, 1, none⟩ = false := (hb1.frozen (p := ⟨w.heap.size + 1, 1, none⟩) (by first | omega | (simp; done) | (simp; omega))).trans (by simp)
  have c2 : w1.cell? ⟨w.heap.size + 1, 2, none⟩ = some (.int .i64 0) := (hb1.cell (p := ⟨w.heap.size + 1, 2, none⟩) (by first | omega | (simp; done) | (simp; omega))).trans (by simp)
  have d2 : w1.frozen? ⟨w.heap.size + 1, 2, none⟩ = false := (hb1.frozen (p := ⟨w.heap.size + 1, 2, none⟩) (by first | omega | (simp; done) | (simp; omega))).trans (by simp)
  have c3 : w1.cell? ⟨w.heap.size + 1, 3, none⟩ = some (.float .f64 0) := (hb1.cell (p := ⟨w.heap.size + 1, 3, none⟩) (by first | omega | (simp; done) | (simp; omega))).trans (by simp)
  have d3 : w1.frozen? ⟨w.heap.size + 1, 3, none⟩ = false := (hb1.frozen (p := ⟨w.heap.size + 1, 3, none⟩) (by first | omega | (simp; done) | (simp; omega))).trans (by simp)
  have c4 : w1.cell? ⟨w.heap.size + 1, 4, none⟩ = some (.float .f64 0) := (hb1.cell (p := ⟨w.heap.size + 1, 4, none⟩) (by first | omega | (simp; done) | (simp; omega))).trans (by simp)
  have d4 : w1.frozen? ⟨w.heap.size + 1, 4, none⟩ = false := (hb1.frozen (p := ⟨w.heap.size + 1, 4, none⟩) (by first | omega | (simp; done) | (simp; omega))).trans (by simp)
  have B1 := Lib.hid ((((Below.refl w.heap.size w).alloc (Nat.le_refl _) _).alloc (by simp) _).trans (hb1.mono (by simp; try omega)))
  clear hb1
  go_wp2_with fail
  refine (KK.out _).mono ?_
  rintro e w' ⟨rfl, rfl⟩
  go_wp2_with fail
  have s0 := World.cell?_setCell_same w1 ⟨w.heap.size + 1, 0, none⟩ (.int .i64 0) c0
  have s1 := World.cell?_setCell_same (w1.setCell ⟨w.heap.size + 1, 0, none⟩ (.int .i64 0)) ⟨w.heap.size + 1, 1, none⟩ (.int .i64 a) ((World.cell?_setCell_other _ _ _ _ (by simp)).trans c1)
  have s2 := World.cell?_setCell_same ((w1.setCell ⟨w.heap.size + 1, 0, none⟩ (.int .i64 0)).setCell ⟨w.heap.size + 1, 1, none⟩ (.int .i64 a)) ⟨w.heap.size + 1, 2, none⟩ (.int .i64 0) ((World.cell?_setCell_other _ _ _ _ (by simp)).trans ((World.cell?_setCell_other _ _ _ _ (by simp)).trans c2))
  have s3 := World.cell?_setCell_same (((w1.setCell ⟨w.heap.size + 1, 0, none⟩ (.int .i64 0)).setCell ⟨w.heap.size + 1, 1, none⟩ (.int .i64 a)).setCell ⟨w.heap.size + 1, 2, none⟩ (.int .i64 0)) ⟨w.heap.size + 1, 3, none⟩ (.float .f64 f) ((World.cell?_setCell_other _ _ _ _ (by simp)).trans ((World.cell?_setCell_other _ _ _ _ (by simp)).trans ((World.cell?_setCell_other _ _ _ _ (by simp)).trans c3)))
  have s4 := World.cell?_setCell_same ((((w1.setCell ⟨w.heap.size + 1, 0, none⟩ (.int .i64 0)).setCell ⟨w.heap.size + 1, 1, none⟩ (.int .i64 a)).setCell ⟨w.heap.size + 1, 2, none⟩ (.int .i64 0)).setCell ⟨w.heap.size + 1, 3, none⟩ (.float .f64 f)) ⟨w.heap.size + 1, 4, none⟩ (.float .f64 0) ((World.cell?_setCell_other _ _ _ _ (by simp)).trans ((World.cell?_setCell_other _ _ _ _ (by simp)).trans ((World.cell?_setCell_other _ _ _ _ (by simp)).trans ((World.cell?_setCell_other _ _ _ _ (by simp)).trans c4))))
  refine bodyPost_ret (v := .agg #[.int .i64 0, .int .i64 a, .int .i64 0, .float .f64 f, .float .f64 0]) (by simp [results, go_sem, s0, s1, s2, s3, s4, z1]) rfl ⟨f, 0, rfl, hf, (by decide), (abs_keep hf HL.out HE.out), same_self _, ?_⟩
  repeat (first | (with_reducible exact B1.out) | (with_reducible apply below_drewN) | (with_reducible apply Below.drew) | ((with_reducible refine Below.setCell ?_ ?hs _); (case hs => first | omega | (simp; try omega))) | ((with_reducible refine Below.alloc ?_ ?ha _); (case ha => first | omega | (simp; try omega))))
end Go.Proofs.YtpmdgmnpkdoamabDoor.Vc
