/- Proved here: what spec.ApplyUnary answers at a cell that is not valid. Conditions: the words are of their kind. -/
import Derived.Test.YtpmdgmnpkdoamabDoorUna
namespace Go.Proofs.YtpmdgmnpkdoamabDoor.Vc
open Go.RowKit Fl Prom
set_option linter.unusedSimpArgs false
set_option linter.unusedVariables false
attribute [local go_sem] run_store_float'
def SpW (C D R : Int) (rf rg : Nat) (w : World) (e : Ending) (w' : World) : Prop := ∃ f' g' : Nat, e = .returned (.agg #[.int .i64 C, .int .i64 D, .int .i64 R, .float .f64 f', .float .f64 g']) ∧ f' < 18446744073709551616 ∧ g' < 18446744073709551616 ∧ sameF rf f' = true ∧ sameF rg g' = true ∧ Below w.heap.size w w'
theorem sp_of_ans {f : FuncId} {args : Array Value} {C D R : Int} {rf rg : Nat} {w : World} (hf : rf < 18446744073709551616) (hg : rg < 18446744073709551616) (h : Calls Tryd.prog f args w (Ans C D R rf rg w)) : Calls Tryd.prog f args w (SpW C D R rf rg w) :=
  h.mono fun _ _ ⟨a, b⟩ => ⟨rf, rg, a, hf, hg, same_self _, same_self _, b⟩
set_option maxHeartbeats 4000000 in
theorem spec_au_invalid (op a i : Int) (f g : Nat) (hf : f < 18446744073709551616) (hg : g < 18446744073709551616) (h : 1 ≤ op ∧ op ≤ 4) (h1 : isdt a = true) (h2 : hasU op a = true) (hv : vcell a i f g = false) (w : World) :
    Calls Tryd.prog 27 #[.int .i64 op, .int .i64 a, .agg #[.int .i64 i, .float .f64 f, .float .f64 g]] w (Ans 14 0 0 0 0 w) := by
  have I := fun w => spec_isd a w
  have S := fun w => spec_hasU op a w
  simp only [h1] at I
  simp only [h2] at S
  have V := fun w => spec_vcell a i f g hf hg w
  simp only [hv] at V
  have I := Lib.hid I
  have S := Lib.hid S
  have V := Lib.hid V
  obtain ⟨o1, o2⟩ := h
  have l1 : ¬ op < 1 := by omega
  have l2 : ¬ op > 4 := by omega
  clear h1 h2 hv
  go_enter Tryd.func27, Tryd.ntmps27
  go_wp2_with fail
  all_goals first
    | (exfalso; omega)
    | (refine (I.out _).mono ?_
       rintro e w' ⟨rfl, rfl⟩
       go_wp2_with fail
       refine (S.out _).mono ?_
       rintro e w' ⟨rfl, rfl⟩
       go_wp2_with fail
       refine (V.out _).mono ?_
       rintro e w1 ⟨rfl, hb1⟩
       have z1 : w.heap.size + 1 < w1.heap.size := by have := hb1.size; simp at this; omega
       have c0 : w1.cell? ⟨w.heap.size + 1, 0, none⟩ = some (.int .i64 0) := (hb1.cell (p := ⟨w.heap.size + 1, 0, none⟩) (by first | omega | (simp; done) | (simp; omega))).trans (by simp)
       have d0 : w1.frozen? ⟨w.heap.size + 1, 0, none⟩ = false := (hb1.frozen (p := ⟨w.heap.size + 1, 0, none⟩) (by first | omega | (simp; done) | (simp; omega))).trans (by simp)
       have c1 : w1.cell? ⟨w.heap.size + 1, 1, none⟩ = some (.int .i64 0) := (hb1.cell (p := ⟨w.heap.size + 1, 1, none⟩) (by first | omega | (simp; done) | (simp; omega))).trans (by simp)
       have d1 : w1.frozen? ⟨w.heap.size + 1, 1, none⟩ = false := (hb1.frozen (p := ⟨w.heap.size + 1, 1, none⟩) (by first | omega | (simp; done) | (simp; omega))).trans (by simp)
       have c2 : w1.cell? ⟨w.heap.size + 1, 2, none⟩ = some (.int .i64 0) := (hb1.cell (p := ⟨w.heap.size + 1, 2, none⟩) (by first | omega | (simp; done) | (simp; omega))).trans (by simp)
       have d2 : w1.frozen? ⟨w.heap.size + 1, 2, none⟩ = false := (hb1.frozen (p := ⟨w.heap.size + 1, 2, none⟩) (by first | omega | (simp; done) | (simp; omega))).trans (by simp)
       have c3 : w1.cell? ⟨w.heap.size + 1, 3, none⟩ = some (.float .f64 0) := (hb1.cell (p := ⟨w.heap.size + 1, 3, none⟩) (by first | omega | (simp; done) | (simp; omega))).trans (by simp)
       have d3 : w1.frozen? ⟨w.heap.size + 1, 3, none⟩ = false := (hb1.frozen (p := ⟨w.heap.size + 1, 3, none⟩) (by first | omega | (simp; done) | (simp; omega))).trans (by simp)
       have c4 : w1.cell? ⟨w.heap.size + 1, 4, none⟩ = some (.float .f64 0) := (hb1.cell (p := ⟨w.heap.size + 1, 4, none⟩) (by first | omega | (simp; done) | (simp; omega))).trans (by simp)
       have d4 : w1.frozen? ⟨w.heap.size + 1, 4, none⟩ = false := (hb1.frozen (p := ⟨w.heap.size + 1, 4, none⟩) (by first | omega | (simp; done) | (simp; omega))).trans (by simp)
       have B1 := Lib.hid ((((Below.refl w.heap.size w).alloc (Nat.le_refl _) _).alloc (by simp) _).trans (hb1.mono (by simp; try omega)))
       clear hb1
       go_wp2_with fail
       have s0 := World.cell?_setCell_same w1 ⟨w.heap.size + 1, 0, none⟩ (.int .i64 14) c0
       have s1 := World.cell?_setCell_same (w1.setCell ⟨w.heap.size + 1, 0, none⟩ (.int .i64 14)) ⟨w.heap.size + 1, 1, none⟩ (.int .i64 0) ((World.cell?_setCell_other _ _ _ _ (by simp)).trans c1)
       have s2 := World.cell?_setCell_same ((w1.setCell ⟨w.heap.size + 1, 0, none⟩ (.int .i64 14)).setCell ⟨w.heap.size + 1, 1, none⟩ (.int .i64 0)) ⟨w.heap.size + 1, 2, none⟩ (.int .i64 0) ((World.cell?_setCell_other _ _ _ _ (by simp)).trans ((World.cell?_setCell_other _ _ _ _ (by simp)).trans c2))
       have s3 := World.cell?_setCell_same (((w1.setCell ⟨w.heap.size + 1, 0, none⟩ (.int .i64 14)).setCell ⟨w.heap.size + 1, 1, none⟩ (.int .i64 0)).setCell ⟨w.heap.size + 1, 2, none⟩ (.int .i64 0)) ⟨w.heap.size + 1, 3, none⟩ (.float .f64 0) ((World.cell?_setCell_other _ _ _ _ (by simp)).trans ((World.cell?_setCell_other _ _ _ _ (by simp)).trans ((World.cell?_setCell_other _ _ _ _ (by simp)).trans c3)))
       have s4 := World.cell?_setCell_same ((((w1.setCell ⟨w.heap.size + 1, 0, none⟩ (.int .i64 14)).setCell ⟨w.heap.size + 1, 1, none⟩ (.int .i64 0)).setCell ⟨w.heap.size + 1, 2, none⟩ (.int .i64 0)).setCell ⟨w.heap.size + 1, 3, none⟩ (.float .f64 0)) ⟨w.heap.size + 1, 4, none⟩ (.float .f64 0) ((World.cell?_setCell_other _ _ _ _ (by simp)).trans ((World.cell?_setCell_other _ _ _ _ (by simp)).trans ((World.cell?_setCell_other _ _ _ _ (by simp)).trans ((World.cell?_setCell_other _ _ _ _ (by simp)).trans c4))))
       refine bodyPost_ret (v := .agg #[.int .i64 14, .int .i64 0, .int .i64 0, .float .f64 0, .float .f64 0]) (by simp [results, go_sem, s0, s1, s2, s3, s4]) rfl ⟨rfl, ?_⟩
       repeat (first | (with_reducible exact B1.out) | (with_reducible apply below_drewN) | (with_reducible apply Below.drew) | ((with_reducible refine Below.setCell ?_ ?hs _); (case hs => first | omega | (simp; try omega))) | ((with_reducible refine Below.alloc ?_ ?ha _); (case ha => first | omega | (simp; try omega)))))
end Go.Proofs.YtpmdgmnpkdoamabDoor.Vc
