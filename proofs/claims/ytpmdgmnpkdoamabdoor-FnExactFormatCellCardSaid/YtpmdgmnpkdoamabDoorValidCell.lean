/- Proved here: at every dtype number and every cell the law on ValidCell answers true, where the table of dtypes holds what the program lays in it. Conditions: the words are of their kind. -/
import Derived.Test.YtpmdgmnpkdoamabDoorVcImpl
namespace Go.Proofs.YtpmdgmnpkdoamabDoor.Vc
open Go.RowKit Fl Prom
theorem run_store_float (P : Program) (w : World) (a : Addr) (m : Mode) (k : FloatKind) (b : Nat) : (store a (.float k b) m).run P w = stored P w a (.float k b) m := run_store P w a _ m rfl
attribute [local go_sem] run_store_float
theorem to_cell (i : Int) (f g : Nat) (w : World) :
    Calls Tryd.prog 18 #[.agg #[.int .i64 i, .float .f64 f, .float .f64 g]] w fun e w' => e = .returned (.agg #[.int .i64 i, .float .f64 f, .float .f64 g]) ∧ Below w.heap.size w w' := by
  go_enter Tryd.func18, Tryd.ntmps18
  go_wp2
  refine bodyPost_ret (v := .agg #[.int .i64 i, .float .f64 f, .float .f64 g]) (by simp [results, go_sem]) rfl ⟨rfl, ?_⟩
  repeat (first | exact Below.refl _ _ | apply below_drewN | apply Below.drew | (refine Below.setCell ?_ (by simp; try omega) _) | (refine Below.alloc ?_ (by simp; try omega) _))
theorem law_vcell (a i : Int) (f g : Nat) (hf : f < 18446744073709551616) (hg : g < 18446744073709551616) (w : World) (hT : Table.Holds w) :
    Calls Tryd.prog 4 #[.int .i64 a, .agg #[.int .i64 i, .float .f64 f, .float .f64 g]] w fun e w' => e = .returned (.bool true) ∧ Below w.heap.size w w' := by
  have FG := Lib.hid (And.intro hf hg)
  have HT := Lib.hid hT
  have h0 : 0 < w.heap.size := World.block_lt_of_cell? w _ (hT 0 0 (by omega) (by omega))
  clear hf hg hT
  go_enter Tryd.func4, Tryd.ntmps4
  go_wp2_with fail
  refine (to_cell i f g _).mono ?_
  rintro e w1 ⟨rfl, hb1⟩
  go_wp2_with fail
  refine (spec_vcell a i f g FG.out.1 FG.out.2 _).mono ?_
  rintro e w2 ⟨rfl, hb2⟩
  have hB2 := (hb1.trans (hb2.mono hb1.size))
  have z2 : w.heap.size < w2.heap.size := by have := hB2.size; simp at this; omega
  have c0 : w2.cell? ⟨w.heap.size, 0, none⟩ = some (.int .i64 i) := (hB2.cell (p := ⟨w.heap.size, 0, none⟩) (by simp)).trans (by simp)
  have c1 : w2.cell? ⟨w.heap.size, 1, none⟩ = some (.float .f64 f) := (hB2.cell (p := ⟨w.heap.size, 1, none⟩) (by simp)).trans (by simp)
  have c2 : w2.cell? ⟨w.heap.size, 2, none⟩ = some (.float .f64 g) := (hB2.cell (p := ⟨w.heap.size, 2, none⟩) (by simp)).trans (by simp)
  go_wp2_with fail
  refine (to_cell i f g _).mono ?_
  rintro e w3 ⟨rfl, hb3⟩
  go_wp2_with fail
  have hB : Below w.heap.size w w3 := ((Below.refl _ _).alloc (Nat.le_refl _) _).trans ((hB2.trans (hb3.mono hB2.size)).mono (by simp))
  refine (impl_vcell a i f g FG.out.1 FG.out.2 _ (Table.holds_below HT.out hB h0)).mono ?_
  rintro e w4 ⟨rfl, hb4⟩
  go_wp2_with fail
  all_goals go_ret
  all_goals exact ⟨rfl, hB.trans (hb4.mono hB.size)⟩
end Go.Proofs.YtpmdgmnpkdoamabDoor.Vc
