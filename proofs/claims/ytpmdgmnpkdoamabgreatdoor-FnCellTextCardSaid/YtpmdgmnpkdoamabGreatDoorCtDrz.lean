/- Proved here: what spec.DrawFormatCell answers: some dtype's number and some cell. Condition: the slice of bytes lies as a row. -/
import Derived.Test.YtpmdgmnpkdoamabGreatDoorCtDrw2
namespace Go.Proofs.YtpmdgmnpkdoamabGreatDoor.Drw
open Go.RowKit Go.Proofs.YtpmdgmnpkdoamabGreatDoorW.PrintWords Go.Proofs.YtpmdgmnpkdoamabGreatDoorW.PrintLast Go.Proofs.YtpmdgmnpkdoamabGreatDoorW.PrintMore
open Fl Vc Prom Src
set_option linter.unusedVariables false
set_option linter.unusedSimpArgs false
attribute [local go_sem] run_store_float'
theorem _root_.Go.Proofs.YtpmdgmnpkdoamabGreatDoor.Src.Is.ne_box {c g : Nat} {w0 W : World} {a : Nat} {cs : Array Value} (h : Is c w0 W g) (hb : W.heap[a]? = some (.cells cs 55 (0, 0))) : g ≠ a ∧ c ≠ a := by
  obtain ⟨s0, x, m, z, hI, hS⟩ := h
  exact hI.ne_blk hb (by decide)
set_option maxHeartbeats 8000000 in
theorem draw_run (A0 : Option Addr) (c0 : Nat) (l0 : List Int) (w : World) (hr0 : Kd.C (Kd.int .u8) w A0 l0.length l0) (hc0 : l0.length ≤ c0) (hl : ∀ x ∈ l0, (Lit.int .u8 x).wf = true) :
    Calls Tryz.prog 22 #[.slice A0 l0.length c0] w fun e w' => ∃ (dt : Int) (v : Value), e = .returned (.tuple #[.int .i64 dt, v]) ∧ Aside0 (CellV v) ∧ Aside0 (Below w.heap.size w w') := by
  have HR := Lib.hid (And.intro hr0 (And.intro hc0 hl))
  clear hr0 hc0 hl
  go_enter Tryz.func22, Tryz.ntmps22
  go_wp2_with fail
  refine (source_is A0 c0 l0 w _ (by repeat (first | exact Below.refl _ _ | (refine Below.alloc ?_ (by simp; try omega) _))) HR.out.1 HR.out.2.1 HR.out.2.2).mono ?_
  rintro e w1 ⟨c, g, rfl, hi, hb, hb2⟩
  have BKa : Aside0 (w1.heap[w.heap.size]? = some (.cells #[.int .i64 0, .float .f64 0, .float .f64 0] 55 (0, 0))) := ⟨blk_below (by rw [heap_alloc_get]; simp) hb2⟩
  have NEa := Aside0.mk (show w.heap.size ≠ g from (hi.ne_box BKa.out).1.symm)
  have HG : Aside0 (On c g w w w1) := ⟨⟨hi, hb, KeepBut.of_below hb g none⟩⟩
  clear hi hb hb2
  have hca0 : w1.cell? ⟨w.heap.size, 0, none⟩ = some (.int .i64 0) := (blk_cell BKa.out 0).trans rfl
  have hfa0 := blk_frozen BKa.out 0
  have hca1 : w1.cell? ⟨w.heap.size, 1, none⟩ = some (.float .f64 0) := (blk_cell BKa.out 1).trans rfl
  have hfa1 := blk_frozen BKa.out 1
  have hca2 : w1.cell? ⟨w.heap.size, 2, none⟩ = some (.float .f64 0) := (blk_cell BKa.out 2).trans rfl
  have hfa2 := blk_frozen BKa.out 2
  go_wp2_with fail
  refine (any_run (show On c g w w _ from (by repeat (first | (with_reducible exact HG.out) | (with_reducible apply On.drew) | (with_reducible apply On.drewN))))).mono ?_
  rintro e w5 ⟨dt, v, rfl, hv, h1⟩
  obtain ⟨ci, cf, ch, rfl, hcf, hch⟩ := hv.out
  have CF := Aside0.mk (And.intro hcf hch)
  clear hv hcf hch
  replace BKa := Aside0.mk (KeepBut.blk (o := .cells #[.int .i64 0, .float .f64 0, .float .f64 0] 55 (0, 0)) h1.out.2.2 (by repeat (first | (with_reducible exact BKa.out) | (with_reducible refine blk_drew ?_) | (with_reducible refine blk_drewN ?_ _))) NEa.out (by simp))
  have BB := Aside0.mk h1.out.2.1
  clear h1 HG
  have hca0 : w5.cell? ⟨w.heap.size, 0, none⟩ = some (.int .i64 0) := (blk_cell BKa.out 0).trans rfl
  have hfa0 := blk_frozen BKa.out 0
  have hca1 : w5.cell? ⟨w.heap.size, 1, none⟩ = some (.float .f64 0) := (blk_cell BKa.out 1).trans rfl
  have hfa1 := blk_frozen BKa.out 1
  have hca2 : w5.cell? ⟨w.heap.size, 2, none⟩ = some (.float .f64 0) := (blk_cell BKa.out 2).trans rfl
  have hfa2 := blk_frozen BKa.out 2
  go_wp2
  refine bodyPost_ret (results_tc rfl _ _ w.heap.size 55 #[_, _, _] (0, 0) _ rfl (cell3 (by repeat (first | (with_reducible exact BKa.out) | (with_reducible refine blk_drew ?_) | (with_reducible refine blk_drewN ?_ _))) _ _ _) Tryz.underlying55 rfl (by kernel_rfl)) rfl ?_
  refine ⟨_, _, rfl, ⟨⟨_, _, _, rfl, CF.out.1, CF.out.2⟩⟩, ⟨?_⟩⟩
  repeat (first | (with_reducible exact BB.out) | (with_reducible apply Vc.below_drewN) | (with_reducible apply Below.drew) | ((with_reducible refine Below.setCell ?_ ?hs _); (case hs => first | omega | (simp; try omega))))
end Go.Proofs.YtpmdgmnpkdoamabGreatDoor.Drw
