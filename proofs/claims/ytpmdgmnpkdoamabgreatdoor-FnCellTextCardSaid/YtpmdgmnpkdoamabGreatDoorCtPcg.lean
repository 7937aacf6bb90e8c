/- Proved here: at all arguments the law on the text of cells answers true. Conditions: the slice of bytes lies as a row; the tables hold what the program lays; the variable that bytealg reads holds a number. -/
import Derived.Test.YtpmdgmnpkdoamabGreatDoorCtPcf
import Derived.Test.YtpmdgmnpkdoamabGreatDoorCtDrz
import Derived.Test.YtpmdgmnpkdoamabGreatDoorCtApa
namespace Go.Proofs.YtpmdgmnpkdoamabGreatDoor.Vc
open Go.RowKit Fl Prom Drw Go.Proofs.YtpmdgmnpkdoamabGreatDoorW.PrintWords
set_option linter.unusedVariables false
set_option linter.unusedSimpArgs false
attribute [local go_sem] run_store_float'
theorem cvt_below {w u : World} {v : Value} {l : List UInt8} (h : CVT w v l) (hb : Below w.heap.size w u) : CVT u v l := fun u' hu => h u' (hb.trans (hu.mono hb.size))
theorem bv_shape {base : Nat} {w : World} {v : Value} {l : List UInt8} (h : BV base w v l) : ∃ A c, v = .slice A l.length c := by
  rcases h with ⟨rfl, rfl | ⟨b, rfl⟩⟩ | ⟨b, c, cs, fz, rfl, _⟩
  · exact ⟨_, _, rfl⟩
  · exact ⟨_, _, rfl⟩
  · exact ⟨_, _, rfl⟩
theorem field_code (c i : Int) (f g : Nat) (w : World) : (Instr.field 61 (.agg #[.int .i64 c, .int .i64 i, .float .f64 f, .float .f64 g]) 0).run Tryz.prog w = .ok (.int .i64 c) w := by kernel_rfl
set_option maxRecDepth 20000 in
set_option maxHeartbeats 8000000 in
theorem law_text (A0 : Option Addr) (c0 : Nat) (l0 : List Int) (w : World) (hr0 : Kd.C (Kd.int .u8) w A0 l0.length l0) (hc0 : l0.length ≤ c0) (hl : ∀ x ∈ l0, (Lit.int .u8 x).wf = true) (hT : Table.Holds w) (hP : Tab w) (hM : MLen w) :
    Calls Tryz.prog 5 #[.slice A0 l0.length c0] w fun e w' => e = .returned (.bool true) ∧ Below w.heap.size w w' := by
  have h0 : 0 < w.heap.size := World.block_lt_of_cell? w _ (hT 0 0 (by omega) (by omega))
  have HT := Lib.hid hT
  have HP := Lib.hid hP
  have HM := Lib.hid hM
  have HR := Lib.hid (And.intro hr0 (And.intro hc0 hl))
  clear hT hP hM hr0 hc0 hl
  go_enter Tryz.func5, Tryz.ntmps5
  go_wp2_with fail
  all_goals first
    | (go_ret; exact ⟨rfl, Below.refl _ _⟩)
    | skip
  refine (Drw.draw_run A0 c0 l0 w HR.out.1 HR.out.2.1 HR.out.2.2).mono ?_
  rintro e w1 ⟨dt, v, rfl, hv, BB⟩
  obtain ⟨i, f, g, rfl, hf, hg⟩ := hv.out
  obtain ⟨l, hl⟩ := ctx_ex dt i f g hf hg
  have S := Lib.hid (fun u => spec_vcell dt i f g hf hg u)
  have FM := Lib.hid (fun u h1 h2 => impl_fmt hf hg hl u h1 h2)
  have FF := Lib.hid (And.intro hf hg)
  have HL := Lib.hid hl
  clear hv hl hf hg
  go_wp2_with fail
  refine (FM.out _ (Table.holds_below HT.out ?sT h0) (tab_below HP.out ?sP)).mono ?_
  case sT => repeat (first | (with_reducible exact BB.out) | ((with_reducible refine Below.setCell ?_ ?hs _); (case hs => (have := BB.out.size; simp; try omega))) | ((with_reducible refine Below.alloc ?_ ?ha _); (case ha => (have := BB.out.size; simp; try omega))))
  case sP => repeat (first | (with_reducible exact BB.out) | ((with_reducible refine Below.setCell ?_ ?hs _); (case hs => (have := BB.out.size; simp; try omega))) | ((with_reducible refine Below.alloc ?_ ?ha _); (case ha => (have := BB.out.size; simp; try omega))))
  rintro e w2 ⟨v0, rfl, hbv, hb⟩
  have BKc : Aside0 (w2.heap[w1.heap.size]? = some (.cells #[.int .i64 i, .float .f64 f, .float .f64 g] 55 (0, 0))) := ⟨blk_below (by rw [heap_alloc_get]; simp) hb⟩
  have z1 := BB.out.size
  replace BB : Aside0 (Below w.heap.size w w2) := ⟨(BB.out.alloc z1 _).trans (hb.mono (by simp; omega))⟩
  have CV := Lib.hid (bv_cvt hbv)
  obtain ⟨A, c, rfl⟩ := bv_shape hbv
  clear hb hbv
  have c0 : w2.cell? ⟨w1.heap.size, 0, none⟩ = some (.int .i64 i) := (blk_cell BKc.out 0).trans rfl
  have c1 : w2.cell? ⟨w1.heap.size, 1, none⟩ = some (.float .f64 f) := (blk_cell BKc.out 1).trans rfl
  have c2 : w2.cell? ⟨w1.heap.size, 2, none⟩ = some (.float .f64 g) := (blk_cell BKc.out 2).trans rfl
  cases hv : vcell dt i f g with
  | false =>
    have hl : l = [] := by
      rcases HL.out with ⟨_, h⟩ | ⟨h, _⟩
      · exact h
      · rw [hv] at h; cases h
    subst hl
    rw [hv] at S
    clear hv HL
    have hfl := field_code 14 0 0 0
    go_wp2_with fail
    refine (S.out _).mono ?_
    rintro e w3 ⟨rfl, hb⟩
    have CV3 := Lib.hid (cvt_below CV.out hb)
    replace BKc := Aside0.mk (blk_below (g := w1.heap.size) (o := .cells #[.int .i64 i, .float .f64 f, .float .f64 g] 55 (0, 0)) (by repeat (first | (with_reducible exact BKc.out) | (with_reducible refine blk_drewN ?_ _) | (with_reducible refine blk_drew ?_))) hb)
    replace BB := Aside0.mk (Below.trans (by repeat (first | (with_reducible exact BB.out) | (with_reducible apply Vc.below_drewN) | (with_reducible apply Below.drew) | (with_reducible refine bytes_below ?_ ?sz _))) (hb.mono (by have := BB.out.size; (try simp); omega)))
    clear hb
    have c0 : w3.cell? ⟨w1.heap.size, 0, none⟩ = some (.int .i64 i) := (blk_cell BKc.out 0).trans rfl
    have c1 : w3.cell? ⟨w1.heap.size, 1, none⟩ = some (.float .f64 f) := (blk_cell BKc.out 1).trans rfl
    have c2 : w3.cell? ⟨w1.heap.size, 2, none⟩ = some (.float .f64 g) := (blk_cell BKc.out 2).trans rfl
    go_wp2_with fail
    refine (parse_none dt _ _ (Table.holds_below HT.out BB.out h0) (mlen_below HM.out BB.out) CV3.out).mono ?_
    rintro e w4 ⟨rfl, hb⟩
    replace BKc := Aside0.mk (blk_below (g := w1.heap.size) (o := .cells #[.int .i64 i, .float .f64 f, .float .f64 g] 55 (0, 0)) (by repeat (first | (with_reducible exact BKc.out) | (with_reducible refine blk_drewN ?_ _) | (with_reducible refine blk_drew ?_))) hb)
    replace BB := Aside0.mk (Below.trans (by repeat (first | (with_reducible exact BB.out) | (with_reducible apply Vc.below_drewN) | (with_reducible apply Below.drew) | (with_reducible refine bytes_below ?_ ?sz _))) (hb.mono (by have := BB.out.size; (try simp); omega)))
    clear hb
    have c0 : w4.cell? ⟨w1.heap.size, 0, none⟩ = some (.int .i64 i) := (blk_cell BKc.out 0).trans rfl
    have c1 : w4.cell? ⟨w1.heap.size, 1, none⟩ = some (.float .f64 f) := (blk_cell BKc.out 1).trans rfl
    have c2 : w4.cell? ⟨w1.heap.size, 2, none⟩ = some (.float .f64 g) := (blk_cell BKc.out 2).trans rfl
    go_wp2_with fail
    go_ret
    exact ⟨rfl, BB.out⟩
  | true =>
    have hpos := ctx_pos hv HL.out
    have hlen := ctx_len HL.out
    rw [hv] at S
    have PX := Lib.hid (fun v u h1 h2 h3 => parse_text FF.out.1 FF.out.2 hv HL.out v u h1 h2 h3)
    clear hv HL
    have hcb : ∀ u, _ := bconv_run l
    go_wp2_with fail
    refine (S.out _).mono ?_
    rintro e w3 ⟨rfl, hb⟩
    have hcv := CV.out w3 hb
    replace BKc := Aside0.mk (blk_below (g := w1.heap.size) (o := .cells #[.int .i64 i, .float .f64 f, .float .f64 g] 55 (0, 0)) (by repeat (first | (with_reducible exact BKc.out) | (with_reducible refine blk_drewN ?_ _) | (with_reducible refine blk_drew ?_))) hb)
    replace BB := Aside0.mk (Below.trans (by repeat (first | (with_reducible exact BB.out) | (with_reducible apply Vc.below_drewN) | (with_reducible apply Below.drew) | (with_reducible refine bytes_below ?_ ?sz _))) (hb.mono (by have := BB.out.size; (try simp); omega)))
    clear hb
    have c0 : w3.cell? ⟨w1.heap.size, 0, none⟩ = some (.int .i64 i) := (blk_cell BKc.out 0).trans rfl
    have c1 : w3.cell? ⟨w1.heap.size, 1, none⟩ = some (.float .f64 f) := (blk_cell BKc.out 1).trans rfl
    have c2 : w3.cell? ⟨w1.heap.size, 2, none⟩ = some (.float .f64 g) := (blk_cell BKc.out 2).trans rfl
    go_wp2_with fail
    refine (PX.out _ _ (Table.holds_below HT.out (bytes_below BB.out BB.out.size _) h0) (mlen_below HM.out (bytes_below BB.out BB.out.size _)) (bv_cvt (bv_conv w3 l 0 (by omega)))).mono ?_
    rintro e w4 ⟨f', g', hf', hg', s1, s2, rfl, hb⟩
    have LW := Lib.hid (fun u => lw_cell i f' g' i f g hf' hg' FF.out.1 FF.out.2 u)
    rw [show scell i f' g' i f g = true by unfold scell; rw [s1, s2]; simp] at LW
    have hpos' : decide ((0 : Int) < (l.length : Int)) = true := decide_eq_true (by omega)
    replace BKc := Aside0.mk (blk_below (g := w1.heap.size) (o := .cells #[.int .i64 i, .float .f64 f, .float .f64 g] 55 (0, 0)) ((Lib.bytesWorld_at_old w3 5 _ _ (blk_lt BKc.out)).trans BKc.out) hb)
    replace BB := Aside0.mk (Below.trans (bytes_below BB.out BB.out.size _) (hb.mono (by have := BB.out.size; rw [Lib.bytesWorld_size]; omega)))
    have zc := blk_lt BKc.out
    clear hb hf' hg' s1 s2
    have c0 : w4.cell? ⟨w1.heap.size, 0, none⟩ = some (.int .i64 i) := (blk_cell BKc.out 0).trans rfl
    have c1 : w4.cell? ⟨w1.heap.size, 1, none⟩ = some (.float .f64 f) := (blk_cell BKc.out 1).trans rfl
    have c2 : w4.cell? ⟨w1.heap.size, 2, none⟩ = some (.float .f64 g) := (blk_cell BKc.out 2).trans rfl
    go_wp2_with fail
    refine (LW.out _).mono ?_
    rintro e w5 ⟨rfl, hb⟩
    go_wp2_with fail
    go_ret
    refine ⟨rfl, ?_⟩
    exact (BB.out.alloc BB.out.size _).trans (hb.mono (by have := BB.out.size; simp; omega))
end Go.Proofs.YtpmdgmnpkdoamabGreatDoor.Vc
