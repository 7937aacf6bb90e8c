/- Proved here: what the functions that draw cells answer: some cell (of what value is left open). Conditions: the source is one that numbers may be drawn from. -/
import Derived.Test.YtpmdgmnpkdoamabGreatDoorCtSrc
import Derived.Test.YtpmdgmnpkdoamabGreatDoorCtUn1
namespace Go.Proofs.YtpmdgmnpkdoamabGreatDoor.Drw
open Go.RowKit Go.Proofs.YtpmdgmnpkdoamabGreatDoorW.PrintWords Go.Proofs.YtpmdgmnpkdoamabGreatDoorW.PrintLast Go.Proofs.YtpmdgmnpkdoamabGreatDoorW.PrintMore
open Fl Vc Prom Src
set_option linter.unusedVariables false
set_option linter.unusedSimpArgs false
/-! ### the four operations of floats: some word -/
theorem fop_ex (op : BinOp) (ho : op = .add ∨ op = .sub ∨ op = .mul ∨ op = .quo) (x y : Nat) (w : World) : ∃ z n, (binOp op 53 (.float .f64 x) (.float .f64 y)).run Tryz.prog w = .ok (.float .f64 z) (w.drewN n) ∧ z < 18446744073709551616 := by
  cases h : floatBits op .f64 x y with
  | some r =>
    refine ⟨r, 0, run_float_arith w _ _ _ _ _ _ h, ?_⟩
    have := floatBits_wf h
    simpa [Lit.wf] using this
  | none =>
    refine ⟨_, 1, ?_, nan_word_lt (w.tape w.drawn (.nanBits .f64 x y))⟩
    rcases ho with rfl | rfl | rfl | rfl
    · have h' : FloatKind.f64.format.add x y = none := h
      simp [binOp, Op.floatArith, h', choose, Sem.run, Question.forced, Question.cut, World.drewN]
    · have h' : FloatKind.f64.format.sub x y = none := h
      simp [binOp, Op.floatArith, h', choose, Sem.run, Question.forced, Question.cut, World.drewN]
    · have h' : FloatKind.f64.format.mul x y = none := h
      simp [binOp, Op.floatArith, h', choose, Sem.run, Question.forced, Question.cut, World.drewN]
    · have h' : FloatKind.f64.format.div x y = none := h
      simp [binOp, Op.floatArith, h', choose, Sem.run, Question.forced, Question.cut, World.drewN]
noncomputable def fv (op : BinOp) (x y : Nat) (w : World) : Nat := open Classical in if ho : op = .add ∨ op = .sub ∨ op = .mul ∨ op = .quo then (fop_ex op ho x y w).choose else 0
noncomputable def fn (op : BinOp) (x y : Nat) (w : World) : Nat := open Classical in if ho : op = .add ∨ op = .sub ∨ op = .mul ∨ op = .quo then (fop_ex op ho x y w).choose_spec.choose else 0
theorem fv_lt (op : BinOp) (x y : Nat) (w : World) : fv op x y w < 18446744073709551616 := by
  unfold fv
  split
  · rename_i ho
    exact (fop_ex op ho x y w).choose_spec.choose_spec.2
  · decide
theorem f_run (op : BinOp) (ho : op = .add ∨ op = .sub ∨ op = .mul ∨ op = .quo) (x y : Nat) (w : World) : (binOp op 53 (.float .f64 x) (.float .f64 y)).run Tryz.prog w = .ok (.float .f64 (fv op x y w)) (w.drewN (fn op x y w)) := by
  unfold fv fn
  rw [dif_pos ho, dif_pos ho]
  exact (fop_ex op ho x y w).choose_spec.choose_spec.1
theorem f_add (x y : Nat) (w : World) : (binOp .add 53 (.float .f64 x) (.float .f64 y)).run Tryz.prog w = .ok (.float .f64 (fv .add x y w)) (w.drewN (fn .add x y w)) := f_run _ (by simp) x y w
theorem f_sub (x y : Nat) (w : World) : (binOp .sub 53 (.float .f64 x) (.float .f64 y)).run Tryz.prog w = .ok (.float .f64 (fv .sub x y w)) (w.drewN (fn .sub x y w)) := f_run _ (by simp) x y w
theorem f_mul (x y : Nat) (w : World) : (binOp .mul 53 (.float .f64 x) (.float .f64 y)).run Tryz.prog w = .ok (.float .f64 (fv .mul x y w)) (w.drewN (fn .mul x y w)) := f_run _ (by simp) x y w
theorem f_quo (x y : Nat) (w : World) : (binOp .quo 53 (.float .f64 x) (.float .f64 y)).run Tryz.prog w = .ok (.float .f64 (fv .quo x y w)) (w.drewN (fn .quo x y w)) := f_run _ (by simp) x y w
/-! ### the source, from a function's own start -/
def On (c g : Nat) (w0 W w : World) : Prop := Is c w0 w g ∧ Below w0.heap.size w0 w ∧ KeepBut W w g none
theorem On.start {c g : Nat} {w0 w : World} (h : Is c w0 w g) (hB : Below w0.heap.size w0 w) : On c g w0 w w := ⟨h, hB, KeepBut.refl _ _ _⟩
theorem On.drewN {c g : Nat} {w0 W w : World} (h : On c g w0 W w) (n : Nat) : On c g w0 W (w.drewN n) := ⟨h.1.below (pw_below_drewN (Below.refl _ _) n), pw_below_drewN h.2.1 n, keep_drewN h.2.2 n⟩
theorem On.drew {c g : Nat} {w0 W w : World} (h : On c g w0 W w) : On c g w0 W w.drew := ⟨h.1.below (below_drew (Below.refl _ _)), below_drew1 h.2.1, keep_drew h.2.2⟩
theorem On.alloc {c g : Nat} {w0 W w : World} (h : On c g w0 W w) (o : Obj) : On c g w0 W (w.alloc o) := ⟨h.1.below (below_alloc (Below.refl _ _) o), below_alloc h.2.1 o, keep_alloc h.2.2 o⟩
theorem On.size {c g : Nat} {w0 W w : World} (h : On c g w0 W w) : W.heap.size ≤ w.heap.size := h.2.2.1
/-- A store into a block made since. -/
theorem On.set {c g : Nat} {w0 W w : World} {p : Addr} (h : On c g w0 W w) (hp : W.heap.size ≤ p.block) (hg : g ≠ p.block) (hc : c ≠ p.block) (hW : w0.heap.size ≤ W.heap.size) (u : Value) : On c g w0 W (w.setCell p u) :=
  ⟨h.1.far hg hc u, h.2.1.setCell (Nat.le_trans hW hp) u, keep_far h.2.2 hp u⟩
theorem On.comp {c g : Nat} {w0 W w w' : World} (h : On c g w0 W w) (h2 : On c g w0 w w') : On c g w0 W w' := ⟨h2.1, h2.2.1, h.2.2.trans h2.2.2 (.inl rfl)⟩
theorem On.again {c g : Nat} {w0 W w : World} (h : On c g w0 W w) : On c g w0 w w := On.start h.1 h.2.1
theorem On.next {c g : Nat} {w0 W w : World} (h : On c g w0 W w) (n : Int) :
    Calls Tryz.prog 118 #[.pointer (some ⟨g, 0, none⟩), .int .i64 n] w fun e w' => ∃ r : Int, e = .returned (.int .i64 r) ∧ Aside0 (0 ≤ r ∧ (r < n ∨ r = 0)) ∧ Aside0 (On c g w0 w w') := by
  refine (next_is c g n w0 w h.2.1 h.1).mono ?_
  rintro e w' ⟨r, rfl, h0, h1, hi, hb, hk⟩
  exact ⟨r, rfl, ⟨h0, h1⟩, ⟨hi, hb, hk⟩⟩
theorem dtype_run {c g : Nat} {w0 W w : World} (h : On c g w0 W w) :
    Calls Tryz.prog 116 #[.pointer (some ⟨g, 0, none⟩)] w fun e w' => ∃ r : Int, e = .returned (.int .i64 r) ∧ Aside0 (1 ≤ r ∧ r ≤ 9) ∧ Aside0 (On c g w0 w w') := by
  have HG := Aside0.mk h
  clear h
  go_enter Tryz.func116, Tryz.ntmps116
  go_wp2_with (go_at_call 118; refine (HG.out.next _).mono ?_; rintro e w1 ⟨r, rfl, h0, h1⟩)
  go_ret
  have := h0.out
  refine ⟨_, rfl, ⟨?_⟩, h1⟩
  unfold wrap64
  omega
section
attribute [local go_sem] f_add f_sub f_mul f_quo
set_option maxHeartbeats 4000000 in
theorem float_run {c g : Nat} {w0 W w : World} (h : On c g w0 W w) :
    Calls Tryz.prog 119 #[.pointer (some ⟨g, 0, none⟩)] w fun e w' => ∃ x : Nat, e = .returned (.float .f64 x) ∧ Aside0 (x < 18446744073709551616) ∧ Aside0 (On c g w0 w w') := by
  have HG := Aside0.mk h.again
  clear h
  go_enter Tryz.func119, Tryz.ntmps119
  go_wp2_with (go_at_call 118; refine (HG.out.next _).mono ?_; rintro e w1 ⟨r, rfl, h0, h1⟩; replace HG := Aside0.mk (HG.out.comp h1.out); clear h0 h1)
  all_goals go_ret
  all_goals refine ⟨_, rfl, ⟨?_⟩, ⟨?_⟩⟩
  all_goals first | exact fv_lt _ _ _ _ | decide | skip
  all_goals repeat (first | exact HG.out | apply On.drewN)
end
theorem On.comp2 {c g : Nat} {w0 W w u w' : World} (h : On c g w0 W w) (h2 : On c g w0 u w') (hk : KeepBut w u g none := by exact KeepBut.refl _ _ _) : On c g w0 W w' := ⟨h2.1, h2.2.1, (h.2.2.trans hk (.inl rfl)).trans h2.2.2 (.inl rfl)⟩
/-! ### cells -/
/-- some cell. -/
def CellV (v : Value) : Prop := ∃ (i : Int) (f h : Nat), v = .agg #[.int .i64 i, .float .f64 f, .float .f64 h] ∧ f < 18446744073709551616 ∧ h < 18446744073709551616
theorem cutl_run (a n : Int) (w : World) : Calls Tryz.prog 142 #[.int .i64 a, .int .i64 n] w fun e w' => ∃ r : Int, e = .returned (.int .i64 r) ∧ w = w' := by
  go_enter Tryz.func142, Tryz.ntmps142
  go_wp2
  all_goals go_ret
  all_goals exact ⟨_, rfl, rfl⟩
theorem On.made {c g : Nat} {w0 W w w1 : World} (h : On c g w0 W w) (hb : Below w.heap.size w w1) : On c g w0 W w1 := ⟨h.1.below hb, h.2.1.trans (hb.mono h.2.1.size), h.2.2.trans (KeepBut.of_below hb g none) (.inl rfl)⟩
theorem round_lt {a : Int} {x y : Nat} (hx : x < 18446744073709551616) (h : if a = 7 then Through x y else y = x) : y < 18446744073709551616 := by
  split at h
  · exact h.1
  · subst h; exact hx
theorem cell3 {W1 : World} {b : Nat} {u0 u1 u2 : Value} {t : Nat} (h : W1.heap[b]? = some (.cells #[u0, u1, u2] t (0, 0))) (x y z : Value) : (((W1.setCell ⟨b, 0, none⟩ x).setCell ⟨b, 1, none⟩ y).setCell ⟨b, 2, none⟩ z).heap[b]? = some (.cells #[x, y, z] t (0, 0)) := by
  have h1 := blk_put (cs := #[u0, u1, u2]) h 0 x rfl
  have h2 := blk_put h1 1 y rfl
  exact blk_put h2 2 z rfl
attribute [local go_sem] run_store_float'
set_option maxHeartbeats 4000000 in
theorem cell_run {c g : Nat} {w0 W w : World} (dt : Int) (h : On c g w0 W w) :
    Calls Tryz.prog 117 #[.pointer (some ⟨g, 0, none⟩), .int .i64 dt] w fun e w' => ∃ v : Value, e = .returned v ∧ Aside0 (CellV v) ∧ Aside0 (On c g w0 w w') := by
  have HG := Aside0.mk h.again
  have HS := Aside0.mk h.2.1.size
  clear h
  go_enter Tryz.func117, Tryz.ntmps117
  go_wp2_with (first | ((with_reducible refine gate_dst (N := 4) rfl ?_); refine box_event ?hg (N := 4) ?hd (cs := #[.int .i64 0, .float .f64 0, .float .f64 0]) (t := 55) ?hr ?_; (case hd => rfl); (case hg => rfl); (case hr => first | (go_simp; done) | (go_simp; rfl)); intro gb hgb w3 hbox hb; have BK := Aside0.mk hbox; have NE := Aside0.mk (show gb ≠ g by rw [hgb]; exact Nat.ne_of_gt HG.out.1.lt.1); have NC := Aside0.mk (show c ≠ gb by rw [hgb]; exact Nat.ne_of_lt HG.out.1.lt.2); have GE := Aside0.mk (show w.heap.size ≤ gb by rw [hgb]; exact Nat.le_refl _); replace HG := Aside0.mk (HG.out.made hb); clear hb hbox hgb; have hcz0 : w3.cell? ⟨gb, 0, none⟩ = some (.int .i64 0) := (blk_cell BK.out 0).trans rfl; have hfz0 := blk_frozen BK.out 0; have hcz1 : w3.cell? ⟨gb, 1, none⟩ = some (.float .f64 0) := (blk_cell BK.out 1).trans rfl; have hfz1 := blk_frozen BK.out 1; have hcz2 : w3.cell? ⟨gb, 2, none⟩ = some (.float .f64 0) := (blk_cell BK.out 2).trans rfl; have hfz2 := blk_frozen BK.out 2) | (go_at_call 67; refine (spec_kind _ _).mono ?_; rintro e w' ⟨rfl, rfl⟩) | (go_at_call 68; refine (spec_low _ _).mono ?_; rintro e w' ⟨rfl, rfl⟩) | (go_at_call 69; refine (spec_high _ _).mono ?_; rintro e w' ⟨rfl, rfl⟩) | (go_at_call 142; refine (cutl_run _ _ _).mono ?_; rintro e w' ⟨q, rfl, rfl⟩) | (go_at_call 118; refine (On.next (show On c g w0 w _ from (by repeat (first | exact HG.out | apply On.drewN | apply On.drew))) _).mono ?_; rintro e w1 ⟨r, rfl, h0, h1⟩; replace BK := Aside0.mk (KeepBut.blk h1.out.2.2 (by repeat (first | exact BK.out | refine blk_drewN ?_ _ | refine blk_drew ?_)) NE.out (by simp)); replace HG := Aside0.mk (HG.out.comp2 h1.out); clear h1; clear h0; have hcz0 : w1.cell? ⟨gb, 0, none⟩ = some (.int .i64 0) := (blk_cell BK.out 0).trans rfl; have hfz0 := blk_frozen BK.out 0; have hcz1 : w1.cell? ⟨gb, 1, none⟩ = some (.float .f64 0) := (blk_cell BK.out 1).trans rfl; have hfz1 := blk_frozen BK.out 1; have hcz2 : w1.cell? ⟨gb, 2, none⟩ = some (.float .f64 0) := (blk_cell BK.out 2).trans rfl; have hfz2 := blk_frozen BK.out 2) | (go_at_call 119; refine (float_run (show On c g w0 w _ from (by repeat (first | exact HG.out | apply On.drewN | apply On.drew)))).mono ?_; rintro e w1 ⟨r, rfl, h0, h1⟩; replace BK := Aside0.mk (KeepBut.blk h1.out.2.2 (by repeat (first | exact BK.out | refine blk_drewN ?_ _ | refine blk_drew ?_)) NE.out (by simp)); replace HG := Aside0.mk (HG.out.comp2 h1.out); clear h1; have hcz0 : w1.cell? ⟨gb, 0, none⟩ = some (.int .i64 0) := (blk_cell BK.out 0).trans rfl; have hfz0 := blk_frozen BK.out 0; have hcz1 : w1.cell? ⟨gb, 1, none⟩ = some (.float .f64 0) := (blk_cell BK.out 1).trans rfl; have hfz1 := blk_frozen BK.out 1; have hcz2 : w1.cell? ⟨gb, 2, none⟩ = some (.float .f64 0) := (blk_cell BK.out 2).trans rfl; have hfz2 := blk_frozen BK.out 2) | (go_at_call 71; refine (spec_round _ _ h0.out _).mono ?_; rintro e w' ⟨y, n, rfl, ht, rfl⟩; have HY := Aside0.mk (round_lt h0.out ht); clear ht))
  all_goals refine bodyPost_ret (results_cell_row rfl _ _ gb 55 _ (0, 0) _ rfl (cell3 (by repeat (first | exact BK.out | refine blk_drewN ?_ _ | refine blk_drew ?_)) _ _ _) Tryz.underlying55 rfl (by kernel_rfl)) rfl ?_
  all_goals refine ⟨_, rfl, ⟨⟨_, _, _, rfl, ?_, ?_⟩⟩, ⟨?_⟩⟩
  all_goals first | decide | exact Aside0.out (by assumption) | skip
  all_goals repeat (first | exact HG.out | apply On.drewN | refine On.set ?_ GE.out NE.out.symm NC.out HS.out _)
end Go.Proofs.YtpmdgmnpkdoamabGreatDoor.Drw
