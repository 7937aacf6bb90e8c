/- Proved here: what the parts of impl.Convert answer. Conditions: the words are of their kind; the table of dtypes holds what the program lays in it. -/
import Derived.Test.YtpmdgmnpkdoamabDoorCv
import Derived.Test.YtpmdgmnpkdoamabDoorVcImpl
import Derived.Laws.FloatBits
namespace Go.Proofs.YtpmdgmnpkdoamabDoor.Vc
open Go.RowKit Fl Prom
open Ieee (single double Format Datum)
set_option linter.unusedVariables false
set_option linter.unusedSimpArgs false
theorem through_run' (x : Nat) (hx : x < 18446744073709551616) (w : World) : ∃ t n y m, (convert 23 105 (.float .f64 x)).run Tryd.prog w = .ok (.float .f32 t) (w.drewN n) ∧
    (convert 105 23 (.float .f32 t)).run Tryd.prog (w.drewN n) = .ok (.float .f64 y) ((w.drewN n).drewN m) ∧ Through x y ∧ f32ok y = true := by
  obtain ⟨t, n, y, m, h1, h2, ht⟩ := through_run x hx w
  refine ⟨t, n, y, m, h1, h2, ht, ?_⟩
  obtain ⟨t', n', hb, h1', -⟩ := single_cases x hx w
  have e := h1.symm.trans h1'
  simp only [Result.ok.injEq, Value.float.injEq] at e
  obtain ⟨⟨_, e1⟩, _⟩ := e
  obtain ⟨y', m', h2', -, hc⟩ := widen_run t (by rw [e1]; exact hb) (w.drewN n)
  have e := h2.symm.trans h2'
  simp only [Result.ok.injEq, Value.float.injEq] at e
  obtain ⟨⟨_, e3⟩, _⟩ := e
  rw [← e3] at hc
  rcases hc with h | ⟨_, h⟩
  · exact f32ok_widen h
  · unfold f32ok; rw [h]; rfl
theorem single_run (x : Nat) (hx : x < 18446744073709551616) (w : World) : Calls Tryd.prog 93 #[.float .f64 x] w fun e w' => ∃ y n, e = .returned (.float .f64 y) ∧ (Through x y ∧ f32ok y = true) ∧ w' = w.drewN n := by
  obtain ⟨t, n, y, m, h1, h2, ht⟩ := through_run' x hx w
  have HT := Lib.hid ht
  clear ht
  go_enter Tryd.func93, Tryd.ntmps93
  go_wp2
  go_ret
  exact ⟨y, n + m, rfl, HT.out, rfl⟩
/-! ### whole numbers to floats -/
theorem near_not_nan (s : Bool) (m : Nat) (e : Int) : (single.read (single.nearest s m e)).isNaN = false := by
  unfold Format.nearest
  dsimp only
  split
  · cases s <;> decide
  · generalize hrung : min _ single.infRung = rung
    have hle : rung ≤ single.infRung := by rw [← hrung]; exact Nat.min_le_right _ _
    rcases Nat.lt_or_ge rung single.infRung with h | h
    · rw [read_word single s rung h]; split <;> rfl
    · obtain rfl : rung = single.infRung := by omega
      cases s <;> decide
theorem int_wide (i : Int) : ∃ y, widen (FloatKind.f32.nearest i) = some y ∧ (y < 18446744073709551616 ∧ f32ok y = true ∧ (i.natAbs < 2 ^ 24 → IntOf i y)) := by
  have hlt : FloatKind.f32.nearest i < 4294967296 := by
    have := Ieee.Format.nearest_lt single (decide (i < 0)) i.natAbs 0
    exact this
  rcases widen_cases (FloatKind.f32.nearest i) with h | ⟨y, hy, _⟩
  · exfalso
    have : (single.read (FloatKind.f32.nearest i)).isNaN = false := near_not_nan _ _ _
    rw [this] at h; cases h
  · refine ⟨y, hy, widen_lt hlt hy, f32ok_widen hy, ?_⟩
    intro hs
    obtain ⟨y', hy', hI⟩ := int_single hs
    rw [hy] at hy'
    cases hy'
    exact hI
theorem near_lt64 (i : Int) : FloatKind.f64.nearest i < 18446744073709551616 := Ieee.Format.nearest_lt double (decide (i < 0)) i.natAbs 0
/-! ### floats to whole numbers -/
theorem wrap_i64 (z : Int) : IntKind.i64.wrap z = wrap64 z := by
  have e : IntKind.i64.wrap z = if z % 18446744073709551616 ≥ 9223372036854775808 then z % 18446744073709551616 - 18446744073709551616 else z % 18446744073709551616 := by simp [IntKind.wrap, IntKind.signed, IntKind.bits]
  rw [e]
  unfold wrap64
  split <;> omega
theorem ci_ex (x : Nat) (w : World) : ∃ r n, (convert 23 2 (.float .f64 x)).run Tryd.prog w = .ok (.int .i64 r) (w.drewN n) ∧ (-9223372036854775808 ≤ r ∧ r ≤ 9223372036854775807) ∧ ∀ k, IntOf k x → -9223372036854775808 ≤ k → k ≤ 9223372036854775807 → r = k := by
  have hd : (FloatKind.f64).decode x = double.read x := rfl
  have wr : ∀ z, -9223372036854775808 ≤ IntKind.i64.wrap z ∧ IntKind.i64.wrap z ≤ 9223372036854775807 := by
    intro z
    rw [wrap_i64]
    unfold wrap64
    omega
  cases ht : (double.read x).toInt .zero with
  | none =>
    refine ⟨IntKind.i64.wrap ((w.tape w.drawn (.floatToInt .f64 x .i64) % 18446744073709551616 : Nat) : Int), 1, ?_, wr _, ?_⟩
    · simp [convert, run_underlying Tryd.underlying23, run_underlying Tryd.underlying2, Conv.floatToInt, hd, ht, choose, Sem.run, Question.forced, Question.cut, World.drewN]
    · intro k hk; rw [int_back hk] at ht; cases ht
  | some m =>
    by_cases hm : -9223372036854775808 ≤ m ∧ m ≤ 9223372036854775807
    · refine ⟨m, 0, ?_, hm, ?_⟩
      · have hm' : IntKind.i64.min ≤ m ∧ m ≤ IntKind.i64.max := hm
        have hc : Conv.floatToInt .f64 x .i64 = pure (.int .i64 m) := by
          unfold Conv.floatToInt
          simp only [hd, ht]
          exact if_pos hm'
        simp [convert, run_underlying Tryd.underlying23, run_underlying Tryd.underlying2, hc, World.drewN]
      · intro k hk _ _; rw [int_back hk] at ht; cases ht; rfl
    · refine ⟨IntKind.i64.wrap ((w.tape w.drawn (.floatToInt .f64 x .i64) % 18446744073709551616 : Nat) : Int), 1, ?_, wr _, ?_⟩
      · have hm' : ¬ (IntKind.i64.min ≤ m ∧ m ≤ IntKind.i64.max) := hm
        have hc : Conv.floatToInt .f64 x .i64 = (do pure (.int .i64 (IntKind.i64.wrap (← choose (.floatToInt .f64 x .i64))))) := by
          unfold Conv.floatToInt
          simp only [hd, ht]
          exact if_neg hm'
        simp [convert, run_underlying Tryd.underlying23, run_underlying Tryd.underlying2, hc, choose, Sem.run, Question.forced, Question.cut, World.drewN]
      · intro k hk h1 h2; rw [int_back hk] at ht; cases ht; exact absurd ⟨h1, h2⟩ hm
noncomputable def ci (x : Nat) (w : World) : Int := (ci_ex x w).choose
noncomputable def cn (x : Nat) (w : World) : Nat := (ci_ex x w).choose_spec.choose
theorem ci_run (x : Nat) (w : World) : (convert 23 2 (.float .f64 x)).run Tryd.prog w = .ok (.int .i64 (ci x w)) (w.drewN (cn x w)) := (ci_ex x w).choose_spec.choose_spec.1
theorem ci_range (x : Nat) (w : World) : -9223372036854775808 ≤ ci x w ∧ ci x w ≤ 9223372036854775807 := (ci_ex x w).choose_spec.choose_spec.2.1
theorem ci_back {x : Nat} (w : World) {k : Int} (h : IntOf k x) (h1 : -9223372036854775808 ≤ k) (h2 : k ≤ 9223372036854775807) : ci x w = k := (ci_ex x w).choose_spec.choose_spec.2.2 k h h1 h2
def HI63 : Nat := 4890909195324358656
def LO63 : Nat := 14114281232179134464
theorem hi63 : IntOf 9223372036854775808 HI63 := ⟨false, 2 ^ 52, 11, by decide, by omega, by decide +kernel⟩
theorem lo63 : IntOf (-9223372036854775808) LO63 := ⟨true, 2 ^ 52, 11, by decide, by omega, by decide +kernel⟩
def InP (a : Int) (x : Nat) (r : Int) : Prop := (lowI a ≤ r ∧ r ≤ highI a) ∧ ∀ k, IntOf k x → lowI a ≤ k → k ≤ highI a → r = k
theorem cmp_lt {n k : Int} (h : n < k) : compare n k = .lt := by simp [compare, compareOfLessAndEq, h]
theorem cmp_gt {n k : Int} (h : k < n) : compare n k = .gt := by
  have n1 : ¬ n < k := by omega
  have n2 : ¬ n = k := by omega
  simp [compare, compareOfLessAndEq, n1, n2]
theorem cmp_eq (n : Int) : compare n n = .eq := by simp [compare, compareOfLessAndEq]
theorem inp_of {a : Int} {x : Nat} {z : Int} (LH : lowI a ≤ 0 ∧ 0 ≤ highI a ∧ -9223372036854775808 ≤ lowI a ∧ highI a ≤ 9223372036854775807) (hz : -9223372036854775808 ≤ z ∧ z ≤ 9223372036854775807)
    (hb : ∀ k, IntOf k x → -9223372036854775808 ≤ k → k ≤ 9223372036854775807 → z = k) (r : Int) (hr : r = min (max z (lowI a)) (highI a)) : InP a x r := by
  refine ⟨by omega, fun k hk h1 h2 => ?_⟩
  have := hb k hk (by omega) (by omega)
  omega
theorem inp_nan {a : Int} {x : Nat} (LH : lowI a ≤ 0 ∧ 0 ≤ highI a ∧ -9223372036854775808 ≤ lowI a ∧ highI a ≤ 9223372036854775807) (h : (FloatKind.f64.format.order x x != some Ordering.eq) = true) : InP a x 0 := by
  refine ⟨⟨LH.1, LH.2.1⟩, fun k hk _ _ => ?_⟩
  have : FloatKind.f64.format.order x x = some .eq := (int_order hk hk).trans (by rw [cmp_eq])
  rw [this] at h
  cases h
theorem inp_hi {a : Int} {x : Nat} (LH : lowI a ≤ 0 ∧ 0 ≤ highI a ∧ -9223372036854775808 ≤ lowI a ∧ highI a ≤ 9223372036854775807)
    (h : (FloatKind.f64.format.order x 4890909195324358656 == some Ordering.gt) = true ∨ (FloatKind.f64.format.order x 4890909195324358656 == some Ordering.eq) = true) : InP a x (highI a) := by
  refine ⟨⟨by omega, by omega⟩, fun k hk _ h2 => ?_⟩
  have : FloatKind.f64.format.order x 4890909195324358656 = some .lt := (int_order hk hi63).trans (by rw [cmp_lt (by omega)])
  rw [this] at h
  rcases h with h | h <;> cases h
theorem inp_lo {a : Int} {x : Nat} (LH : lowI a ≤ 0 ∧ 0 ≤ highI a ∧ -9223372036854775808 ≤ lowI a ∧ highI a ≤ 9223372036854775807)
    (h : (FloatKind.f64.format.order x 14114281232179134464 == some Ordering.lt) = true) : InP a x (lowI a) := by
  refine ⟨⟨by omega, by omega⟩, fun k hk h1 _ => ?_⟩
  have : FloatKind.f64.format.order x 14114281232179134464 ≠ some .lt := by
    intro he
    have e := (int_order hk lo63).symm.trans he
    rcases Int.lt_trichotomy k (-9223372036854775808) with h | h | h
    · omega
    · subst h; rw [cmp_eq] at e; cases e
    · rw [cmp_gt h] at e; cases e
  exact absurd (by simpa using h) this
set_option maxHeartbeats 4000000 in
attribute [local go_sem] ci_run run_store_float' in
theorem toint_run (n : Nat) (hn : n < 9) (hk : kindI ((n : Int) + 1) = 1) (x : Nat) (hx : x < 18446744073709551616) (w : World) (hT : Table.Holds w) :
    Calls Tryd.prog 92 #[.int .i64 ((n : Int) + 1), .float .f64 x] w fun e w' => ∃ r, e = .returned (.int .i64 r) ∧ InP ((n : Int) + 1) x r ∧ Below w.heap.size w w' := by
  obtain ⟨r0, r1, r2, r3, r4⟩ := row_of hT n hn
  have lh := low_high n hn (by omega)
  rw [← lh.1] at r3
  rw [← lh.2] at r4
  have LH := Lib.hid (show lowI ((n : Int) + 1) ≤ 0 ∧ 0 ≤ highI ((n : Int) + 1) ∧ -9223372036854775808 ≤ lowI ((n : Int) + 1) ∧ highI ((n : Int) + 1) ≤ 9223372036854775807 by unfold lowI highI; grind)
  have hz : 0 < w.heap.size := World.block_lt_of_cell? w _ r0
  have hz1 : ¬ 0 = w.heap.size := by omega
  have hns : ((n : Int) + 1).toNat = n + 1 := by omega
  have hlt : (n : Int) + 1 < 10 := by omega
  clear hT lh hk
  have CI := Lib.hid (inp_of (a := (n : Int) + 1) LH.out (ci_range x (w.alloc (Obj.cells #[.int .i64 (kindI ((n : Int) + 1)), .int .i64 (Table.tabAt (n + 1) 1), .int .i64 (Table.tabAt (n + 1) 2), .int .i64 (lowI ((n : Int) + 1)), .int .i64 (highI ((n : Int) + 1))] 101))) (fun k h1 h2 h3 => ci_back _ h1 h2 h3))
  go_enter Tryd.func92, Tryd.ntmps92
  go_wp2
  all_goals go_ret
  all_goals refine ⟨_, rfl, ?_, ?_⟩
  all_goals first
    | exact inp_nan LH.out (by assumption)
    | exact inp_hi LH.out (by assumption)
    | exact inp_lo LH.out (by assumption)
    | exact CI.out _ (by have := LH.out; omega)
    | skip
  all_goals repeat (first | exact Below.refl _ _ | apply below_drewN | apply Below.drew | (refine Below.setCell ?_ (by simp; try omega) _) | (refine Below.alloc ?_ (by simp; try omega) _))
end Go.Proofs.YtpmdgmnpkdoamabDoor.Vc
