/- Proved here: what spec.ValidCell and the float functions below it answer. Conditions: the words are of their kind. -/
import Derived.Test.YtpmdgmnpkdoamabGreatDoorRows
import Derived.Test.YtpmdgmnpkdoamabGreatDoorCtTable
import Derived.Test.YtpmdgmnpkdoamabGreatDoorCtFl
import Derived.Test.YtpmdgmnpkdoamabGreatDoorCtCanCast
import Derived.WalkKit
import Derived.ProofKit
import Derived.OpenShut
import Derived.Below
import Derived.WalkLawsBesides
import Derived.Lib.Hide
import Derived.Deep.QuietTactic
import Derived.BigQuiet
import Derived.Deep.RegionWith
namespace Go.Proofs.YtpmdgmnpkdoamabGreatDoor.Vc
open Go.RowKit Fl Prom
open Ieee (single double)
theorem spec_nan (x : Nat) (w : World) : Calls Tryz.prog 89 #[.float .f64 x] w fun e w' => e = .returned (.bool (fnan x)) ∧ w = w' := by
  go_enter Tryz.func89, Tryz.ntmps89
  go_wp2
  go_ret
  exact ⟨rfl, rfl⟩
theorem bits_run (x : Nat) (w : World) : (callFunc 150 #[.float .f64 x]).run Tryz.prog w = .ok (.value (.int .u64 x)) w := by kernel_rfl
theorem i64_of_u64 (x : Nat) (hx : x < 18446744073709551616) : decide (wrap64 (x : Int) < 0) = decide (9223372036854775808 ≤ x) := by
  apply decide_eq_decide.2
  unfold wrap64
  omega
theorem signbit_any (x : Nat) (hx : x < 18446744073709551616) (w : World) : Calls Tryz.prog 122 #[.float .f64 x] w fun e w' => e = .returned (.bool (decide (9223372036854775808 ≤ x))) ∧ w = w' := by
  have hb := bits_run x
  go_enter Tryz.func122, Tryz.ntmps122
  go_wp2
  go_ret
  exact ⟨ret_bool (i64_of_u64 x hx), rfl⟩
theorem order_zero {x : Nat} (hx : x < 18446744073709551616) (h0 : x ≠ 0) (h1 : x ≠ negZero) : (FloatKind.f64.format.order x 0 == some Ordering.eq) = false := by
  have := feq_zero hx
  rw [decide_eq_false (by omega)] at this
  exact this
theorem spec_minus (x : Nat) (hx : x < 18446744073709551616) (w : World) : Calls Tryz.prog 127 #[.float .f64 x] w fun e w' => e = .returned (.bool (minus x)) ∧ w = w' := by
  by_cases h0 : x = 0
  · subst h0
    have ho : (FloatKind.f64.format.order 0 0 == some Ordering.eq) = true := by decide
    have hd : ∀ w, (binOp .quo 53 (.float .f64 4607182418800017408) (.float .f64 0)).run Tryz.prog w = .ok (.float .f64 9218868437227405312) w := fun w => run_float_arith w _ _ _ _ _ _ (by decide)
    go_enter Tryz.func127, Tryz.ntmps127
    go_wp2
    go_ret
    exact ⟨ret_bool (by decide), rfl⟩
  · by_cases h1 : x = negZero
    · subst h1
      have ho : (FloatKind.f64.format.order negZero 0 == some Ordering.eq) = true := by decide
      have hd : ∀ w, (binOp .quo 53 (.float .f64 4607182418800017408) (.float .f64 negZero)).run Tryz.prog w = .ok (.float .f64 18442240474082181120) w := fun w => run_float_arith w _ _ _ _ _ _ (by decide)
      go_enter Tryz.func127, Tryz.ntmps127
      go_wp2
      go_ret
      exact ⟨ret_bool (by decide), rfl⟩
    · have ho := order_zero hx h0 h1
      have HM := Lib.hid (show minus x = false from decide_eq_false h1)
      clear h0 h1
      go_enter Tryz.func127, Tryz.ntmps127
      go_wp2
      go_ret
      exact ⟨ret_bool HM.out.symm, rfl⟩
theorem plus_zero (x : Nat) (hx : x < 18446744073709551616) (w : World) : Calls Tryz.prog 120 #[.float .f64 x] w fun e w' => e = .returned (.bool (decide (x = 0))) ∧ w = w' := by
  by_cases h0 : x = 0
  · subst h0
    have ho : (FloatKind.f64.format.order 0 0 == some Ordering.eq) = true := by decide
    go_enter Tryz.func120, Tryz.ntmps120
    go_wp2_with (go_at_call 122; refine (signbit_any _ hx _).mono ?_; rintro e w' ⟨rfl, rfl⟩)
    go_ret
    exact ⟨ret_bool (by decide), rfl⟩
  · by_cases h1 : x = negZero
    · subst h1
      have ho : (FloatKind.f64.format.order negZero 0 == some Ordering.eq) = true := by decide
      go_enter Tryz.func120, Tryz.ntmps120
      go_wp2_with (go_at_call 122; refine (signbit_any _ hx _).mono ?_; rintro e w' ⟨rfl, rfl⟩)
      go_ret
      exact ⟨ret_bool (by decide), rfl⟩
    · have ho := order_zero hx h0 h1
      have hm : decide (x = 0) = false := decide_eq_false h0
      have HM := Lib.hid hm
      clear h0 h1 hm
      go_enter Tryz.func120, Tryz.ntmps120
      go_wp2
      go_ret
      exact ⟨ret_bool HM.out.symm, rfl⟩
theorem feq_yes {a b : Nat} (h : FloatKind.f64.format.order a b = some Ordering.eq) : feq a b = true := by
  show (FloatKind.f64.format.order a b == some Ordering.eq) = true
  rw [h]; rfl
theorem feq_no {a b : Nat} (h : ¬ FloatKind.f64.format.order a b = some Ordering.eq) : feq a b = false := by
  show (FloatKind.f64.format.order a b == some Ordering.eq) = false
  simpa using h
theorem spec_same (a b : Nat) (ha : a < 18446744073709551616) (hb : b < 18446744073709551616) (w : World) : Calls Tryz.prog 70 #[.float .f64 a, .float .f64 b] w fun e w' => e = .returned (.bool (sameF a b)) ∧ w = w' := by
  obtain ⟨p, hp⟩ : ∃ p, sameF a b = p := ⟨_, rfl⟩
  rw [hp]
  have P := Lib.hid hp
  clear hp
  cases hna : fnan a <;> cases hnb : fnan b
  all_goals
    have N := Lib.hid (And.intro hna hnb)
    go_enter Tryz.func70, Tryz.ntmps70
    go_wp2_with (first | (go_at_call 89; refine (spec_nan _ _).mono ?_; rintro e w' ⟨rfl, rfl⟩) | (go_at_call 127; refine (spec_minus _ (by assumption) _).mono ?_; rintro e w' ⟨rfl, rfl⟩))
    all_goals go_ret
    all_goals refine ⟨ret_bool ?_, rfl⟩
    all_goals rw [← P.out]
    all_goals unfold sameF
    all_goals rw [N.out.1, N.out.2]
    all_goals clear P N
    all_goals try rfl
    all_goals first
      | (rw [feq_yes (by assumption)]; simp)
      | (rw [feq_no (by assumption)]; simp)
def lowI (a : Int) : Int := if a = 1 then 0 else if a = 3 then 0 else if a = 2 then -128 else if a = 4 then -32768 else if a = 5 then -2147483648 else -9223372036854775808
def highI (a : Int) : Int := if a = 1 then 1 else if a = 3 then 255 else if a = 2 then 127 else if a = 4 then 32767 else if a = 5 then 2147483647 else 9223372036854775807
theorem spec_low (a : Int) (w : World) : Calls Tryz.prog 68 #[.int .i64 a] w fun e w' => e = .returned (.int .i64 (lowI a)) ∧ w = w' := by
  go_enter Tryz.func68, Tryz.ntmps68
  go_wp2
  all_goals go_ret
  all_goals refine ⟨ret_int ?_, rfl⟩
  all_goals unfold lowI
  all_goals grind
theorem spec_high (a : Int) (w : World) : Calls Tryz.prog 69 #[.int .i64 a] w fun e w' => e = .returned (.int .i64 (highI a)) ∧ w = w' := by
  go_enter Tryz.func69, Tryz.ntmps69
  go_wp2
  all_goals go_ret
  all_goals refine ⟨ret_int ?_, rfl⟩
  all_goals unfold highI
  all_goals grind
/-- What may come of a double that goes through single precision. -/
def Through (x y : Nat) : Prop := y < 18446744073709551616 ∧ (fnan x = true → fnan y = true) ∧ (∀ r z, narrow x = some r → widen r = some z → y = z) ∧ (fnan x = false → narrow x = none → feq y x = false)
theorem nan_of_rung {x : Nat} (h : double.infRung < x % double.signWeight) : fnan x = true := by
  rw [fnan_eq]
  have hB : double.binade < double.infRung := by decide
  unfold Ieee.Format.read
  generalize x % double.signWeight = rung at *
  generalize double.infRung = I at *
  generalize double.binade = B at *
  dsimp only
  rw [if_neg (by omega), if_neg (by omega), if_neg (by omega)]
  rfl
theorem nan_word (t : Nat) : fnan ((t % 2) * 2 ^ 63 + 0x7ff0000000000000 + 1 + (t / 2) % (2 ^ 52 - 1)) = true := by
  apply nan_of_rung
  rw [dbl_inf, dbl_sign]
  have hf : (t / 2) % (2 ^ 52 - 1) < 2 ^ 52 - 1 := Nat.mod_lt _ (by omega)
  generalize (t / 2) % (2 ^ 52 - 1) = f at *
  generalize t % 2 = s
  rw [show s * 2 ^ 63 + 0x7ff0000000000000 + 1 + f = negZero * s + (0x7ff0000000000000 + 1 + f) by unfold negZero; omega, Nat.mul_add_mod, Nat.mod_eq_of_lt (by unfold negZero; omega)]
  omega
theorem nan_word_lt (t : Nat) : (t % 2) * 2 ^ 63 + 0x7ff0000000000000 + 1 + (t / 2) % (2 ^ 52 - 1) < 18446744073709551616 := by omega
/-- From single precision back: the word, or some NaN of a NaN. -/
theorem widen_run (t : Nat) (ht : t < 4294967296) (w : World) : ∃ y n, (convert 167 53 (.float .f32 t)).run Tryz.prog w = .ok (.float .f64 y) (w.drewN n) ∧ y < 18446744073709551616 ∧ (widen t = some y ∨ widen t = none ∧ fnan y = true) := by
  rcases widen_cases t with h | ⟨y, h, _⟩
  · have hd : (FloatKind.f32).decode t = single.read t := rfl
    cases hr : single.read t with
    | number a b c => rw [hr] at h; cases h
    | infinity a => rw [hr] at h; cases h
    | nan a b =>
      refine ⟨_, 1, ?_, nan_word_lt (w.tape w.drawn (.nanConv .f64 t)), .inr ⟨?_, nan_word _⟩⟩
      · simp [convert, run_underlying Tryz.underlying167, run_underlying Tryz.underlying53, Conv.floatToFloat, hd, hr, choose, Sem.run, Question.forced, Question.cut, World.drewN]
      · unfold widen floatToFloatBits
        rw [if_neg (by decide)]
        simp only [FloatKind.decode, FloatKind.format, hr]
  · exact ⟨y, 0, run_convert_float_float w 167 53 .f32 .f64 t y (by rw [Tryz.underlying167]; rfl) Tryz.underlying53 h, widen_lt ht h, .inl h⟩

theorem nan_word_single (t : Nat) : (single.read ((t % 2) * 2 ^ 31 + 0x7f800000 + 1 + (t / 2) % (2 ^ 23 - 1))).isNaN = true := by
  have hf : (t / 2) % (2 ^ 23 - 1) < 2 ^ 23 - 1 := Nat.mod_lt _ (by omega)
  generalize (t / 2) % (2 ^ 23 - 1) = f at *
  generalize t % 2 = s
  have hS : single.signWeight = 2 ^ 31 := by decide
  rw [show s * 2 ^ 31 + 0x7f800000 + 1 + f = 2 ^ 31 * s + (0x7f800000 + 1 + f) by omega]
  unfold Ieee.Format.read
  rw [hS, Nat.mul_add_mod, Nat.mod_eq_of_lt (show 0x7f800000 + 1 + f < 2 ^ 31 by omega), sgl_binade, sgl_inf]
  dsimp only
  rw [if_neg (by omega), if_neg (by omega), if_neg (by omega)]
  rfl
theorem nan_word_single_lt (t : Nat) : (t % 2) * 2 ^ 31 + 0x7f800000 + 1 + (t / 2) % (2 ^ 23 - 1) < 4294967296 := by omega
theorem single_cases (x : Nat) (hx : x < 18446744073709551616) (w : World) : ∃ t n, t < 4294967296 ∧ (convert 53 167 (.float .f64 x)).run Tryz.prog w = .ok (.float .f32 t) (w.drewN n) ∧
    ((fnan x = true ∧ (single.read t).isNaN = true) ∨ narrow x = some t ∨ (narrow x = none ∧ tooWide x)) := by
  rcases narrow_cases x with h | ⟨r, h, _⟩ | ⟨h, hw⟩
  · have hn := h
    rw [fnan_eq] at hn
    have hd : (FloatKind.f64).decode x = double.read x := rfl
    cases hr : double.read x with
    | number a b c => rw [hr] at hn; cases hn
    | infinity a => rw [hr] at hn; cases hn
    | nan a b =>
      refine ⟨_, 1, nan_word_single_lt (w.tape w.drawn (.nanConv .f32 x)), ?_, .inl ⟨h, nan_word_single _⟩⟩
      simp [convert, run_underlying Tryz.underlying53, run_underlying Tryz.underlying167, Conv.floatToFloat, hd, hr, choose, Sem.run, Question.forced, Question.cut, World.drewN]
  · exact ⟨r, 0, narrow_lt hx h, run_convert_float_float w 53 167 .f64 .f32 x r (by rw [Tryz.underlying53]; rfl) Tryz.underlying167 h, .inr (.inl h)⟩
  · obtain ⟨s, m, e, hr, hi⟩ := hw
    have hd : (FloatKind.f64).decode x = double.read x := rfl
    have hi' : ((FloatKind.f32).decode ((FloatKind.f32).encode (.number s m e))).isInfinity = true := hi
    refine ⟨w.tape w.drawn (.floatToFloat x) % 2 ^ 32, 1, by omega, ?_, .inr (.inr ⟨h, s, m, e, hr, hi⟩)⟩
    simp [convert, run_underlying Tryz.underlying53, run_underlying Tryz.underlying167, Conv.floatToFloat, hd, hr, hi', choose, Sem.run, Question.forced, Question.cut, World.drewN]
theorem through_run (x : Nat) (hx : x < 18446744073709551616) (w : World) : ∃ t n y m, (convert 53 167 (.float .f64 x)).run Tryz.prog w = .ok (.float .f32 t) (w.drewN n) ∧
    (convert 167 53 (.float .f32 t)).run Tryz.prog (w.drewN n) = .ok (.float .f64 y) ((w.drewN n).drewN m) ∧ Through x y := by
  obtain ⟨t, n, ht, h1, hc⟩ := single_cases x hx w
  obtain ⟨y, m, h2, hy, hyc⟩ := widen_run t ht (w.drewN n)
  refine ⟨t, n, y, m, h1, h2, hy, ?_, ?_, ?_⟩
  · intro hn
    rcases hc with ⟨_, hc⟩ | hc | ⟨_, hc⟩
    · rcases hyc with h | ⟨_, h⟩
      · exfalso
        unfold widen floatToFloatBits at h
        rw [if_neg (by decide)] at h
        simp only [FloatKind.decode, FloatKind.format] at h
        cases hr : single.read t with
        | nan a b => rw [hr] at h; cases h
        | number a b c => rw [hr] at hc; cases hc
        | infinity a => rw [hr] at hc; cases hc
      · exact h
    · exfalso
      rw [fnan_eq] at hn
      unfold narrow floatToFloatBits at hc
      rw [if_neg (by decide)] at hc
      simp only [FloatKind.decode, FloatKind.format] at hc
      cases hr : double.read x with
      | nan a b => rw [hr] at hc; cases hc
      | number a b c => rw [hr] at hn; cases hn
      | infinity a => rw [hr] at hn; cases hn
    · obtain ⟨s, m, e, hr, _⟩ := hc
      rw [fnan_eq, hr] at hn; cases hn
  · intro r z hr hz
    rcases hc with ⟨hn, hc⟩ | hc | ⟨hc, _⟩
    · exfalso
      rw [fnan_eq] at hn
      unfold narrow floatToFloatBits at hr
      rw [if_neg (by decide)] at hr
      simp only [FloatKind.decode, FloatKind.format] at hr
      cases hq : double.read x with
      | nan a b => rw [hq] at hr; cases hr
      | number a b c => rw [hq] at hn; cases hn
      | infinity a => rw [hq] at hn; cases hn
    · rw [hr] at hc; cases hc
      rcases hyc with h | ⟨h, _⟩
      · rw [hz] at h; cases h; rfl
      · rw [hz] at h; cases h
    · rw [hr] at hc; cases hc
  · intro hn hno
    rcases hc with ⟨hn', _⟩ | hc | ⟨_, hw⟩
    · rw [hn] at hn'; cases hn'
    · rw [hno] at hc; cases hc
    · rcases hyc with h | ⟨_, h⟩
      · exact wide_ne hw h
      · exact feq_nan_left h

theorem same_self (x : Nat) : sameF x x = true := by
  unfold sameF
  cases h : fnan x
  · have : feq x x = true := by
      unfold fnan at h; unfold feq
      simpa [bne] using h
    simp [this]
  · rfl
theorem through_same {x y : Nat} (hx : x < 18446744073709551616) (h : Through x y) : sameF y x = f32ok x := by
  obtain ⟨hy, h1, h2, h3⟩ := h
  rcases narrow_cases x with hn | ⟨r, hr, hrn⟩ | ⟨hr, hw⟩
  · have := h1 hn
    unfold sameF f32ok
    rw [this, hn]; rfl
  · rcases widen_cases r with hz | ⟨z, hz, _⟩
    · rw [hrn] at hz; cases hz
    · have hyz := h2 r z hr hz
      subst hyz
      have hnn : fnan x = false := by
        cases hf : fnan x
        · rfl
        · exfalso
          rw [fnan_eq] at hf
          unfold narrow floatToFloatBits at hr
          rw [if_neg (by decide)] at hr
          simp only [FloatKind.decode, FloatKind.format] at hr
          cases hq : double.read x with
          | nan a b => rw [hq] at hr; cases hr
          | number a b c => rw [hq] at hf; cases hf
          | infinity a => rw [hq] at hf; cases hf
      rw [same_of_feq hx hy ?_ ?_]
      · unfold f32ok
        rw [hr, hnn]
        simp only [hz, Bool.false_and, Bool.false_or]
      · intro e
        subst e
        have a : narrow negZero = some 2147483648 := by decide
        rw [a] at hr; cases hr
        have b : widen 2147483648 = some negZero := by decide
        rw [b] at hz; cases hz; rfl
      · intro e
        subst e
        have a : narrow 0 = some 0 := by decide
        rw [a] at hr; cases hr
        have b : widen 0 = some 0 := by decide
        rw [b] at hz; cases hz; rfl
  · have hnn : fnan x = false := by
      obtain ⟨s, m, e, hr, _⟩ := hw
      rw [fnan_eq, hr]; rfl
    have := h3 hnn hr
    unfold sameF f32ok
    rw [hr, hnn, this]
    cases fnan y <;> rfl
theorem through_feq {x y : Nat} (h : Through x y) : (fnan x || feq y x) = f32ok x := by
  obtain ⟨hy, h1, h2, h3⟩ := h
  rcases narrow_cases x with hn | ⟨r, hr, hrn⟩ | ⟨hr, hw⟩
  · unfold f32ok; rw [hn]; rfl
  · rcases widen_cases r with hz | ⟨z, hz, _⟩
    · rw [hrn] at hz; cases hz
    · have hyz := h2 r z hr hz
      subst hyz
      unfold f32ok
      rw [hr]
      simp only [hz]
  · have hnn : fnan x = false := by
      obtain ⟨s, m, e, hr, _⟩ := hw
      rw [fnan_eq, hr]; rfl
    unfold f32ok
    rw [hr, hnn, h3 hnn hr]
    try rfl
def SingleP (x : Nat) (w : World) (e : Ending) (w' : World) : Prop := ∃ y n, e = .returned (.float .f64 y) ∧ Through x y ∧ w' = w.drewN n
def RoundP (a : Int) (x : Nat) (w : World) (e : Ending) (w' : World) : Prop := ∃ y n, e = .returned (.float .f64 y) ∧ (if a = 7 then Through x y else y = x) ∧ w' = w.drewN n
theorem spec_single (x : Nat) (hx : x < 18446744073709551616) (w : World) : Calls Tryz.prog 128 #[.float .f64 x] w (SingleP x w) := by
  obtain ⟨t, n, y, m, h1, h2, ht⟩ := through_run x hx w
  have HT := Lib.hid ht
  clear ht
  go_enter Tryz.func128, Tryz.ntmps128
  go_wp2
  go_ret
  exact ⟨y, n + m, rfl, HT.out, rfl⟩
theorem spec_round (a : Int) (x : Nat) (hx : x < 18446744073709551616) (w : World) : Calls Tryz.prog 71 #[.int .i64 a, .float .f64 x] w (RoundP a x w) := by
  by_cases h7 : a = 7
  · subst h7
    go_enter Tryz.func71, Tryz.ntmps71
    go_wp2_with (go_at_call 128; refine (spec_single _ hx _).mono ?_; rintro e w' ⟨y, n, rfl, HT, rfl⟩)
    go_ret
    exact ⟨y, n, rfl, by simpa using HT, rfl⟩
  · have h7' : (a == 7) = false := by simpa using h7
    have H7 := Lib.hid h7
    clear h7
    go_enter Tryz.func71, Tryz.ntmps71
    go_wp2
    go_ret
    exact ⟨x, 0, rfl, by rw [if_neg H7.out], rfl⟩
theorem spec_round8 (x : Nat) (w : World) : Calls Tryz.prog 71 #[.int .i64 8, .float .f64 x] w fun e w' => e = .returned (.float .f64 x) ∧ w = w' := by
  go_enter Tryz.func71, Tryz.ntmps71
  go_wp2
  go_ret
  exact ⟨rfl, rfl⟩
theorem spec_self (x : Nat) (hx : x < 18446744073709551616) (w : World) : Calls Tryz.prog 70 #[.float .f64 x, .float .f64 x] w fun e w' => e = .returned (.bool true) ∧ w = w' :=
  (spec_same x x hx hx w).mono fun _ _ ⟨a, b⟩ => ⟨a.trans (by rw [same_self]), b⟩
def vcell (a i : Int) (f g : Nat) : Bool :=
  if isdt a then
    (if kindI a < 2 then decide (lowI a ≤ i) && decide (i ≤ highI a) && decide (f = 0) && decide (g = 0)
     else if kindI a = 2 then decide (i = 0) && decide (g = 0) && (decide (a = 8) || f32ok f)
     else decide (i = 0))
  else false
theorem vcell_no {a i : Int} {f g : Nat} (ha : isdt a = false) : vcell a i f g = false := by unfold vcell; rw [ha]; rfl
theorem vcell_int {a i : Int} {f g : Nat} (ha : isdt a = true) (hk : kindI a < 2) : vcell a i f g = (decide (lowI a ≤ i) && decide (i ≤ highI a) && decide (f = 0) && decide (g = 0)) := by unfold vcell; rw [ha, if_pos rfl, if_pos hk]
theorem vcell_float {a i : Int} {f g : Nat} (ha : isdt a = true) (hk : ¬ kindI a < 2) (h2 : kindI a = 2) : vcell a i f g = (decide (i = 0) && decide (g = 0) && (decide (a = 8) || f32ok f)) := by unfold vcell; rw [ha, if_pos rfl, if_neg hk, if_pos h2]
theorem vcell_cplx {a i : Int} {f g : Nat} (ha : isdt a = true) (hk : ¬ kindI a < 2) (h2 : ¬ kindI a = 2) : vcell a i f g = decide (i = 0) := by unfold vcell; rw [ha, if_pos rfl, if_neg hk, if_neg h2]
theorem turned {P : Program} {f : FuncId} {args : Array Value} {w : World} {v : Value} (h : Calls P f args w fun e w' => e = .returned v ∧ w = w') : Calls P f args w fun e w' => e = .returned v ∧ w' = w :=
  h.mono fun _ _ ⟨a, b⟩ => ⟨a, b.symm⟩
theorem spec_same0 (x : Nat) (hx : x < 18446744073709551616) (w : World) : Calls Tryz.prog 70 #[.float .f64 x, .float .f64 0] w fun e w' => e = .returned (.bool (decide (x = 0))) ∧ w = w' :=
  (spec_same x 0 hx (by decide) w).mono fun _ _ ⟨a, b⟩ => ⟨a.trans (by rw [same_zero hx]), b⟩
theorem below_drewN {B : Nat} {a w : World} (h : Below B a w) (n : Nat) : Below B a (w.drewN n) := h.trans ⟨rfl, rfl, rfl, Nat.le_refl _, fun _ _ => rfl⟩
set_option maxHeartbeats 4000000 in
theorem spec_f32 (i : Int) (f g : Nat) (FG : Hid (f < 18446744073709551616 ∧ g < 18446744073709551616)) (c1 : (i == 0) = true) (c3 : decide (g = 0) = true) {p : Bool} (hp : p = f32ok f) (w : World) :
    Calls Tryz.prog 24 #[.int .i64 7, .agg #[.int .i64 i, .float .f64 f, .float .f64 g]] w fun e w' => e = .returned (.bool p) ∧ Below w.heap.size w w' := by
  have HP := Lib.hid hp
  clear hp
  have hi : isdt 7 = true := by decide
  have hk : kindI 7 = 2 := by decide
  go_enter Tryz.func24, Tryz.ntmps24
  go_wp2_with (first | (go_at_call 66; refine (spec_isd _ _).mono ?_; rintro e w' ⟨rfl, rfl⟩) | (go_at_call 67; refine (spec_kind _ _).mono ?_; rintro e w' ⟨rfl, rfl⟩))
  go_region_with (first | (go_at_call 71; refine (spec_round 7 f FG.out.1 _).mono ?_; rintro e w' ⟨y, n, rfl, HY, rfl⟩) | (go_at_call_of 70 g; refine (spec_same0 g FG.out.2 _).mono ?_; rintro e w' ⟨rfl, rfl⟩) | (go_at_call 70; refine (spec_same y f HY.1 FG.out.1 _).mono ?_; rintro e w' ⟨rfl, rfl⟩))
  all_goals go_wp2
  all_goals go_ret
  all_goals refine ⟨ret_bool ?_, ?_⟩
  all_goals first
    | (rw [HP.out]; exact through_same FG.out.1 HY)
    | (repeat (first | exact Below.refl _ _ | apply below_drewN | apply Below.drew | (refine Below.alloc ?_ (Nat.le_refl _) _)))
theorem spec_vcell (a i : Int) (f g : Nat) (hf : f < 18446744073709551616) (hg : g < 18446744073709551616) (w : World) :
    Calls Tryz.prog 24 #[.int .i64 a, .agg #[.int .i64 i, .float .f64 f, .float .f64 g]] w fun e w' => e = .returned (.bool (vcell a i f g)) ∧ Below w.heap.size w w' := by
  have hno := Lib.hid (@vcell_no a i f g)
  have hint := Lib.hid (@vcell_int a i f g)
  have hfl := Lib.hid (@vcell_float a i f g)
  have hcx := Lib.hid (@vcell_cplx a i f g)
  generalize vcell a i f g = p at hno hint hfl hcx ⊢
  have FG := Lib.hid (And.intro hf hg)
  clear hf hg
  cases ha : isdt a with
  | false =>
    have P1 := Lib.hid (hno.out ha)
    go_enter Tryz.func24, Tryz.ntmps24
    go_wp2_with (go_at_call 66; refine (spec_isd _ _).mono ?_; rintro e w' ⟨rfl, rfl⟩)
    go_ret
    exact ⟨ret_bool P1.out.symm, (Below.refl _ _).alloc (Nat.le_refl _) _⟩
  | true =>
    by_cases hk : kindI a < 2
    · have P2 := Lib.hid (hint.out ha hk)
      clear hno hint hfl hcx
      cases c1 : decide (lowI a ≤ i) <;> cases c2 : decide (i ≤ highI a) <;> cases c3 : decide (f = 0)
      all_goals
        have C := Lib.hid (And.intro c1 (And.intro c2 c3))
        go_enter Tryz.func24, Tryz.ntmps24
        go_wp2_with (first | (go_at_call 66; refine (spec_isd _ _).mono ?_; rintro e w' ⟨rfl, rfl⟩) | (go_at_call 67; refine (spec_kind _ _).mono ?_; rintro e w' ⟨rfl, rfl⟩))
        go_quiet (first | (go_at_call 68; exact Calls.quiet_of_same (turned (spec_low _ _))) | (go_at_call 69; exact Calls.quiet_of_same (turned (spec_high _ _))) | (go_at_call_of 70 f; exact Calls.quiet_of_same (turned (spec_same0 f FG.out.1 _))) | (go_at_call_of 70 g; exact Calls.quiet_of_same (turned (spec_same0 g FG.out.2 _))))
        go_wp2
        go_ret
        refine ⟨ret_bool ?_, below_drewN ((Below.refl _ _).alloc (Nat.le_refl _) _) _⟩
        rw [P2.out, C.out.1, C.out.2.1, C.out.2.2]
        first | rfl | simp
    · by_cases h2 : kindI a = 2
      · have P2 := Lib.hid (hfl.out ha hk h2)
        clear hno hint hfl hcx
        have h2' : (kindI a == 2) = true := by rw [h2]; rfl
        have hk' : decide (kindI a < 2) = false := decide_eq_false hk
        clear h2 hk
        by_cases h7 : a = 7
        · have h8 : a ≠ 8 := by omega
          have P3 := Lib.hid (show p = (decide (i = 0) && decide (g = 0) && f32ok f) by rw [P2.out, decide_eq_false h8]; rfl)
          clear P2 h8
          subst h7
          have I0 := Lib.hid (show decide (i = 0) = (i == 0) by by_cases h : i = 0 <;> simp [h])
          cases c1 : (i == 0)
          · have C := Lib.hid c1
            go_enter Tryz.func24, Tryz.ntmps24
            go_wp2_with (first | (go_at_call 66; refine (spec_isd _ _).mono ?_; rintro e w' ⟨rfl, rfl⟩) | (go_at_call 67; refine (spec_kind _ _).mono ?_; rintro e w' ⟨rfl, rfl⟩))
            go_quiet (fail)
            go_wp2
            go_ret
            refine ⟨ret_bool ?_, below_drewN ((Below.refl _ _).alloc (Nat.le_refl _) _) _⟩
            rw [P3.out, I0.out, C.out]
            rfl
          · cases c3 : decide (g = 0)
            · have C := Lib.hid (And.intro c1 c3)
              go_enter Tryz.func24, Tryz.ntmps24
              go_wp2_with (first | (go_at_call 66; refine (spec_isd _ _).mono ?_; rintro e w' ⟨rfl, rfl⟩) | (go_at_call 67; refine (spec_kind _ _).mono ?_; rintro e w' ⟨rfl, rfl⟩))
              go_quiet ((go_at_call_of 70 g; exact Calls.quiet_of_same (turned (spec_same0 g FG.out.2 _))))
              go_wp2
              go_ret
              refine ⟨ret_bool ?_, below_drewN ((Below.refl _ _).alloc (Nat.le_refl _) _) _⟩
              rw [P3.out, I0.out, C.out.1, C.out.2]
              rfl
            · exact spec_f32 i f g FG c1 c3 (by rw [P3.out, I0.out, c1, c3]; rfl) w
        · have h8 : a = 8 := by
            have := isdt_yes ha
            have h2 : kindI a = 2 := by simpa using h2'
            unfold kindI at h2
            grind
          have P3 := Lib.hid (show p = (decide (i = 0) && decide (g = 0)) by rw [P2.out, decide_eq_true h8]; simp)
          clear P2
          subst h8
          have I0 := Lib.hid (show decide (i = 0) = (i == 0) by by_cases h : i = 0 <;> simp [h])
          cases c1 : (i == 0) <;> cases c3 : decide (g = 0)
          all_goals
            have C := Lib.hid (And.intro c1 c3)
            go_enter Tryz.func24, Tryz.ntmps24
            go_wp2_with (first | (go_at_call 66; refine (spec_isd _ _).mono ?_; rintro e w' ⟨rfl, rfl⟩) | (go_at_call 67; refine (spec_kind _ _).mono ?_; rintro e w' ⟨rfl, rfl⟩))
            go_quiet (first | (go_at_call 71; exact Calls.quiet_of_same (turned (spec_round8 f _))) | (go_at_call_of 70 g; exact Calls.quiet_of_same (turned (spec_same0 g FG.out.2 _))) | (go_at_call 70; exact Calls.quiet_of_same (turned (spec_self f FG.out.1 _))))
            go_wp2
            go_ret
            refine ⟨ret_bool ?_, below_drewN ((Below.refl _ _).alloc (Nat.le_refl _) _) _⟩
            rw [P3.out, I0.out, C.out.1, C.out.2]
            rfl
      · have P2 := Lib.hid (hcx.out ha hk h2)
        have h2' : (kindI a == 2) = false := by simpa using h2
        have hk' : decide (kindI a < 2) = false := decide_eq_false hk
        clear h2 hno hint hfl hcx
        go_enter Tryz.func24, Tryz.ntmps24
        go_wp2_with (first | (go_at_call 66; refine (spec_isd _ _).mono ?_; rintro e w' ⟨rfl, rfl⟩) | (go_at_call 67; refine (spec_kind _ _).mono ?_; rintro e w' ⟨rfl, rfl⟩))
        all_goals go_ret
        all_goals refine ⟨ret_bool ?_, ((Below.refl _ _).alloc (Nat.le_refl _) _)⟩
        all_goals rw [P2.out]
        all_goals (by_cases h : i = 0 <;> simp [h])

end Go.Proofs.YtpmdgmnpkdoamabGreatDoor.Vc
