/- Proved here: what negation, the integer's cell and the law's comparison of floats answer. Conditions: the words are of their kind. -/
import Derived.Test.YtpmdgmnpkdoamabGreatDoorCtBef
import Derived.Test.YtpmdgmnpkdoamabGreatDoorCtNg
namespace Go.Proofs.YtpmdgmnpkdoamabGreatDoor.Vc
open Go.RowKit Fl Prom
open Ieee (single double)
def NegOf (x y : Nat) : Prop := y < 18446744073709551616 ∧ (fnan x = true → fnan y = true) ∧ (fnan x = false → y = flip x)
theorem xor_flip {x : Nat} (hx : x < 18446744073709551616) : x ^^^ 2 ^ 63 = flip x := by
  have low : ∀ y : Nat, y < 2 ^ 63 → y ^^^ 2 ^ 63 = 2 ^ 63 + y := by
    intro y hy
    apply Nat.eq_of_testBit_eq
    intro i
    rw [Nat.testBit_xor, Nat.testBit_two_pow]
    rcases Nat.lt_trichotomy i 63 with h | h | h
    · rw [Nat.testBit_two_pow_add_gt h]
      have : ¬ 63 = i := by omega
      simp [this]
    · subst h
      rw [Nat.testBit_two_pow_add_eq]
      simp
    · have h1 : y.testBit i = false := Nat.testBit_lt_two_pow (Nat.lt_of_lt_of_le hy (Nat.pow_le_pow_right (by omega) (by omega)))
      have h2 : (2 ^ 63 + y).testBit i = false := Nat.testBit_lt_two_pow (Nat.lt_of_lt_of_le (show 2 ^ 63 + y < 2 ^ 64 by omega) (Nat.pow_le_pow_right (by omega) (by omega)))
      have : ¬ 63 = i := by omega
      simp [h1, h2, this]
  unfold Fl.flip negZero
  by_cases h : x < 9223372036854775808
  · rw [if_pos h, low x h]; omega
  · rw [if_neg h]
    have e := low (x - 9223372036854775808) (by omega)
    have e2 : x = (x - 9223372036854775808) ^^^ 2 ^ 63 := by rw [e]; omega
    conv => lhs; rw [e2]
    rw [Nat.xor_assoc, Nat.xor_self, Nat.xor_zero]
theorem neg_run (x : Nat) (hx : x < 18446744073709551616) (w : World) : ∃ y n, (binOp .mul 53 (.float .f64 13830554455654793216) (.float .f64 x)).run Tryz.prog w = .ok (.float .f64 y) (w.drewN n) ∧ NegOf x y := by
  cases hn : fnan x
  · exact ⟨flip x, 0, run_float_arith w _ _ _ _ _ _ (mul_neg hx hn), flip_lt hx, fun h => by (first | (rw [hn] at h; cases h) | cases h), fun _ => rfl⟩
  · have hm : double.mul negOne x = none := by
      unfold Ieee.Format.mul
      rw [fnan_eq] at hn
      cases hr : double.read x with
      | number a b c => rw [hr] at hn; cases hn
      | infinity a => rw [hr] at hn; cases hn
      | nan a b => rw [negOne_read]; rfl
    have hm' : FloatKind.f64.format.mul 13830554455654793216 x = none := hm
    refine ⟨_, 1, ?_, nan_word_lt (w.tape w.drawn (.nanBits .f64 13830554455654793216 x)), fun _ => nan_word _, fun h => by (first | (rw [hn] at h; cases h) | cases h)⟩
    simp [binOp, Op.floatArith, hm', choose, Sem.run, Question.forced, Question.cut, World.drewN]
def NegateP (x : Nat) (w : World) (e : Ending) (w' : World) : Prop := ∃ y n, e = .returned (.float .f64 y) ∧ NegOf x y ∧ w' = w.drewN n
theorem spec_negate (x : Nat) (hx : x < 18446744073709551616) (w : World) : Calls Tryz.prog 140 #[.float .f64 x] w (NegateP x w) := by
  obtain ⟨y, n, h1, ht⟩ := neg_run x hx w
  have HT := Lib.hid ht
  clear ht
  go_enter Tryz.func140, Tryz.ntmps140
  go_wp2
  go_ret
  exact ⟨y, n, rfl, HT.out, rfl⟩
def hasU (op a : Int) : Bool := if op = 1 then decide (kindI a ≠ 0) else if op = 2 then decide (kindI a ≤ 1) else if op = 3 then decide (kindI a = 1 ∨ kindI a = 2) else true
theorem kind_range (a : Int) : 0 ≤ kindI a ∧ kindI a ≤ 3 := by unfold kindI; grind
theorem run_store_float' (P : Program) (w : World) (a : Addr) (m : Mode) (k : FloatKind) (b : Nat) : (store a (.float k b) m).run P w = stored P w a (.float k b) m := run_store P w a _ m rfl
attribute [local go_sem] run_store_float'
theorem int_cell (i : Int) (w : World) : Calls Tryz.prog 77 #[.int .i64 i] w fun e w' => e = .returned (.agg #[.int .i64 i, .float .f64 0, .float .f64 0]) ∧ Below w.heap.size w w' := by
  go_enter Tryz.func77, Tryz.ntmps77
  go_wp2
  refine bodyPost_ret (v := .agg #[.int .i64 i, .float .f64 0, .float .f64 0]) (by simp [results, go_sem]) rfl ⟨rfl, ?_⟩
  repeat (first | exact Below.refl _ _ | apply below_drewN | apply Below.drew | (refine Below.setCell ?_ (by simp; try omega) _) | (refine Below.alloc ?_ (by simp; try omega) _))
/-- An integer as the dtype keeps it. -/
def cutI (a n : Int) : Int := if a = 2 then (n + 128) % 256 - 128 else if a = 3 then n % 256 else if a = 4 then (n + 32768) % 65536 - 32768 else if a = 5 then (n + 2147483648) % 4294967296 - 2147483648 else n
theorem wrap8 (n : Int) : wrap64 (IntKind.i8.wrap n) = (n + 128) % 256 - 128 := by
  have : IntKind.i8.wrap n = (n + 128) % 256 - 128 := by
    have e : IntKind.i8.wrap n = if n % 256 ≥ 128 then n % 256 - 256 else n % 256 := by simp [IntKind.wrap, IntKind.signed, IntKind.bits]
    rw [e]
    split <;> omega
  rw [this]; unfold wrap64; omega
theorem wrap16 (n : Int) : wrap64 (IntKind.i16.wrap n) = (n + 32768) % 65536 - 32768 := by
  have : IntKind.i16.wrap n = (n + 32768) % 65536 - 32768 := by
    have e : IntKind.i16.wrap n = if n % 65536 ≥ 32768 then n % 65536 - 65536 else n % 65536 := by simp [IntKind.wrap, IntKind.signed, IntKind.bits]
    rw [e]
    split <;> omega
  rw [this]; unfold wrap64; omega
theorem wrap32' (n : Int) : wrap64 (wrap32 n) = (n + 2147483648) % 4294967296 - 2147483648 := by unfold wrap64 wrap32; omega
theorem impl_cut (a n : Int) (w : World) : Calls Tryz.prog 152 #[.int .i64 a, .int .i64 n] w fun e w' => e = .returned (.int .i64 (cutI a n)) ∧ w = w' := by
  obtain ⟨p, hp⟩ : ∃ p, cutI a n = p := ⟨_, rfl⟩
  rw [hp]
  have P := Lib.hid hp
  clear hp
  go_enter Tryz.func152, Tryz.ntmps152
  go_wp2
  all_goals go_ret
  all_goals refine ⟨ret_int ?_, rfl⟩
  all_goals rw [← P.out]
  all_goals unfold cutI
  all_goals try simp only [wrap8, wrap16, wrap32']
  all_goals grind
theorem same_nz {a b : Nat} (ha : a < 18446744073709551616) (hb : b < 18446744073709551616) (h : feq a 0 = false ∨ feq b 0 = false) (ha1 : fnan a = false) (hb1 : fnan b = false) : sameF a b = feq a b := by
  unfold sameF
  rw [ha1, hb1]
  simp only [Bool.or_false, Bool.false_eq_true, if_false]
  cases he : feq a b
  · simp
  · have hno : ∀ x y : Nat, x < 18446744073709551616 → y < 18446744073709551616 → feq x y = true → (feq x 0 = false ∨ feq y 0 = false) → minus x = false := by
      intro x y hx hy hxy hz
      cases hm : minus x
      · rfl
      · exfalso
        have hxz : x = negZero := of_decide_eq_true hm
        subst hxz
        rw [feq_comm] at hxy
        have hyz := zero_of_feq hy (.inr rfl) hxy
        rw [feq_zero hx, feq_zero hy, decide_eq_true hyz, decide_eq_true (p := negZero = 0 ∨ negZero = negZero) (.inr rfl)] at hz
        simp at hz
    rw [hno a b ha hb he h, hno b a hb ha (by rw [feq_comm]; exact he) h.symm]
    rfl
theorem same_nan_l {a b : Nat} (h : fnan a = true) : sameF a b = fnan b := by unfold sameF; rw [h]; simp
theorem same_nan_r {a b : Nat} (h : fnan b = true) : sameF a b = fnan a := by unfold sameF; rw [h]; simp
theorem nn_of {a : Nat} (h : FloatKind.f64.format.order a a = some Ordering.eq) : fnan a = false := by
  show (FloatKind.f64.format.order a a != some Ordering.eq) = false
  rw [h]; rfl
theorem nan_of_not {a : Nat} (h : ¬ FloatKind.f64.format.order a a = some Ordering.eq) : fnan a = true := by
  show (FloatKind.f64.format.order a a != some Ordering.eq) = true
  simpa using h
theorem same_float_nz (a b : Nat) (ha : a < 18446744073709551616) (hb : b < 18446744073709551616) (h : feq a 0 = false ∨ feq b 0 = false) (w : World) : Calls Tryz.prog 211 #[.float .f64 a, .float .f64 b] w fun e w' => e = .returned (.bool (sameF a b)) ∧ w = w' := by
  obtain ⟨p, hp⟩ : ∃ p, sameF a b = p := ⟨_, rfl⟩
  rw [hp]
  have P := Lib.hid hp
  clear hp
  have HZ := Lib.hid h
  have fin : ∀ q : Bool, (FloatKind.f64.format.order a a = some Ordering.eq → (FloatKind.f64.format.order b b != some Ordering.eq) = false → q = feq a b) → True := fun _ _ => trivial
  clear fin
  cases hza : feq a 0 with
  | false =>
    have hza' : (FloatKind.f64.format.order a 0 == some Ordering.eq) = false := hza
    clear hza h
    go_enter Tryz.func211, Tryz.ntmps211
    go_wp2
    all_goals go_ret
    all_goals refine ⟨ret_bool ?_, rfl⟩
    all_goals rw [← P.out]
    all_goals first
      | (rw [same_nan_r (show fnan b = true by assumption), nn_of (by assumption)]; done)
      | (rw [same_nz ha hb HZ.out (nn_of (by assumption)) (show fnan b = false by assumption)]; rfl)
      | (rw [same_nan_l (nan_of_not (by assumption)), show (FloatKind.f64.format.order a a != some Ordering.eq) = true from nan_of_not (by assumption)]; rfl)
  | true =>
    have hzb : feq b 0 = false := by rcases h with h | h; rw [h] at hza; cases hza; exact h
    have hza' : (FloatKind.f64.format.order a 0 == some Ordering.eq) = true := hza
    have hzb' : (FloatKind.f64.format.order b 0 == some Ordering.eq) = false := hzb
    clear hza h hzb
    go_enter Tryz.func211, Tryz.ntmps211
    go_wp2
    all_goals go_ret
    all_goals refine ⟨ret_bool ?_, rfl⟩
    all_goals rw [← P.out]
    all_goals first
      | (rw [same_nan_r (show fnan b = true by assumption), nn_of (by assumption)]; done)
      | (rw [same_nz ha hb HZ.out (nn_of (by assumption)) (show fnan b = false by assumption)]; rfl)
      | (rw [same_nan_l (nan_of_not (by assumption)), show (FloatKind.f64.format.order a a != some Ordering.eq) = true from nan_of_not (by assumption)]; rfl)
theorem same_float_zz (a b : Nat) (ha : a = 0 ∨ a = negZero) (hb : b = 0 ∨ b = negZero) (w : World) : Calls Tryz.prog 211 #[.float .f64 a, .float .f64 b] w fun e w' => e = .returned (.bool (sameF a b)) ∧ w = w' := by
  have hd0 : ∀ w, (binOp .quo 53 (.float .f64 4607182418800017408) (.float .f64 0)).run Tryz.prog w = .ok (.float .f64 9218868437227405312) w := fun w => run_float_arith w _ _ _ _ _ _ (by decide)
  have hd1 : ∀ w, (binOp .quo 53 (.float .f64 4607182418800017408) (.float .f64 negZero)).run Tryz.prog w = .ok (.float .f64 18442240474082181120) w := fun w => run_float_arith w _ _ _ _ _ _ (by decide)
  have o1 : (FloatKind.f64.format.order 0 0 == some Ordering.eq) = true := by decide
  have o2 : (FloatKind.f64.format.order negZero 0 == some Ordering.eq) = true := by decide
  have o3 : (FloatKind.f64.format.order 0 0 != some Ordering.eq) = false := by decide
  have o4 : (FloatKind.f64.format.order negZero negZero != some Ordering.eq) = false := by decide
  have o5 : FloatKind.f64.format.order negZero negZero = some Ordering.eq := by decide
  have o6 : FloatKind.f64.format.order 0 0 = some Ordering.eq := by decide
  rcases ha with rfl | rfl <;> rcases hb with rfl | rfl
  all_goals
    go_enter Tryz.func211, Tryz.ntmps211
    go_wp2
    all_goals go_ret
    all_goals exact ⟨ret_bool (by decide), rfl⟩
theorem same_float (a b : Nat) (ha : a < 18446744073709551616) (hb : b < 18446744073709551616) (w : World) : Calls Tryz.prog 211 #[.float .f64 a, .float .f64 b] w fun e w' => e = .returned (.bool (sameF a b)) ∧ w = w' := by
  cases h1 : feq a 0
  · exact same_float_nz a b ha hb (.inl h1) w
  · cases h2 : feq b 0
    · exact same_float_nz a b ha hb (.inr h2) w
    · rw [feq_zero ha] at h1
      rw [feq_zero hb] at h2
      exact same_float_zz a b (of_decide_eq_true h1) (of_decide_eq_true h2) w
end Go.Proofs.YtpmdgmnpkdoamabGreatDoor.Vc
