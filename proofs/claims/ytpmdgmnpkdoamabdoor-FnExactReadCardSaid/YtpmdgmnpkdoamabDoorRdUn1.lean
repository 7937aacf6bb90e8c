/- Proved here: what the functions below ApplyUnary answer: negation, absolute value, the law's comparison of floats. Conditions: the words are of their kind. -/
import Derived.Test.YtpmdgmnpkdoamabDoorRdBef
import Derived.Test.YtpmdgmnpkdoamabDoorRdNg
namespace Go.Proofs.YtpmdgmnpkdoamabDoor.Vc
open Go.RowKit Fl Prom
open Ieee (single double)
def NegOf (x y : Nat) : Prop := y < 18446744073709551616 ∧ (fnan x = true → fnan y = true) ∧ (fnan x = false → y = flip x)
def NegateP (x : Nat) (w : World) (e : Ending) (w' : World) : Prop := ∃ y n, e = .returned (.float .f64 y) ∧ NegOf x y ∧ w' = w.drewN n
def hasU (op a : Int) : Bool := if op = 1 then decide (kindI a ≠ 0) else if op = 2 then decide (kindI a ≤ 1) else if op = 3 then decide (kindI a = 1 ∨ kindI a = 2) else true
theorem run_store_float' (P : Program) (w : World) (a : Addr) (m : Mode) (k : FloatKind) (b : Nat) : (store a (.float k b) m).run P w = stored P w a (.float k b) m := run_store P w a _ m rfl
attribute [local go_sem] run_store_float'
def cutI (a n : Int) : Int := if a = 2 then (n + 128) % 256 - 128 else if a = 3 then n % 256 else if a = 4 then (n + 32768) % 65536 - 32768 else if a = 5 then (n + 2147483648) % 4294967296 - 2147483648 else n
theorem same_nz {a b : Nat} (ha : a < 18446744073709551616) (hb : b < 18446744073709551616) (h : feq a 0 = false ∨ feq b 0 = false) (ha1 : fnan a = false) (hb1 : fnan b = false) : sameF a b = feq a b := by
 unfold sameF
 rw [ha1, hb1]
 simp only [Bool.or_false, Bool.false_eq_true, if_false]
 cases he : feq a b
 ·simp
 ·have hno : ∀ x y : Nat, x < 18446744073709551616 → y < 18446744073709551616 → feq x y = true → (feq x 0 = false ∨ feq y 0 = false) → minus x = false := by
   intro x y hx hy hxy hz
   cases hm : minus x
   ·rfl
   ·exfalso
    have hxz : x = negZero := of_decide_eq_true hm
    subst hxz
    rw [feq_comm] at hxy
    have hyz := zero_of_feq hy (.inr rfl) hxy
    rw [feq_zero hx, feq_zero hy, decide_eq_true hyz, decide_eq_true (p := negZero = 0 ∨ negZero = negZero) (.inr rfl)] at hz
    simp at hz
  rw [hno a b ha hb he h, hno b a hb ha (by rw [feq_comm]; exact he) h.symm]
  rfl
theorem same_nan_l {a b : Nat} (h : fnan a = true) : sameF a b = fnan b := by unfold sameF; rw [h]; simp
theorem same_nan_r {a b : Nat} (h : fnan b = true) : sameF a b = fnan a := by unfold sameF; rw [h]; simp
theorem nn_of {a : Nat} (h : FloatKind.f64.format.order a a = some Ordering.eq) : fnan a = false := by
 show (FloatKind.f64.format.order a a != some Ordering.eq) = false
 rw [h]; rfl
theorem nan_of_not {a : Nat} (h : ¬ FloatKind.f64.format.order a a = some Ordering.eq) : fnan a = true := by
 show (FloatKind.f64.format.order a a != some Ordering.eq) = true
 simpa using h
theorem same_float_nz (a b : Nat) (ha : a < 18446744073709551616) (hb : b < 18446744073709551616) (h : feq a 0 = false ∨ feq b 0 = false) (w : World) : Calls Tryd.prog 153 #[.float .f64 a, .float .f64 b] w fun e w' => e = .returned (.bool (sameF a b)) ∧ w = w' := by
 obtain ⟨p, hp⟩ : ∃ p, sameF a b = p := ⟨_, rfl⟩
 rw [hp]
 have P := Lib.hid hp
 clear hp
 have HZ := Lib.hid h
 have fin : ∀ q : Bool, (FloatKind.f64.format.order a a = some Ordering.eq → (FloatKind.f64.format.order b b != some Ordering.eq) = false → q = feq a b) → True := fun _ _ => trivial
 clear fin
 cases hza : feq a 0 with
 | false =>
  have hza' : (FloatKind.f64.format.order a 0 == some Ordering.eq) = false := hza
  clear hza h
  go_enter Tryd.func153, Tryd.ntmps153
  go_wp2
  all_goals go_ret
  all_goals refine ⟨ret_bool ?_, rfl⟩
  all_goals rw [← P.out]
  all_goals first
   | (rw [same_nan_r (show fnan b = true by assumption), nn_of (by assumption)]; done)
   | (rw [same_nz ha hb HZ.out (nn_of (by assumption)) (show fnan b = false by assumption)]; rfl)
   | (rw [same_nan_l (nan_of_not (by assumption)), show (FloatKind.f64.format.order a a != some Ordering.eq) = true from nan_of_not (by assumption)]; rfl)
 | true =>
  have hzb : feq b 0 = false := by rcases h with h | h; rw [h] at hza; cases hza; exact h
  have hza' : (FloatKind.f64.format.order a 0 == some Ordering.eq) = true := hza
  have hzb' : (FloatKind.f64.format.order b 0 == some Ordering.eq) = false := hzb
  clear hza h hzb
  go_enter Tryd.func153, Tryd.ntmps153
  go_wp2
  all_goals go_ret
  all_goals refine ⟨ret_bool ?_, rfl⟩
  all_goals rw [← P.out]
  all_goals first
   | (rw [same_nan_r (show fnan b = true by assumption), nn_of (by assumption)]; done)
   | (rw [same_nz ha hb HZ.out (nn_of (by assumption)) (show fnan b = false by assumption)]; rfl)
   | (rw [same_nan_l (nan_of_not (by assumption)), show (FloatKind.f64.format.order a a != some Ordering.eq) = true from nan_of_not (by assumption)]; rfl)
theorem same_float_zz (a b : Nat) (ha : a = 0 ∨ a = negZero) (hb : b = 0 ∨ b = negZero) (w : World) : Calls Tryd.prog 153 #[.float .f64 a, .float .f64 b] w fun e w' => e = .returned (.bool (sameF a b)) ∧ w = w' := by
 have hd0 : ∀ w, (binOp .quo 23 (.float .f64 4607182418800017408) (.float .f64 0)).run Tryd.prog w = .ok (.float .f64 9218868437227405312) w := fun w => run_float_arith w _ _ _ _ _ _ (by decide)
 have hd1 : ∀ w, (binOp .quo 23 (.float .f64 4607182418800017408) (.float .f64 negZero)).run Tryd.prog w = .ok (.float .f64 18442240474082181120) w := fun w => run_float_arith w _ _ _ _ _ _ (by decide)
 have o1 : (FloatKind.f64.format.order 0 0 == some Ordering.eq) = true := by decide
 have o2 : (FloatKind.f64.format.order negZero 0 == some Ordering.eq) = true := by decide
 have o3 : (FloatKind.f64.format.order 0 0 != some Ordering.eq) = false := by decide
 have o4 : (FloatKind.f64.format.order negZero negZero != some Ordering.eq) = false := by decide
 have o5 : FloatKind.f64.format.order negZero negZero = some Ordering.eq := by decide
 have o6 : FloatKind.f64.format.order 0 0 = some Ordering.eq := by decide
 rcases ha with rfl | rfl <;> rcases hb with rfl | rfl
 all_goals
  go_enter Tryd.func153, Tryd.ntmps153
  go_wp2
  all_goals go_ret
  all_goals exact ⟨ret_bool (by decide), rfl⟩
theorem same_float (a b : Nat) (ha : a < 18446744073709551616) (hb : b < 18446744073709551616) (w : World) : Calls Tryd.prog 153 #[.float .f64 a, .float .f64 b] w fun e w' => e = .returned (.bool (sameF a b)) ∧ w = w' := by
 cases h1 : feq a 0
 ·exact same_float_nz a b ha hb (.inl h1) w
 ·cases h2 : feq b 0
  ·exact same_float_nz a b ha hb (.inr h2) w
  ·rw [feq_zero ha] at h1
   rw [feq_zero hb] at h2
   exact same_float_zz a b (of_decide_eq_true h1) (of_decide_eq_true h2) w
end Go.Proofs.YtpmdgmnpkdoamabDoor.Vc
