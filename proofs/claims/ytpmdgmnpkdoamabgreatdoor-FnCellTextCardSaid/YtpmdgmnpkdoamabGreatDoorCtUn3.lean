/- Proved here: what math.Abs and the law's comparison of cells tell. Conditions: the words are of their kind. -/
import Derived.Test.YtpmdgmnpkdoamabGreatDoorCtUn2
import Derived.Laws.BitsAllLaws
namespace Go.Proofs.YtpmdgmnpkdoamabGreatDoor.Vc
open Go.RowKit Fl Prom
open Ieee (single double)
theorem frombits_run (n : Int) (w : World) : (callFunc 149 #[.int .u64 n]).run Tryz.prog w = .ok (.value (.float .f64 n.toNat)) w := by kernel_rfl
theorem ret_float {k : FloatKind} {a b : Nat} (h : a = b) : Ending.returned (.float k a) = .returned (.float k b) := by rw [h]
theorem abs_bits (x : Nat) (hx : x < 18446744073709551616) : (bits BinOp.andNot IntKind.u64 (x : Int) 9223372036854775808).toNat = x % negZero := by
  have h := u64_andNot_nat x 9223372036854775808 hx (by omega)
  have e : (18446744073709551615 - 9223372036854775808 : Nat) = 2 ^ 63 - 1 := by decide
  rw [e, Nat.and_two_pow_sub_one_eq_mod] at h
  have h' : bits BinOp.andNot IntKind.u64 (x : Int) 9223372036854775808 = ((x % 2 ^ 63 : Nat) : Int) := h
  rw [h', Int.toNat_natCast]
  rfl
theorem impl_abs (x : Nat) (hx : x < 18446744073709551616) (w : World) : Calls Tryz.prog 100 #[.float .f64 x] w fun e w' => e = .returned (.float .f64 (x % negZero)) ∧ w = w' := by
  have hb := bits_run x
  have hf := frombits_run
  go_enter Tryz.func100, Tryz.ntmps100
  go_wp2
  go_ret
  refine ⟨ret_float (abs_bits x hx), rfl⟩
def eqC (i : Int) (f g : Nat) (i' : Int) (f' g' : Nat) : Bool := decide (i = i') && sameF f f' && sameF g g'
theorem eq_cell (i : Int) (f g : Nat) (i' : Int) (f' g' : Nat) (hf : f < 18446744073709551616) (hg : g < 18446744073709551616) (hf' : f' < 18446744073709551616) (hg' : g' < 18446744073709551616)
    (h1 : i = i') (h2 : sameF f f' = true) (h3 : sameF g g' = true) (w : World) :
    Calls Tryz.prog 186 #[.agg #[.int .i64 i, .float .f64 f, .float .f64 g], .agg #[.int .i64 i', .float .f64 f', .float .f64 g']] w fun e w' => e = .returned (.bool true) ∧ Below w.heap.size w w' := by
  subst h1
  have X1 := fun w => same_float f f' hf hf' w
  have X2 := fun w => same_float g g' hg hg' w
  simp only [h2, h3] at X1 X2
  clear h2 h3
  go_enter Tryz.func186, Tryz.ntmps186
  go_wp2_with fail
  refine (X1 _).mono ?_
  rintro e w' ⟨rfl, rfl⟩
  go_wp2_with fail
  refine (X2 _).mono ?_
  rintro e w' ⟨rfl, rfl⟩
  go_wp2_with fail
  all_goals go_ret
  all_goals refine ⟨rfl, ?_⟩
  all_goals repeat (first | exact Below.refl _ _ | apply below_drewN | apply Below.drew | (refine Below.setCell ?_ (by simp; try omega) _) | (refine Below.alloc ?_ (by simp; try omega) _))
end Go.Proofs.YtpmdgmnpkdoamabGreatDoor.Vc
