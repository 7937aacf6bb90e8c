/- Proved here: what the parts of impl.Apply answer at the smaller and the larger one. Conditions: the table of dtypes holds what the program lays in it; the words are of their kind. -/
import Derived.Test.YtpmdgmnpkdoamabDoorApa
import Derived.Test.YtpmdgmnpkdoamabDoorBefore
namespace Go.Proofs.YtpmdgmnpkdoamabDoor.Vc
open Go.RowKit Fl Prom
open Ieee (single double)
/-- Is the operation for the dtype (of 1, 5, 6)? -/
def serv (op a : Int) : Bool := isdt a && (decide (op = 1) || decide (kindI a ≠ 3))
theorem serves_run (op a : Int) (ho : op = 1 ∨ op = 5 ∨ op = 6) (w : World) (hT : Table.Holds w) : Calls Tryd.prog 96 #[.int .i64 op, .int .i64 a] w fun e w' => e = .returned (.bool (serv op a)) ∧ w = w' := by
  unfold serv
  cases ha : isdt a with
  | false =>
    clear hT
    go_enter Tryd.func96, Tryd.ntmps96
    go_wp2_with (go_at_call 68; refine (impl_isd _ _).mono ?_; rintro e w' ⟨rfl, rfl⟩)
    all_goals go_ret
    all_goals exact ⟨ret_bool (by simp), rfl⟩
  | true =>
    obtain ⟨n, hn, rfl⟩ : ∃ n : Nat, n < 9 ∧ a = (n : Int) + 1 := ⟨(a - 1).toNat, by have := isdt_yes ha; omega, by have := isdt_yes ha; omega⟩
    obtain ⟨r0, -⟩ := row_of hT n hn
    clear hT
    have hz : 0 < w.heap.size := World.block_lt_of_cell? w _ r0
    have hns : ((n : Int) + 1).toNat = n + 1 := by omega
    have hlt : (n : Int) + 1 < 10 := by omega
    have B := Lib.hid (kind_bound n)
    generalize kindI ((n : Int) + 1) = k at *
    have hk : k = 0 ∨ k = 1 ∨ k = 2 ∨ k = 3 := by have := B.out; omega
    clear B
    rcases ho with rfl | rfl | rfl <;> rcases hk with rfl | rfl | rfl | rfl
    all_goals
      go_enter Tryd.func96, Tryd.ntmps96
      go_wp2_with (go_at_call 68; refine (impl_isd _ _).mono ?_; rintro e w' ⟨rfl, rfl⟩)
      all_goals go_ret
      all_goals exact ⟨ret_bool (by decide), rfl⟩
theorem bool_op (op i j : Int) (ho : op = 5 ∨ op = 6) (hi : i = 0 ∨ i = 1) (hj : j = 0 ∨ j = 1) (w : World) : Calls Tryd.prog 98 #[.int .i64 op, .int .i64 i, .int .i64 j] w fun e w' => e = .returned (.int .i64 (if op = 5 then min i j else max i j)) ∧ w = w' := by
  rcases ho with rfl | rfl <;> rcases hi with rfl | rfl <;> rcases hj with rfl | rfl
  all_goals
    go_enter Tryd.func98, Tryd.ntmps98
    go_wp2
    all_goals go_ret
    all_goals exact ⟨ret_int (by decide), rfl⟩
theorem int_op (op i j : Int) (n : Nat) (hn : n < 9) (ho : op = 5 ∨ op = 6) (w : World) (hT : Table.Holds w) : Calls Tryd.prog 99 #[.int .i64 op, .int .i64 ((n : Int) + 1), .int .i64 i, .int .i64 j] w fun e w' => e = .returned (.int .i64 (if op = 5 then min i j else max i j)) ∧ w = w' := by
  obtain ⟨r0, r1, r2, -⟩ := row_of hT n hn
  clear hT
  have hz : 0 < w.heap.size := World.block_lt_of_cell? w _ r0
  have hns : ((n : Int) + 1).toNat = n + 1 := by omega
  have hlt : (n : Int) + 1 < 10 := by omega
  rcases ho with rfl | rfl
  all_goals
    go_enter Tryd.func99, Tryd.ntmps99
    go_wp2
    all_goals go_ret
    all_goals exact ⟨ret_int (by omega), rfl⟩
theorem frombits_nan (w : World) : (callFunc 187 #[.int .u64 9221120237041090561]).run Tryd.prog w = .ok (.value (.float .f64 9221120237041090561)) w := by kernel_rfl
theorem nan_run (w : World) : Calls Tryd.prog 157 #[] w fun e w' => ∃ x, e = .returned (.float .f64 x) ∧ (x < 18446744073709551616 ∧ fnan x = true) ∧ w = w' := by
  have hb := frombits_nan
  go_enter Tryd.func157, Tryd.ntmps157
  go_wp2
  all_goals go_ret
  all_goals exact ⟨_, rfl, ⟨by decide, by decide⟩, rfl⟩
/-- The smaller or larger of two floats: a NaN where one is a NaN. -/
def MM (op : Int) (f f' x : Nat) : Prop := x < 18446744073709551616 ∧ if (fnan f || fnan f') = true then fnan x = true else x = (if fbef f' f = decide (op = 5) then f' else f)
theorem float_op (op a : Int) (f f' : Nat) (ho : op = 5 ∨ op = 6) (hf : f < 18446744073709551616) (hf' : f' < 18446744073709551616) (w : World) : Calls Tryd.prog 100 #[.int .i64 op, .int .i64 a, .float .f64 f, .float .f64 f'] w fun e w' => ∃ x, e = .returned (.float .f64 x) ∧ MM op f f' x ∧ w = w' := by
  have FF := Lib.hid (And.intro hf hf')
  have S := fun w => impl_fbef f' f hf' hf w
  clear hf hf'
  cases c : fbef f' f
  all_goals
    simp only [c] at S
    have C := Lib.hid c
    clear c
    rcases ho with rfl | rfl
    all_goals
      go_enter Tryd.func100, Tryd.ntmps100
      go_wp2_with (first | (go_at_call 157; refine (nan_run _).mono ?_; rintro e w' ⟨x, rfl, hx, rfl⟩; have HX := Lib.hid hx; clear hx) | (go_at_call 147; refine (S _).mono ?_; rintro e w' ⟨rfl, rfl⟩))
      all_goals go_ret
      all_goals refine ⟨_, rfl, ?_, rfl⟩
      all_goals unfold MM
      all_goals rw [C.out]
      all_goals first
        | (rw [show fnan f' = true by assumption, Bool.or_true, if_pos rfl]; exact HX.out)
        | (rw [nan_of_not (a := f) (by assumption), Bool.true_or, if_pos rfl]; exact HX.out)
        | (rw [nn_of (a := f) (by assumption), show fnan f' = false by assumption, Bool.or_false, if_neg (by decide)]; exact ⟨by first | exact FF.out.1 | exact FF.out.2, by simp⟩)
        | trace_state
end Go.Proofs.YtpmdgmnpkdoamabDoor.Vc
