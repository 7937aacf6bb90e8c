/- Proved here: what both Promote functions answer at all whole numbers, and that the law on them answers true. No condition. -/
import Derived.Test.YtpmdgmnpkdoamaaRows
import Derived.WalkKit
import Derived.ProofKit
import Derived.OpenShut
import Derived.Below
import Derived.Lib.Hide
namespace Go.Proofs.Ytpmdgmnpkdoamaa.Prom
open Go.RowKit
def isdt (a : Int) : Bool := decide (1 ≤ a) && decide (a ≤ 9)
theorem ret_bool {a b : Bool} (h : a = b) : Ending.returned (.bool a) = .returned (.bool b) := by rw [h]
theorem ret_int {k : IntKind} {a b : Int} (h : a = b) : Ending.returned (.int k a) = .returned (.int k b) := by rw [h]
theorem spec_isd (a : Int) (w : World) : Calls Try.prog 75 #[.int .i64 a] w fun e w' => e = .returned (.bool (isdt a)) ∧ w = w' := by
  go_enter Try.func75, Try.ntmps75
  go_wp2
  all_goals go_ret
  all_goals exact ⟨ret_bool (by simp [isdt]; omega), rfl⟩
theorem impl_isd (a : Int) (w : World) : Calls Try.prog 76 #[.int .i64 a] w fun e w' => e = .returned (.bool (isdt a)) ∧ w = w' := by
  go_enter Try.func76, Try.ntmps76
  go_wp2
  all_goals go_ret
  all_goals exact ⟨ret_bool (by simp [isdt]; omega), rfl⟩
def prom (a b : Int) : Int :=
  if 1 ≤ a ∧ a ≤ 9 ∧ 1 ≤ b ∧ b ≤ 9 then
    (if (if b < a then b else a) = 2 ∧ (if b < a then a else b) = 3 then 4 else if (if b < a then a else b) = 7 ∧ ((if b < a then b else a) = 5 ∨ (if b < a then b else a) = 6) then 8 else (if b < a then a else b))
  else 0

theorem prom_no {a b : Int} (h : ¬ (1 ≤ a ∧ a ≤ 9 ∧ 1 ≤ b ∧ b ≤ 9)) : prom a b = 0 := by unfold prom; rw [if_neg h]
theorem isdt_no {a : Int} (h : isdt a = false) : ¬ (1 ≤ a ∧ a ≤ 9) := by simp [isdt] at h; omega
theorem isdt_yes {a : Int} (h : isdt a = true) : 1 ≤ a ∧ a ≤ 9 := by simp [isdt] at h; omega
theorem prom_yes {a b : Int} (ha : isdt a = true) (hb : isdt b = true) : prom a b = (if (if b < a then b else a) = 2 ∧ (if b < a then a else b) = 3 then 4 else if (if b < a then a else b) = 7 ∧ ((if b < a then b else a) = 5 ∨ (if b < a then b else a) = 6) then 8 else (if b < a then a else b)) := by
  unfold prom; have := isdt_yes ha; have := isdt_yes hb; rw [if_pos (by omega)]
set_option maxHeartbeats 1000000 in
theorem spec_prom (a b : Int) (w : World) : Calls Try.prog 21 #[.int .i64 a, .int .i64 b] w fun e w' => e = .returned (.int .i64 (prom a b)) ∧ w = w' := by
  cases ha : isdt a with
  | false =>
    go_enter Try.func21, Try.ntmps21
    go_wp2_with (go_at_call 75; refine (spec_isd _ _).mono ?_; rintro e w' ⟨rfl, rfl⟩)
    go_ret
    exact ⟨ret_int (prom_no (by have := isdt_no ha; omega)).symm, rfl⟩
  | true =>
    cases hb : isdt b with
    | false =>
      go_enter Try.func21, Try.ntmps21
      go_wp2_with (go_at_call 75; refine (spec_isd _ _).mono ?_; rintro e w' ⟨rfl, rfl⟩)
      go_ret
      exact ⟨ret_int (prom_no (by have := isdt_no hb; omega)).symm, rfl⟩
    | true =>
      have P := Lib.hid (prom_yes ha hb)
      go_enter Try.func21, Try.ntmps21
      go_wp2_with (go_at_call 75; refine (spec_isd _ _).mono ?_; rintro e w' ⟨rfl, rfl⟩)
      all_goals go_ret
      all_goals refine ⟨ret_int ?_, rfl⟩
      all_goals rw [P.out]
      all_goals clear P
      all_goals grind
set_option maxHeartbeats 1000000 in
theorem impl_prom (a b : Int) (w : World) : Calls Try.prog 22 #[.int .i64 a, .int .i64 b] w fun e w' => e = .returned (.int .i64 (prom a b)) ∧ w = w' := by
  cases ha : isdt a with
  | false =>
    go_enter Try.func22, Try.ntmps22
    go_wp2_with (go_at_call 76; refine (impl_isd _ _).mono ?_; rintro e w' ⟨rfl, rfl⟩)
    go_ret
    exact ⟨ret_int (prom_no (by have := isdt_no ha; omega)).symm, rfl⟩
  | true =>
    cases hb : isdt b with
    | false =>
      go_enter Try.func22, Try.ntmps22
      go_wp2_with (go_at_call 76; refine (impl_isd _ _).mono ?_; rintro e w' ⟨rfl, rfl⟩)
      go_ret
      exact ⟨ret_int (prom_no (by have := isdt_no hb; omega)).symm, rfl⟩
    | true =>
      have P0 := prom_yes ha hb
      obtain ⟨p, hp⟩ : ∃ p, prom a b = p := ⟨_, rfl⟩
      rw [hp] at P0 ⊢
      clear hp
      have P := Lib.hid P0
      have B := Lib.hid (And.intro (isdt_yes ha) (isdt_yes hb))
      clear P0
      rcases Int.lt_trichotomy a b with hlt | hlt | hlt
      · have h1 : ¬ b < a := by omega
        have h2 : (a == b) = false := by simp; omega
        go_enter Try.func22, Try.ntmps22
        go_wp2_with (go_at_call 76; refine (impl_isd _ _).mono ?_; rintro e w' ⟨rfl, rfl⟩)
        all_goals go_ret
        all_goals refine ⟨ret_int ?_, rfl⟩
        all_goals (have P1 := P.out; have B1 := B.out; clear P B)
        all_goals grind
      · subst hlt
        go_enter Try.func22, Try.ntmps22
        go_wp2_with (go_at_call 76; refine (impl_isd _ _).mono ?_; rintro e w' ⟨rfl, rfl⟩)
        all_goals go_ret
        all_goals refine ⟨ret_int ?_, rfl⟩
        all_goals (have P1 := P.out; have B1 := B.out; clear P B)
        all_goals grind
      · have h1 : ¬ a < b := by omega
        have h2 : (b == a) = false := by simp; omega
        go_enter Try.func22, Try.ntmps22
        go_wp2_with (go_at_call 76; refine (impl_isd _ _).mono ?_; rintro e w' ⟨rfl, rfl⟩)
        all_goals go_ret
        all_goals refine ⟨ret_int ?_, rfl⟩
        all_goals (have P1 := P.out; have B1 := B.out; clear P B)
        all_goals grind
theorem law_prom (a b : Int) (w : World) : Calls Try.prog 5 #[.int .i64 a, .int .i64 b] w fun e w' => e = .returned (.bool true) ∧ w = w' := by
  go_enter Try.func5, Try.ntmps5
  go_wp2_with (first | (go_at_call 21; refine (spec_prom _ _ _).mono ?_; rintro e w' ⟨rfl, rfl⟩) | (go_at_call 22; refine (impl_prom _ _ _).mono ?_; rintro e w' ⟨rfl, rfl⟩))
  all_goals go_ret
  all_goals exact ⟨rfl, rfl⟩
end Go.Proofs.Ytpmdgmnpkdoamaa.Prom
