/- Proved here: what both CanCast functions answer at all whole numbers. Condition: the table of dtypes holds what the program lays in it where the program's own function is meant. -/
import Derived.Test.YtpmdgmnpkdoamabGreatDoorRows
import Derived.Test.YtpmdgmnpkdoamabGreatDoorCtTable
import Derived.WalkKit
import Derived.ProofKit
import Derived.OpenShut
import Derived.Below
import Derived.Lib.Hide
import Derived.Deep.QuietTactic
import Derived.BigQuiet
namespace Go.Proofs.YtpmdgmnpkdoamabGreatDoor.Prom
open Go.RowKit
def isdt (a : Int) : Bool := decide (1 ≤ a) && decide (a ≤ 9)
theorem ret_bool {a b : Bool} (h : a = b) : Ending.returned (.bool a) = .returned (.bool b) := by rw [h]
theorem ret_int {k : IntKind} {a b : Int} (h : a = b) : Ending.returned (.int k a) = .returned (.int k b) := by rw [h]
theorem spec_isd (a : Int) (w : World) : Calls Tryz.prog 66 #[.int .i64 a] w fun e w' => e = .returned (.bool (isdt a)) ∧ w = w' := by
  go_enter Tryz.func66, Tryz.ntmps66
  go_wp2
  all_goals go_ret
  all_goals exact ⟨ret_bool (by simp [isdt]; omega), rfl⟩
theorem impl_isd (a : Int) (w : World) : Calls Tryz.prog 72 #[.int .i64 a] w fun e w' => e = .returned (.bool (isdt a)) ∧ w = w' := by
  go_enter Tryz.func72, Tryz.ntmps72
  go_wp2
  all_goals go_ret
  all_goals exact ⟨ret_bool (by simp [isdt]; omega), rfl⟩
def prom (a b : Int) : Int :=
  if 1 ≤ a ∧ a ≤ 9 ∧ 1 ≤ b ∧ b ≤ 9 then
    (if (if b < a then b else a) = 2 ∧ (if b < a then a else b) = 3 then 4 else if (if b < a then a else b) = 7 ∧ ((if b < a then b else a) = 5 ∨ (if b < a then b else a) = 6) then 8 else (if b < a then a else b))
  else 0

theorem prom_no {a b : Int} (h : ¬ (1 ≤ a ∧ a ≤ 9 ∧ 1 ≤ b ∧ b ≤ 9)) : prom a b = 0 := by unfold prom; rw [if_neg h]
theorem isdt_no {a : Int} (h : isdt a = false) : ¬ (1 ≤ a ∧ a ≤ 9) := by simp [isdt] at h; omega
theorem isdt_yes {a : Int} (h : isdt a = true) : 1 ≤ a ∧ a ≤ 9 := by simp [isdt] at h; omega
theorem prom_yes {a b : Int} (ha : isdt a = true) (hb : isdt b = true) : prom a b = (if (if b < a then b else a) = 2 ∧ (if b < a then a else b) = 3 then 4 else if (if b < a then a else b) = 7 ∧ ((if b < a then b else a) = 5 ∨ (if b < a then b else a) = 6) then 8 else (if b < a then a else b)) := by
  unfold prom; have := isdt_yes ha; have := isdt_yes hb; rw [if_pos (by omega)]
set_option maxHeartbeats 1000000 in
theorem spec_prom (a b : Int) (w : World) : Calls Tryz.prog 182 #[.int .i64 a, .int .i64 b] w fun e w' => e = .returned (.int .i64 (prom a b)) ∧ w = w' := by
  cases ha : isdt a with
  | false =>
    go_enter Tryz.func182, Tryz.ntmps182
    go_wp2_with (go_at_call 66; refine (spec_isd _ _).mono ?_; rintro e w' ⟨rfl, rfl⟩)
    go_ret
    exact ⟨ret_int (prom_no (by have := isdt_no ha; omega)).symm, rfl⟩
  | true =>
    cases hb : isdt b with
    | false =>
      go_enter Tryz.func182, Tryz.ntmps182
      go_wp2_with (go_at_call 66; refine (spec_isd _ _).mono ?_; rintro e w' ⟨rfl, rfl⟩)
      go_ret
      exact ⟨ret_int (prom_no (by have := isdt_no hb; omega)).symm, rfl⟩
    | true =>
      have P := Lib.hid (prom_yes ha hb)
      go_enter Tryz.func182, Tryz.ntmps182
      go_wp2_with (go_at_call 66; refine (spec_isd _ _).mono ?_; rintro e w' ⟨rfl, rfl⟩)
      all_goals go_ret
      all_goals refine ⟨ret_int ?_, rfl⟩
      all_goals rw [P.out]
      all_goals clear P
      all_goals grind
set_option maxHeartbeats 1000000 in
theorem impl_prom (a b : Int) (w : World) : Calls Tryz.prog 146 #[.int .i64 a, .int .i64 b] w fun e w' => e = .returned (.int .i64 (prom a b)) ∧ w = w' := by
  cases ha : isdt a with
  | false =>
    go_enter Tryz.func146, Tryz.ntmps146
    go_wp2_with (go_at_call 72; refine (impl_isd _ _).mono ?_; rintro e w' ⟨rfl, rfl⟩)
    go_ret
    exact ⟨ret_int (prom_no (by have := isdt_no ha; omega)).symm, rfl⟩
  | true =>
    cases hb : isdt b with
    | false =>
      go_enter Tryz.func146, Tryz.ntmps146
      go_wp2_with (go_at_call 72; refine (impl_isd _ _).mono ?_; rintro e w' ⟨rfl, rfl⟩)
      go_ret
      exact ⟨ret_int (prom_no (by have := isdt_no hb; omega)).symm, rfl⟩
    | true =>
      have P0 := prom_yes ha hb
      obtain ⟨p, hp⟩ : ∃ p, prom a b = p := ⟨_, rfl⟩
      rw [hp] at P0 ⊢
      clear hp
      have P := Lib.hid P0
      have B := Lib.hid (And.intro (isdt_yes ha) (isdt_yes hb))
      clear P0
      rcases Int.lt_trichotomy a b with hlt | hlt | hlt
      · have h1 : ¬ b < a := by omega
        have h2 : (a == b) = false := by simp; omega
        go_enter Tryz.func146, Tryz.ntmps146
        go_wp2_with (go_at_call 72; refine (impl_isd _ _).mono ?_; rintro e w' ⟨rfl, rfl⟩)
        all_goals go_ret
        all_goals refine ⟨ret_int ?_, rfl⟩
        all_goals (have P1 := P.out; have B1 := B.out; clear P B)
        all_goals grind
      · subst hlt
        go_enter Tryz.func146, Tryz.ntmps146
        go_wp2_with (go_at_call 72; refine (impl_isd _ _).mono ?_; rintro e w' ⟨rfl, rfl⟩)
        all_goals go_ret
        all_goals refine ⟨ret_int ?_, rfl⟩
        all_goals (have P1 := P.out; have B1 := B.out; clear P B)
        all_goals grind
      · have h1 : ¬ a < b := by omega
        have h2 : (b == a) = false := by simp; omega
        go_enter Tryz.func146, Tryz.ntmps146
        go_wp2_with (go_at_call 72; refine (impl_isd _ _).mono ?_; rintro e w' ⟨rfl, rfl⟩)
        all_goals go_ret
        all_goals refine ⟨ret_int ?_, rfl⟩
        all_goals (have P1 := P.out; have B1 := B.out; clear P B)
        all_goals grind

def kindI (a : Int) : Int := if a = 1 then 0 else if a ≤ 6 then 1 else if a ≤ 8 then 2 else 3
theorem spec_kind (a : Int) (w : World) : Calls Tryz.prog 67 #[.int .i64 a] w fun e w' => e = .returned (.int .i64 (kindI a)) ∧ w = w' := by
  go_enter Tryz.func67, Tryz.ntmps67
  go_wp2
  all_goals go_ret
  all_goals refine ⟨ret_int ?_, rfl⟩
  all_goals unfold kindI
  all_goals grind
def canc (a b r : Int) : Bool :=
  if isdt a && isdt b then
    (if r = 0 then prom a b == b else if r = 1 then (prom a b == b || decide (kindI a ≤ kindI b)) else r == 2)
  else false
theorem canc_no {a b r : Int} (h : (isdt a && isdt b) = false) : canc a b r = false := by unfold canc; rw [h]; rfl
theorem canc_yes {a b r : Int} (ha : isdt a = true) (hb : isdt b = true) : canc a b r = (if r = 0 then prom a b == b else if r = 1 then (prom a b == b || decide (kindI a ≤ kindI b)) else r == 2) := by unfold canc; rw [ha, hb]; rfl
set_option maxHeartbeats 1000000 in
theorem spec_canc (a b r : Int) (w : World) : Calls Tryz.prog 141 #[.int .i64 a, .int .i64 b, .int .i64 r] w fun e w' => e = .returned (.bool (canc a b r)) ∧ w = w' := by
  cases ha : isdt a with
  | false =>
    go_enter Tryz.func141, Tryz.ntmps141
    go_wp2_with (go_at_call 66; refine (spec_isd _ _).mono ?_; rintro e w' ⟨rfl, rfl⟩)
    go_ret
    exact ⟨ret_bool (canc_no (by rw [ha]; rfl)).symm, rfl⟩
  | true =>
    cases hb : isdt b with
    | false =>
      go_enter Tryz.func141, Tryz.ntmps141
      go_wp2_with (go_at_call 66; refine (spec_isd _ _).mono ?_; rintro e w' ⟨rfl, rfl⟩)
      go_ret
      exact ⟨ret_bool (canc_no (by rw [ha, hb]; rfl)).symm, rfl⟩
    | true =>
      have P0 := canc_yes (r := r) ha hb
      obtain ⟨p, hp⟩ : ∃ p, canc a b r = p := ⟨_, rfl⟩
      rw [hp] at P0 ⊢
      clear hp
      have P := Lib.hid P0
      clear P0
      go_enter Tryz.func141, Tryz.ntmps141
      go_wp2_with (first | (go_at_call 66; refine (spec_isd _ _).mono ?_; rintro e w' ⟨rfl, rfl⟩) | (go_at_call 182; refine (spec_prom _ _ _).mono ?_; rintro e w' ⟨rfl, rfl⟩) | (go_at_call 67; refine (spec_kind _ _).mono ?_; rintro e w' ⟨rfl, rfl⟩))
      all_goals go_ret
      all_goals refine ⟨ret_bool ?_, rfl⟩
      all_goals (have P1 := P.out; clear P)
      all_goals grind
/-- What the table of dtypes holds: the kind of number n + 1 is the first of its five cells. -/
def Kinds (w : World) : Prop := ∀ n : Nat, n < 9 → w.cell? ⟨0, (n + 1) * 5, none⟩ = some (.int .i64 (kindI ((n : Int) + 1)))
theorem kinds_of {w : World} (h : Table.Holds w) : Kinds w := by
  intro n hn
  have h1 := h (n + 1) 0 (by omega) (by omega)
  have e : Table.tabAt (n + 1) 0 = kindI ((n : Int) + 1) := by
    have : n = 0 ∨ n = 1 ∨ n = 2 ∨ n = 3 ∨ n = 4 ∨ n = 5 ∨ n = 6 ∨ n = 7 ∨ n = 8 := by omega
    rcases this with rfl | rfl | rfl | rfl | rfl | rfl | rfl | rfl | rfl <;> decide
  rw [e] at h1
  exact h1
set_option maxHeartbeats 1000000 in
theorem impl_canc (a b r : Int) (w : World) (hk : Kinds w) : Calls Tryz.prog 98 #[.int .i64 a, .int .i64 b, .int .i64 r] w fun e w' => e = .returned (.bool (canc a b r)) ∧ ∃ n, w' = w.drewN n := by
  cases ha : isdt a with
  | false =>
    go_enter Tryz.func98, Tryz.ntmps98
    go_wp2_with (go_at_call 72; refine (impl_isd _ _).mono ?_; rintro e w' ⟨rfl, rfl⟩)
    go_ret
    exact ⟨ret_bool (canc_no (by rw [ha]; rfl)).symm, 0, rfl⟩
  | true =>
    cases hb : isdt b with
    | false =>
      go_enter Tryz.func98, Tryz.ntmps98
      go_wp2_with (go_at_call 72; refine (impl_isd _ _).mono ?_; rintro e w' ⟨rfl, rfl⟩)
      go_ret
      exact ⟨ret_bool (canc_no (by rw [ha, hb]; rfl)).symm, 0, rfl⟩
    | true =>
      obtain ⟨n, hn, rfl⟩ : ∃ n : Nat, n < 9 ∧ a = (n : Int) + 1 := ⟨(a - 1).toNat, by have := isdt_yes ha; omega, by have := isdt_yes ha; omega⟩
      obtain ⟨m, hm, rfl⟩ : ∃ m : Nat, m < 9 ∧ b = (m : Int) + 1 := ⟨(b - 1).toNat, by have := isdt_yes hb; omega, by have := isdt_yes hb; omega⟩
      have P0 := canc_yes (r := r) ha hb
      obtain ⟨p, hp⟩ : ∃ p, canc ((n : Int) + 1) ((m : Int) + 1) r = p := ⟨_, rfl⟩
      rw [hp] at P0 ⊢
      clear hp
      have P := Lib.hid P0
      clear P0
      have hka := hk n hn
      have hkb := hk m hm
      clear hk
      have hms : ((m : Int) + 1).toNat = m + 1 := by omega
      have hns : ((n : Int) + 1).toNat = n + 1 := by omega
      by_cases hs : prom ((n : Int) + 1) ((m : Int) + 1) = (m : Int) + 1
      · have hs' : (prom ((n : Int) + 1) ((m : Int) + 1) == (m : Int) + 1) = true := by simpa using hs
        have HS := Lib.hid hs
        clear hs
        go_enter Tryz.func98, Tryz.ntmps98
        go_wp2_with (first | (go_at_call 72; refine (impl_isd _ _).mono ?_; rintro e w' ⟨rfl, rfl⟩) | (go_at_call 146; refine (impl_prom _ _ _).mono ?_; rintro e w' ⟨rfl, rfl⟩))
        all_goals first
          | (go_ret; refine ⟨ret_bool ?_, 0, rfl⟩; have P1 := P.out; have HS1 := HS.out; clear P; grind)
          | (go_quiet (fail)
             go_wp2
             go_ret
             refine ⟨ret_bool ?_, _, rfl⟩
             have P1 := P.out; have HS1 := HS.out; clear P; grind)
      · have hs' : (prom ((n : Int) + 1) ((m : Int) + 1) == (m : Int) + 1) = false := by simpa using hs
        have HS := Lib.hid hs
        clear hs
        go_enter Tryz.func98, Tryz.ntmps98
        go_wp2_with (first | (go_at_call 72; refine (impl_isd _ _).mono ?_; rintro e w' ⟨rfl, rfl⟩) | (go_at_call 146; refine (impl_prom _ _ _).mono ?_; rintro e w' ⟨rfl, rfl⟩))
        all_goals first
          | (go_ret; refine ⟨ret_bool ?_, 0, rfl⟩; have P1 := P.out; have HS1 := HS.out; clear P; grind)
          | (go_quiet (fail)
             go_wp2
             go_ret
             refine ⟨ret_bool ?_, _, rfl⟩
             have P1 := P.out; have HS1 := HS.out; clear P; grind)
end Go.Proofs.YtpmdgmnpkdoamabGreatDoor.Prom
