/- Proved here: what impl.parseFloat answers of a float's text: the float (of a NaN's text some NaN). Conditions: the words are doubles'; the variable that bytealg reads holds a number. -/
import Derived.Test.YtpmdgmnpkdoamabGreatDoorCtPca
import Derived.Test.YtpmdgmnpkdoamabGreatDoorCtPcb
import Derived.Test.YtpmdgmnpkdoamabGreatDoorCtFce
import Derived.Laws.FloatBits
import Derived.Deep.LoopGhost
namespace Go.Proofs.YtpmdgmnpkdoamabGreatDoor.Vc
open Go.RowKit Fl Prom Go.Proofs.YtpmdgmnpkdoamabGreatDoorW.PrintWords
open Ieee (double Format Datum)
set_option linter.unusedVariables false
set_option linter.unusedSimpArgs false
attribute [local go_sem] eqg_sb
/-- What impl.parseFloat answers of a text that it takes. -/
def PF (l : List UInt8) (x : Nat) : Prop := ∀ w, MLen w → Calls Tryz.prog 73 #[SB l] w fun e w' => e = .returned (.tuple #[.float .f64 x, .bool true]) ∧ Below w.heap.size w w'
theorem nan_fn (w : World) : Calls Tryz.prog 129 #[] w fun e w' => e = .returned (.float .f64 9221120237041090561) ∧ w = w' := by
  have hf := frombits_run
  go_enter Tryz.func129, Tryz.ntmps129
  go_wp2
  go_ret
  exact ⟨rfl, rfl⟩
theorem inf_fn (w : World) : Calls Tryz.prog 130 #[.int .i64 1] w fun e w' => e = .returned (.float .f64 INF) ∧ w = w' := by
  have hf := frombits_run
  go_enter Tryz.func130, Tryz.ntmps130
  go_wp2
  go_ret
  exact ⟨rfl, rfl⟩
theorem ninf_fn (w : World) : Calls Tryz.prog 130 #[.int .i64 (-1)] w fun e w' => e = .returned (.float .f64 (negZero + INF)) ∧ w = w' := by
  have hf := frombits_run
  go_enter Tryz.func130, Tryz.ntmps130
  go_wp2
  go_ret
  exact ⟨rfl, rfl⟩
theorem copysign_fn (w : World) : Calls Tryz.prog 131 #[.float .f64 0, .float .f64 13830554455654793216] w fun e w' => e = .returned (.float .f64 negZero) ∧ w = w' := by
  have hf := frombits_run
  have hb := bits_run
  go_enter Tryz.func131, Tryz.ntmps131
  go_wp2
  go_ret
  exact ⟨rfl, rfl⟩
theorem pf_nan : PF [110, 97, 110] 9221120237041090561 := by
  intro w _
  have q1 := fun u => str_eq [110, 97, 110] [110, 97, 110] true (by decide) u
  go_enter Tryz.func73, Tryz.ntmps73
  go_wp2_with (go_at_call 129; refine (nan_fn _).mono ?_; rintro e w' ⟨rfl, rfl⟩)
  exact bodyPost_ret (v := .tuple #[.float .f64 9221120237041090561, .bool true]) (by simp [results, go_sem]) rfl ⟨rfl, Below.refl _ _⟩
theorem pf_inf : PF [105, 110, 102] INF := by
  intro w _
  have q1 := fun u => str_eq [105, 110, 102] [110, 97, 110] false (by decide) u
  have q2 := fun u => str_eq [105, 110, 102] [105, 110, 102] true (by decide) u
  go_enter Tryz.func73, Tryz.ntmps73
  go_wp2_with (go_at_call 130; refine (inf_fn _).mono ?_; rintro e w' ⟨rfl, rfl⟩)
  exact bodyPost_ret (v := .tuple #[.float .f64 INF, .bool true]) (by simp [results, go_sem]) rfl ⟨rfl, Below.refl _ _⟩
theorem pf_ninf : PF [45, 105, 110, 102] (negZero + INF) := by
  intro w _
  have q1 := fun u => str_eq [45, 105, 110, 102] [110, 97, 110] false (by decide) u
  have q2 := fun u => str_eq [45, 105, 110, 102] [105, 110, 102] false (by decide) u
  have q3 := fun u => str_eq [45, 105, 110, 102] [45, 105, 110, 102] true (by decide) u
  have F := Lib.hid ninf_fn
  generalize negZero + INF = x at *
  go_enter Tryz.func73, Tryz.ntmps73
  go_wp2_with (go_at_call 130; refine (F.out _).mono ?_; rintro e w' ⟨rfl, rfl⟩)
  exact bodyPost_ret (v := .tuple #[.float .f64 x, .bool true]) (by simp [results, go_sem]) rfl ⟨rfl, Below.refl _ _⟩
theorem pf_zero : PF [48] 0 := by
  intro w _
  have q1 := fun u => str_eq [48] [110, 97, 110] false (by decide) u
  have q2 := fun u => str_eq [48] [105, 110, 102] false (by decide) u
  have q3 := fun u => str_eq [48] [45, 105, 110, 102] false (by decide) u
  have q4 := fun u => str_eq [48] [48] true (by decide) u
  go_enter Tryz.func73, Tryz.ntmps73
  go_wp2
  exact bodyPost_ret (v := .tuple #[.float .f64 0, .bool true]) (by simp [results, go_sem]) rfl ⟨rfl, Below.refl _ _⟩
theorem pf_nzero : PF [45, 48] negZero := by
  intro w _
  have q1 := fun u => str_eq [45, 48] [110, 97, 110] false (by decide) u
  have q2 := fun u => str_eq [45, 48] [105, 110, 102] false (by decide) u
  have q3 := fun u => str_eq [45, 48] [45, 105, 110, 102] false (by decide) u
  have q4 := fun u => str_eq [45, 48] [48] false (by decide) u
  have q5 := fun u => str_eq [45, 48] [45, 48] true (by decide) u
  have F := Lib.hid copysign_fn
  generalize negZero = x at *
  go_enter Tryz.func73, Tryz.ntmps73
  go_wp2_with (go_at_call 131; refine (F.out _).mono ?_; rintro e w' ⟨rfl, rfl⟩)
  exact bodyPost_ret (v := .tuple #[.float .f64 x, .bool true]) (by simp [results, go_sem]) rfl ⟨rfl, Below.refl _ _⟩
theorem int_any (n : Int) (h0 : -9223372036854775808 ≤ n) (h1 : n ≤ 9223372036854775807) : INT (Lib.itoa n) n true := by
  by_cases hz : n = 0
  · subst hz
    have : Lib.itoa 0 = [48] := by
      unfold Lib.itoa
      rw [if_neg (by omega), show (0 : Int).toNat = 0 from rfl, Lib.decDigits_one (by omega)]
      rfl
    rw [this]
    exact int_zero
  · exact int_num n h0 h1 hz
theorem not_const {l c : List UInt8} {b : UInt8} (h1 : b ∈ l) (h2 : ¬ b ∈ c) : (l == c) = false := by
  rw [beq_eq_false_iff_ne]
  rintro rfl
  exact h2 h1
theorem val_sint (s : Bool) {n p : Nat} (hp : p = 1200) (h : n < 2 ^ 53) (h0 : n ≠ 0) : Val s (n * 2 ^ p) (FloatKind.f64.nearest (sg s n)) := by
  unfold FloatKind.nearest FloatKind.encode FloatKind.format
  simp only [Format.write]
  have hs : decide (sg s n < 0) = s := by
    unfold sg
    cases s
    · simp
    · simp; omega
  have hn : (sg s n).natAbs = n := by unfold sg; cases s <;> simp
  rw [hs, hn]
  have hl := log2_le (k := 52) h
  have := val_near s n 0 h0 h (by omega) (by omega)
  rw [show ((0 : Int) + 1200).toNat = p by omega] at this
  exact this
theorem near64 (i : Int) : FloatKind.f64.nearest i < 18446744073709551616 := Ieee.Format.nearest_lt double (decide (i < 0)) i.natAbs 0
/-- Twice a number that lies below another one. -/
theorem val_dbl {s s' : Bool} {o k t x y : Nat} (h : Val s (o * 2 ^ k) x) (hy : Val s' (o * 2 ^ t) y) (ho : o ≠ 0) (hk : k < t) : ∃ z, double.mul x TWO = some z ∧ Val s (o * 2 ^ (k + 1)) z := by
  obtain ⟨q, hq⟩ : ∃ q : Nat, q = 2171 := ⟨_, rfl⟩
  have h1 := val_le hq hy
  have h2 : o * 2 ^ (k + 1) ≤ o * 2 ^ t := Nat.mul_le_mul_left _ (Nat.pow_le_pow_right (by omega) (by omega))
  have h3 : o * 2 ^ (k + 1) = 2 * (o * 2 ^ k) := by rw [Nat.pow_succ]; simp only [Nat.mul_comm, Nat.mul_left_comm, Nat.mul_assoc]
  have h4 : o * 2 ^ k ≠ 0 := Nat.mul_ne_zero ho (by have := Nat.two_pow_pos k; omega)
  obtain ⟨r, hr⟩ : ∃ r : Nat, r = 2223 := ⟨_, rfl⟩
  have h5 : (2 : Nat) ^ r = 2 ^ 52 * 2 ^ q := by rw [← Nat.pow_add]; congr 1; omega
  have h6 : o * 2 ^ k < 2 ^ r := by
    rw [h5]
    have h7 : (2 ^ 53 - 1) * 2 ^ q < 2 * (2 ^ 52 * 2 ^ q) := by
      have := Nat.two_pow_pos q
      generalize 2 ^ q = Q at *
      omega
    omega
  rw [hr] at h6
  obtain ⟨z, e1, e2⟩ := val_mul2' h h4 h6
  exact ⟨z, e1, by rw [h3]; exact e2⟩
end Go.Proofs.YtpmdgmnpkdoamabGreatDoor.Vc
