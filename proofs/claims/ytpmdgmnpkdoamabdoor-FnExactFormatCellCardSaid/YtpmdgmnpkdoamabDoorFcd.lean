/- Proved here: what spec.l6Float answers of every float. Condition: the word is a double's. -/
import Derived.Test.YtpmdgmnpkdoamabDoorFcc
namespace Go.Proofs.YtpmdgmnpkdoamabDoor.Vc
open Go.RowKit Fl Prom Go.Proofs.YtpmdgmnpkdoamabDoorW.PrintWords
open Ieee (single double Format Datum)
set_option linter.unusedVariables false
set_option linter.unusedSimpArgs false
theorem odd_part (n : Nat) : ∀ A : Nat, A ≤ n → A ≠ 0 → ∃ o t, o % 2 = 1 ∧ A = o * 2 ^ t := by
  induction n with
  | zero => intro A h h0; omega
  | succ n ih =>
    intro A h h0
    by_cases h2 : A % 2 = 1
    · exact ⟨A, 0, h2, by simp⟩
    · obtain ⟨o, t, ho, he⟩ := ih (A / 2) (by omega) (by omega)
      exact ⟨o, t + 1, ho, by rw [Nat.pow_succ, ← Nat.mul_assoc, ← he]; omega⟩
theorem sign_flip {x : Nat} (hx : x < 18446744073709551616) : (Fl.flip x / negZero % 2 == 1) = !(x / negZero % 2 == 1) := by
  unfold Fl.flip negZero
  by_cases h : x < 9223372036854775808
  · rw [if_pos h, show (x + 9223372036854775808) / 9223372036854775808 = 1 by omega, show x / 9223372036854775808 = 0 by omega]; rfl
  · rw [if_neg h, show (x - 9223372036854775808) / 9223372036854775808 = 0 by omega, show x / 9223372036854775808 = 1 by omega]; rfl
theorem val_flip {s : Bool} {A x : Nat} (hx : x < 18446744073709551616) (h : Val s A x) : Val (!s) A (Fl.flip x) := by
  obtain ⟨m, e, h1, h2⟩ := h
  refine ⟨m, e, ?_, h2⟩
  unfold Format.read at h1 ⊢
  simp only [dbl_binade, dbl_inf, dbl_least, dbl_sign] at h1 ⊢
  rw [flip_mod hx, sign_flip hx]
  generalize x % negZero = rung at *
  generalize (x / negZero % 2 == 1) = b at *
  by_cases c1 : rung < 2 ^ 52
  · rw [if_pos c1] at h1 ⊢
    injection h1 with a1 a2 a3
    rw [a1, a2, a3]
  · rw [if_neg c1] at h1 ⊢
    by_cases c2 : rung < 2047 * 2 ^ 52
    · rw [if_pos c2] at h1 ⊢
      injection h1 with a1 a2 a3
      rw [a1, a2, a3]
    · rw [if_neg c2] at h1
      split at h1 <;> cases h1
def SFL (x : Nat) (l : List UInt8) : Prop := ∀ w, Calls Tryd.prog 108 #[.float .f64 x] w fun e w' => e = .returned (SB l) ∧ Below w.heap.size w w'
theorem sfl_nan {x : Nat} (h : fnan x = true) : SFL x [110, 97, 110] := by
  intro w
  go_enter Tryd.func108, Tryd.ntmps108
  go_wp2_with (go_at_call 143; refine (spec_nan _ _).mono ?_; rintro e w' ⟨rfl, rfl⟩; rw [h])
  go_ret
  exact ⟨rfl, Below.refl _ _⟩
theorem sfl_zero : SFL 0 [48] := by
  intro w
  have h : fnan 0 = false := by decide
  have hm : minus 0 = false := by decide
  have o1 : FloatKind.f64.format.order 0 0 = some .eq := by decide
  go_enter Tryd.func108, Tryd.ntmps108
  go_wp2_with (first | (go_at_call 143; refine (spec_nan _ _).mono ?_; rintro e w' ⟨rfl, rfl⟩; rw [h]) | (go_at_call 144; refine (spec_minus _ (by decide) _).mono ?_; rintro e w' ⟨rfl, rfl⟩; rw [hm]))
  go_ret
  exact ⟨rfl, Below.refl _ _⟩
theorem sfl_nzero : SFL negZero [45, 48] := by
  intro w
  have h : fnan negZero = false := by decide
  have hm : minus negZero = true := by decide
  have o1 : FloatKind.f64.format.order negZero 0 = some .eq := by decide
  go_enter Tryd.func108, Tryd.ntmps108
  go_wp2_with (first | (go_at_call 143; refine (spec_nan _ _).mono ?_; rintro e w' ⟨rfl, rfl⟩; rw [h]) | (go_at_call 144; refine (spec_minus _ (by decide) _).mono ?_; rintro e w' ⟨rfl, rfl⟩; rw [hm]))
  go_ret
  exact ⟨rfl, Below.refl _ _⟩
def INF : Nat := 9218868437227405312
theorem sfl_inf : SFL INF [105, 110, 102] := by
  intro w
  have h : fnan INF = false := by decide
  have o1 : FloatKind.f64.format.order INF 0 = some .gt := by decide
  have hm := mul_run (x := INF) (y := INF) (by decide)
  have o2 : FloatKind.f64.format.order INF INF = some .eq := by decide
  generalize INF = x at *
  go_enter Tryd.func108, Tryd.ntmps108
  go_wp2_with (go_at_call 143; refine (spec_nan _ _).mono ?_; rintro e w' ⟨rfl, rfl⟩; rw [h])
  go_ret
  exact ⟨rfl, Below.refl _ _⟩
theorem sfl_neg {x : Nat} {l : List UInt8} (hx : x < 18446744073709551616) (hn : fnan x = false) (hlt : FloatKind.f64.format.order x 0 = some .lt) (hl : l.length ≤ 1000) (IH : SFL (Fl.flip x) l) : SFL x (45 :: l) := by
  intro w
  have IH := Lib.hid IH
  have hc : ∀ u, (binOp .add 9 (.string ⟨#[45]⟩) (SB l)).run Tryd.prog u = .ok (SB (45 :: l)) u := fun u => cat_run [45] l (by simp; omega) u
  have HX := Lib.hid (And.intro hx hn)
  clear hx hl
  go_enter Tryd.func108, Tryd.ntmps108
  go_wp2_with (first | (go_at_call 143; refine (spec_nan _ _).mono ?_; rintro e w' ⟨rfl, rfl⟩; rw [hn]) | (go_at_call 81; refine (spec_negate _ HX.out.1 _).mono ?_; rintro e w1 ⟨y, n, rfl, hy, rfl⟩; obtain rfl := hy.2.2 HX.out.2; clear hy) | (go_at_call 108; refine (IH.out _).mono ?_; rintro e w2 ⟨rfl, hb⟩))
  go_ret
  refine ⟨rfl, ?_⟩
  exact (Vc.below_drewN (Below.refl _ _) _).trans (hb.mono (Nat.le_refl _))
end Go.Proofs.YtpmdgmnpkdoamabDoor.Vc
