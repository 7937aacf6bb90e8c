/- Proved here: facts on floats for the walk of their texts: odd parts, halving, doubling, whole parts. Conditions: the numbers are finite. -/
import Derived.Test.YtpmdgmnpkdoamabDoorEx2
import Derived.Test.YtpmdgmnpkdoamabDoorFba
namespace Go.Proofs.YtpmdgmnpkdoamabDoor.Vc
open Go Go.RowKit Fl Prom
open Ieee
set_option linter.unusedVariables false
def C53 : Nat := 4845873199050653696
theorem v_zero : Val false 0 0 := ⟨0, -1074, by decide, by omega, by omega, by decide, by rw [Nat.zero_mul]⟩
theorem v_c53 {p : Nat} (hp : p = 1200) : Val false (2 ^ 52 * 2 ^ (p + 1)) C53 := by
  refine ⟨2 ^ 52, 1, by decide, by omega, by omega, by decide, ?_⟩
  rw [show ((1 : Int) + 1200).toNat = p + 1 by omega]
theorem ord_pos {A B x y : Nat} (h : Val false A x) (k : Val false B y) : double.order x y = some (compare (A : Int) (B : Int)) := by
  rw [val_order h k]
  simp
theorem cmpn_lt {a b : Nat} (h : a < b) : compare (a : Int) (b : Int) = .lt := cmp_lt (by omega)
theorem cmpn_gt {a b : Nat} (h : b < a) : compare (a : Int) (b : Int) = .gt := cmp_gt (by omega)
theorem mul_run {x y : Nat} (h : double.mul x TWO = some y) (w : World) : (binOp .mul 23 (.float .f64 x) (.float .f64 4611686018427387904)).run Tryd.prog w = .ok (.float .f64 y) w := run_float_arith w _ _ _ _ _ _ h
theorem div_run {x y : Nat} (h : double.div x TWO = some y) (w : World) : (binOp .quo 23 (.float .f64 x) (.float .f64 4611686018427387904)).run Tryd.prog w = .ok (.float .f64 y) w := run_float_arith w _ _ _ _ _ _ h
theorem trunc_run {x : Nat} {m : Int} (h : (double.read x).toInt .zero = some m) (hm : -9223372036854775808 ≤ m ∧ m ≤ 9223372036854775807) (w : World) : (convert 23 2 (.float .f64 x)).run Tryd.prog w = .ok (.int .i64 m) w := by
  have hd : (FloatKind.f64).decode x = double.read x := rfl
  have hm' : IntKind.i64.min ≤ m ∧ m ≤ IntKind.i64.max := hm
  have hc : Conv.floatToInt .f64 x .i64 = pure (.int .i64 m) := by
    unfold Conv.floatToInt
    simp only [hd, h]
    exact if_pos hm'
  simp [convert, run_underlying Tryd.underlying23, run_underlying Tryd.underlying2, hc]
theorem val_near_int {n p : Nat} (hp : p = 1200) (h : n < 2 ^ 53) : Val false (n * 2 ^ p) (FloatKind.f64.nearest (n : Int)) := by
  by_cases h0 : n = 0
  · subst h0
    rw [Nat.zero_mul]
    exact v_zero
  · have := val_int h h0
    rw [← hp] at this
    exact this
theorem val_whole {A x p : Nat} (hp : p = 1200) (h : Val false A x) : (double.read x).toInt .zero = some ((A / 2 ^ p : Nat) : Int) := by
  have := val_trunc h
  rw [← hp] at this
  rw [this]
  generalize A / 2 ^ p = q
  simp
/-- An odd number times a power of two that has room in a double has few digits. -/
theorem odd_small {s : Bool} {o t x : Nat} (h : Val s (o * 2 ^ t) x) (ho : o % 2 = 1) : o < 2 ^ 53 ∧ 126 ≤ t ∧ t ≤ 2223 := by
  obtain ⟨m, e, h1, h2, h3, h4, h5⟩ := h
  have o0 : o ≠ 0 := by omega
  have hE : (126 : Nat) ≤ (e + 1200).toNat := by omega
  have hE2 : (e + 1200).toNat ≤ 2171 := by omega
  generalize (e + 1200).toNat = E at *
  have hEt : E ≤ t := by
    rcases Nat.lt_or_ge t E with hlt | hge
    · exfalso
      have : o * 2 ^ t = m * 2 ^ (E - t) * 2 ^ t := by rw [h5, Nat.mul_assoc, ← Nat.pow_add]; congr 2; omega
      have h6 := Nat.eq_of_mul_eq_mul_right (Nat.two_pow_pos t) this
      obtain ⟨d, hd⟩ : ∃ d, E - t = d + 1 := ⟨E - t - 1, by omega⟩
      rw [hd, Nat.pow_succ, ← Nat.mul_assoc] at h6
      omega
    · exact hge
  have h6 : o * 2 ^ (t - E) = m := by
    have : o * 2 ^ (t - E) * 2 ^ E = m * 2 ^ E := by rw [Nat.mul_assoc, ← Nat.pow_add, ← h5]; congr 2; omega
    exact Nat.eq_of_mul_eq_mul_right (Nat.two_pow_pos E) this
  have hp : 0 < 2 ^ (t - E) := Nat.two_pow_pos _
  have hle : o ≤ m := by rw [← h6]; exact Nat.le_mul_of_pos_right _ hp
  have hpm : 2 ^ (t - E) ≤ m := by rw [← h6]; exact Nat.le_mul_of_pos_left _ (by omega)
  have : 2 ^ (t - E) < 2 ^ 53 := by omega
  have := (Nat.pow_lt_pow_iff_right (a := 2) (by omega)).1 this
  exact ⟨by omega, by omega, by omega⟩
/-- Below the bound: the exponents. -/
theorem bound_iff {o t p : Nat} (ho : o < 2 ^ 53) (h : t ≤ p) : o * 2 ^ t < 2 ^ 52 * 2 ^ (p + 1) := by
  have h1 : o * 2 ^ t < 2 ^ 53 * 2 ^ t := Nat.mul_lt_mul_of_pos_right ho (Nat.two_pow_pos t)
  have h2 : 2 ^ t ≤ 2 ^ p := Nat.pow_le_pow_right (by omega) h
  have h3 : 2 ^ 53 * 2 ^ t ≤ 2 ^ 53 * 2 ^ p := Nat.mul_le_mul_left _ h2
  have h4 : (2 : Nat) ^ 53 * 2 ^ p = 2 ^ 52 * 2 ^ (p + 1) := by rw [Nat.pow_succ]; omega
  omega
/-- At or above the bound there is room to halve. -/
theorem room {o t p : Nat} (ho : o < 2 ^ 53) (h : 2 ^ 52 * 2 ^ (p + 1) ≤ o * 2 ^ t) : p < t := by
  rcases Nat.lt_or_ge p t with h1 | h1
  · exact h1
  · exact absurd (bound_iff ho h1) (by omega)
/-- Is it whole? -/
theorem whole_iff {o t p : Nat} (ho : o % 2 = 1) : o * 2 ^ t / 2 ^ p * 2 ^ p = o * 2 ^ t ↔ p ≤ t := by
  constructor
  · intro h
    rcases Nat.lt_or_ge t p with hlt | hge
    · exfalso
      generalize o * 2 ^ t / 2 ^ p = q at h
      have e : p = (p - t) + t := by omega
      rw [e, Nat.pow_add, ← Nat.mul_assoc] at h
      have h6 := Nat.eq_of_mul_eq_mul_right (Nat.two_pow_pos t) h
      obtain ⟨d, hd⟩ : ∃ d, p - t = d + 1 := ⟨p - t - 1, by omega⟩
      rw [hd, Nat.pow_succ, ← Nat.mul_assoc] at h6
      omega
    · exact hge
  · intro h
    have e : t = (t - p) + p := by omega
    rw [e, Nat.pow_add, ← Nat.mul_assoc, Nat.mul_div_cancel _ (Nat.two_pow_pos p)]
theorem whole_val {o t p : Nat} (h : p ≤ t) : o * 2 ^ t / 2 ^ p = o * 2 ^ (t - p) := by
  have e : t = (t - p) + p := by omega
  conv => lhs; rw [e, Nat.pow_add, ← Nat.mul_assoc, Nat.mul_div_cancel _ (Nat.two_pow_pos p)]
theorem whole_lt {A p : Nat} (h : A < 2 ^ 52 * 2 ^ (p + 1)) : A / 2 ^ p < 2 ^ 53 := by
  have h4 : (2 : Nat) ^ 52 * 2 ^ (p + 1) = 2 ^ 53 * 2 ^ p := by rw [Nat.pow_succ]; omega
  rw [h4] at h
  exact (Nat.div_lt_iff_lt_mul (Nat.two_pow_pos p)).2 h
theorem div2_at {s : Bool} {A x p : Nat} (hp : p = 1200) (h : Val s A x) (hA : 2 ^ 52 * 2 ^ (p + 1) ≤ A) : ∃ y, double.div x TWO = some y ∧ Val s (A / 2) y := by
  have e : 52 + (p + 1) = 1253 := by omega
  rw [← Nat.pow_add, e] at hA
  obtain ⟨y, h1, h2, _⟩ := val_div2 h hA
  exact ⟨y, h1, h2⟩
theorem mul2_at {s : Bool} {A x p : Nat} (hp : p = 1200) (h : Val s A x) (h0 : A ≠ 0) (hA : A < 2 ^ 52 * 2 ^ (p + 1)) : ∃ y, double.mul x TWO = some y ∧ Val s (2 * A) y := by
  obtain ⟨q, hq⟩ : ∃ q : Nat, q = 2223 := ⟨_, rfl⟩
  have h1 : A < 2 ^ q := Nat.lt_of_lt_of_le hA (by rw [← Nat.pow_add]; exact Nat.pow_le_pow_right (by omega) (by omega))
  rw [hq] at h1
  exact val_mul2' h h0 h1
end Go.Proofs.YtpmdgmnpkdoamabDoor.Vc
