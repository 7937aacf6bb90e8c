/- Proved here: facts on strings and on floats for the walk of floats' texts: odd parts, halving, doubling, whole parts, signs; the text of a float as a relation, and that every float has one. Conditions: the words are doubles'; the numbers are finite where a theorem says so. -/
import Derived.Test.YtpmdgmnpkdoamabGreatDoorCtFba
import Derived.Test.YtpmdgmnpkdoamabGreatDoorCtWWords
import Derived.Lib.ItoaNum
import Derived.Lib.ItoaMem
import Derived.Lib.ItoaLen
import Derived.Laws.Concat
import Derived.Deep.RegionWith
import Derived.Deep.RegionHeld3
import Derived.BigQuiet
import Derived.Test.YtpmdgmnpkdoamabGreatDoorCtEx2
import Derived.Deep.LoopGhost
namespace Go.Proofs.YtpmdgmnpkdoamabGreatDoor.Vc
open Go.RowKit Fl Prom Go.Proofs.YtpmdgmnpkdoamabGreatDoorW.PrintWords
set_option linter.unusedVariables false
set_option linter.unusedSimpArgs false
def SB (l : List UInt8) : Value := .string ⟨l.toArray⟩
theorem cat_run (a b : List UInt8) (h : a.length + b.length ≤ 1000000) (w : World) : (binOp .add 9 (SB a) (SB b)).run Tryz.prog w = .ok (SB (a ++ b)) w := by
  have := run_string_add_sum (P := Tryz.prog) (w := w) ⟨a.toArray⟩ ⟨b.toArray⟩ (by simp [ByteArray.size]; omega)
  unfold SB
  have e : (⟨a.toArray⟩ : ByteArray) ++ ⟨b.toArray⟩ = ⟨(a ++ b).toArray⟩ := by
    apply ByteArray.ext; simp
  rw [e] at this
  exact this
theorem conv_one (b : Nat) (x : Int) (w : World) (h : w.cell? ⟨b, 0, none⟩ = some (.int .u8 x)) : (convert 52 9 (.slice (some ⟨b, 0, none⟩) 1 1)).run Tryz.prog w = .ok (.string (strOfNums [x])) w := by
  refine string_of_reads Tryz.underlying52 Tryz.underlying5 Tryz.underlying9 ⟨rfl, by decide, fun _ => ⟨⟨b, 0, none⟩, rfl, ?_⟩⟩
  intro j hj
  obtain rfl : j = 0 := by omega
  exact h
theorem new_cell (W : World) (x : Int) (b : Nat) (hb : b = W.heap.size) : (W.alloc (Obj.cells #[Value.int IntKind.u8 x] 5)).cell? ⟨b, 0, none⟩ = some (.int .u8 x) := by subst hb; simp
theorem bb2 {w c u : World} (hb : Below c.heap.size c u) (h : Below w.heap.size w c) : Below w.heap.size w u := h.trans (hb.mono h.size)
theorem str_one (x : Int) (h0 : 0 ≤ x) (h1 : x < 256) : strOfNums [x] = ⟨[UInt8.ofNat x.toNat].toArray⟩ := by
  simp [strOfNums]
theorem dec_digit (v : Int) (h : 0 ≤ v ∧ v < 10) : Value.string (strOfNums [48 + v]) = SB (Lib.itoa v) := by
  rw [str_one _ (by omega) (by omega)]
  unfold SB Lib.itoa
  rw [if_neg (by omega), Lib.decDigits_one (by omega)]
  rw [show (48 + v).toNat = 48 + v.toNat by omega]
theorem ret_str {a b : Value} (h : a = b) : Ending.returned a = .returned b := by rw [h]
end Go.Proofs.YtpmdgmnpkdoamabGreatDoor.Vc
namespace Go.Proofs.YtpmdgmnpkdoamabGreatDoor.Vc
open Go Go.RowKit Fl Prom
open Ieee
set_option linter.unusedVariables false
def C53 : Nat := 4845873199050653696
theorem v_zero : Val false 0 0 := ⟨0, -1074, by decide, by omega, by omega, by decide, by rw [Nat.zero_mul]⟩
theorem v_c53 {p : Nat} (hp : p = 1200) : Val false (2 ^ 52 * 2 ^ (p + 1)) C53 := by
  refine ⟨2 ^ 52, 1, by decide, by omega, by omega, by decide, ?_⟩
  rw [show ((1 : Int) + 1200).toNat = p + 1 by omega]
theorem ord_pos {A B x y : Nat} (h : Val false A x) (k : Val false B y) : double.order x y = some (compare (A : Int) (B : Int)) := by
  rw [val_order h k]
  simp
theorem cmpn_lt {a b : Nat} (h : a < b) : compare (a : Int) (b : Int) = .lt := cmp_lt (by omega)
theorem cmpn_gt {a b : Nat} (h : b < a) : compare (a : Int) (b : Int) = .gt := cmp_gt (by omega)
theorem mul_run {x y : Nat} (h : double.mul x TWO = some y) (w : World) : (binOp .mul 53 (.float .f64 x) (.float .f64 4611686018427387904)).run Tryz.prog w = .ok (.float .f64 y) w := run_float_arith w _ _ _ _ _ _ h
theorem div_run {x y : Nat} (h : double.div x TWO = some y) (w : World) : (binOp .quo 53 (.float .f64 x) (.float .f64 4611686018427387904)).run Tryz.prog w = .ok (.float .f64 y) w := run_float_arith w _ _ _ _ _ _ h
theorem trunc_run {x : Nat} {m : Int} (h : (double.read x).toInt .zero = some m) (hm : -9223372036854775808 ≤ m ∧ m ≤ 9223372036854775807) (w : World) : (convert 53 2 (.float .f64 x)).run Tryz.prog w = .ok (.int .i64 m) w := by
  have hd : (FloatKind.f64).decode x = double.read x := rfl
  have hm' : IntKind.i64.min ≤ m ∧ m ≤ IntKind.i64.max := hm
  have hc : Conv.floatToInt .f64 x .i64 = pure (.int .i64 m) := by
    unfold Conv.floatToInt
    simp only [hd, h]
    exact if_pos hm'
  simp [convert, run_underlying Tryz.underlying53, run_underlying Tryz.underlying2, hc]
theorem val_near_int {n p : Nat} (hp : p = 1200) (h : n < 2 ^ 53) : Val false (n * 2 ^ p) (FloatKind.f64.nearest (n : Int)) := by
  by_cases h0 : n = 0
  · subst h0
    rw [Nat.zero_mul]
    exact v_zero
  · have := val_int h h0
    rw [← hp] at this
    exact this
theorem val_whole {A x p : Nat} (hp : p = 1200) (h : Val false A x) : (double.read x).toInt .zero = some ((A / 2 ^ p : Nat) : Int) := by
  have := val_trunc h
  rw [← hp] at this
  rw [this]
  generalize A / 2 ^ p = q
  simp
/-- An odd number times a power of two that has room in a double has few digits. -/
theorem odd_small {s : Bool} {o t x : Nat} (h : Val s (o * 2 ^ t) x) (ho : o % 2 = 1) : o < 2 ^ 53 ∧ 126 ≤ t ∧ t ≤ 2223 := by
  obtain ⟨m, e, h1, h2, h3, h4, h5⟩ := h
  have o0 : o ≠ 0 := by omega
  have hE : (126 : Nat) ≤ (e + 1200).toNat := by omega
  have hE2 : (e + 1200).toNat ≤ 2171 := by omega
  generalize (e + 1200).toNat = E at *
  have hEt : E ≤ t := by
    rcases Nat.lt_or_ge t E with hlt | hge
    · exfalso
      have : o * 2 ^ t = m * 2 ^ (E - t) * 2 ^ t := by rw [h5, Nat.mul_assoc, ← Nat.pow_add]; congr 2; omega
      have h6 := Nat.eq_of_mul_eq_mul_right (Nat.two_pow_pos t) this
      obtain ⟨d, hd⟩ : ∃ d, E - t = d + 1 := ⟨E - t - 1, by omega⟩
      rw [hd, Nat.pow_succ, ← Nat.mul_assoc] at h6
      omega
    · exact hge
  have h6 : o * 2 ^ (t - E) = m := by
    have : o * 2 ^ (t - E) * 2 ^ E = m * 2 ^ E := by rw [Nat.mul_assoc, ← Nat.pow_add, ← h5]; congr 2; omega
    exact Nat.eq_of_mul_eq_mul_right (Nat.two_pow_pos E) this
  have hp : 0 < 2 ^ (t - E) := Nat.two_pow_pos _
  have hle : o ≤ m := by rw [← h6]; exact Nat.le_mul_of_pos_right _ hp
  have hpm : 2 ^ (t - E) ≤ m := by rw [← h6]; exact Nat.le_mul_of_pos_left _ (by omega)
  have : 2 ^ (t - E) < 2 ^ 53 := by omega
  have := (Nat.pow_lt_pow_iff_right (a := 2) (by omega)).1 this
  exact ⟨by omega, by omega, by omega⟩
/-- Below the bound: the exponents. -/
theorem bound_iff {o t p : Nat} (ho : o < 2 ^ 53) (h : t ≤ p) : o * 2 ^ t < 2 ^ 52 * 2 ^ (p + 1) := by
  have h1 : o * 2 ^ t < 2 ^ 53 * 2 ^ t := Nat.mul_lt_mul_of_pos_right ho (Nat.two_pow_pos t)
  have h2 : 2 ^ t ≤ 2 ^ p := Nat.pow_le_pow_right (by omega) h
  have h3 : 2 ^ 53 * 2 ^ t ≤ 2 ^ 53 * 2 ^ p := Nat.mul_le_mul_left _ h2
  have h4 : (2 : Nat) ^ 53 * 2 ^ p = 2 ^ 52 * 2 ^ (p + 1) := by rw [Nat.pow_succ]; omega
  omega
/-- At or above the bound there is room to halve. -/
theorem room {o t p : Nat} (ho : o < 2 ^ 53) (h : 2 ^ 52 * 2 ^ (p + 1) ≤ o * 2 ^ t) : p < t := by
  rcases Nat.lt_or_ge p t with h1 | h1
  · exact h1
  · exact absurd (bound_iff ho h1) (by omega)
/-- Is it whole? -/
theorem whole_iff {o t p : Nat} (ho : o % 2 = 1) : o * 2 ^ t / 2 ^ p * 2 ^ p = o * 2 ^ t ↔ p ≤ t := by
  constructor
  · intro h
    rcases Nat.lt_or_ge t p with hlt | hge
    · exfalso
      generalize o * 2 ^ t / 2 ^ p = q at h
      have e : p = (p - t) + t := by omega
      rw [e, Nat.pow_add, ← Nat.mul_assoc] at h
      have h6 := Nat.eq_of_mul_eq_mul_right (Nat.two_pow_pos t) h
      obtain ⟨d, hd⟩ : ∃ d, p - t = d + 1 := ⟨p - t - 1, by omega⟩
      rw [hd, Nat.pow_succ, ← Nat.mul_assoc] at h6
      omega
    · exact hge
  · intro h
    have e : t = (t - p) + p := by omega
    rw [e, Nat.pow_add, ← Nat.mul_assoc, Nat.mul_div_cancel _ (Nat.two_pow_pos p)]
theorem whole_val {o t p : Nat} (h : p ≤ t) : o * 2 ^ t / 2 ^ p = o * 2 ^ (t - p) := by
  have e : t = (t - p) + p := by omega
  conv => lhs; rw [e, Nat.pow_add, ← Nat.mul_assoc, Nat.mul_div_cancel _ (Nat.two_pow_pos p)]
theorem whole_lt {A p : Nat} (h : A < 2 ^ 52 * 2 ^ (p + 1)) : A / 2 ^ p < 2 ^ 53 := by
  have h4 : (2 : Nat) ^ 52 * 2 ^ (p + 1) = 2 ^ 53 * 2 ^ p := by rw [Nat.pow_succ]; omega
  rw [h4] at h
  exact (Nat.div_lt_iff_lt_mul (Nat.two_pow_pos p)).2 h
theorem div2_at {s : Bool} {A x p : Nat} (hp : p = 1200) (h : Val s A x) (hA : 2 ^ 52 * 2 ^ (p + 1) ≤ A) : ∃ y, double.div x TWO = some y ∧ Val s (A / 2) y := by
  have e : 52 + (p + 1) = 1253 := by omega
  rw [← Nat.pow_add, e] at hA
  obtain ⟨y, h1, h2, _⟩ := val_div2 h hA
  exact ⟨y, h1, h2⟩
theorem mul2_at {s : Bool} {A x p : Nat} (hp : p = 1200) (h : Val s A x) (h0 : A ≠ 0) (hA : A < 2 ^ 52 * 2 ^ (p + 1)) : ∃ y, double.mul x TWO = some y ∧ Val s (2 * A) y := by
  obtain ⟨q, hq⟩ : ∃ q : Nat, q = 2223 := ⟨_, rfl⟩
  have h1 : A < 2 ^ q := Nat.lt_of_lt_of_le hA (by rw [← Nat.pow_add]; exact Nat.pow_le_pow_right (by omega) (by omega))
  rw [hq] at h1
  exact val_mul2' h h0 h1
end Go.Proofs.YtpmdgmnpkdoamabGreatDoor.Vc
namespace Go.Proofs.YtpmdgmnpkdoamabGreatDoor.Vc
open Go.RowKit Fl Prom Go.Proofs.YtpmdgmnpkdoamabGreatDoorW.PrintWords
open Ieee (single double Format Datum)
set_option linter.unusedVariables false
set_option linter.unusedSimpArgs false
theorem val_nan {s : Bool} {A x : Nat} (h : Val s A x) : fnan x = false := by
  obtain ⟨m, e, h1, _⟩ := h
  rw [fnan_eq, h1]; rfl
theorem ord_twice {A x y : Nat} (h : Val false A x) (hA : A ≠ 0) (hy : Val false (2 * A) y ∨ double.read y = .infinity false) : FloatKind.f64.format.order x y = some .lt := by
  rcases hy with hy | hy
  · have := ord_pos h hy
    rw [cmpn_lt (by omega)] at this
    exact this
  · obtain ⟨m, e, h1, _⟩ := h
    show double.order x y = _
    unfold Format.order
    rw [h1, hy]
    rfl
end Go.Proofs.YtpmdgmnpkdoamabGreatDoor.Vc
namespace Go.Proofs.YtpmdgmnpkdoamabGreatDoor.Vc
open Go.RowKit Fl Prom Go.Proofs.YtpmdgmnpkdoamabGreatDoorW.PrintWords
open Ieee (single double Format Datum)
set_option linter.unusedVariables false
set_option linter.unusedSimpArgs false
theorem odd_part (n : Nat) : ∀ A : Nat, A ≤ n → A ≠ 0 → ∃ o t, o % 2 = 1 ∧ A = o * 2 ^ t := by
  induction n with
  | zero => intro A h h0; omega
  | succ n ih =>
    intro A h h0
    by_cases h2 : A % 2 = 1
    · exact ⟨A, 0, h2, by simp⟩
    · obtain ⟨o, t, ho, he⟩ := ih (A / 2) (by omega) (by omega)
      exact ⟨o, t + 1, ho, by rw [Nat.pow_succ, ← Nat.mul_assoc, ← he]; omega⟩
theorem sign_flip {x : Nat} (hx : x < 18446744073709551616) : (Fl.flip x / negZero % 2 == 1) = !(x / negZero % 2 == 1) := by
  unfold Fl.flip negZero
  by_cases h : x < 9223372036854775808
  · rw [if_pos h, show (x + 9223372036854775808) / 9223372036854775808 = 1 by omega, show x / 9223372036854775808 = 0 by omega]; rfl
  · rw [if_neg h, show (x - 9223372036854775808) / 9223372036854775808 = 0 by omega, show x / 9223372036854775808 = 1 by omega]; rfl
theorem val_flip {s : Bool} {A x : Nat} (hx : x < 18446744073709551616) (h : Val s A x) : Val (!s) A (Fl.flip x) := by
  obtain ⟨m, e, h1, h2⟩ := h
  refine ⟨m, e, ?_, h2⟩
  unfold Format.read at h1 ⊢
  simp only [dbl_binade, dbl_inf, dbl_least, dbl_sign] at h1 ⊢
  rw [flip_mod hx, sign_flip hx]
  generalize x % negZero = rung at *
  generalize (x / negZero % 2 == 1) = b at *
  by_cases c1 : rung < 2 ^ 52
  · rw [if_pos c1] at h1 ⊢
    injection h1 with a1 a2 a3
    rw [a1, a2, a3]
  · rw [if_neg c1] at h1 ⊢
    by_cases c2 : rung < 2047 * 2 ^ 52
    · rw [if_pos c2] at h1 ⊢
      injection h1 with a1 a2 a3
      rw [a1, a2, a3]
    · rw [if_neg c2] at h1
      split at h1 <;> cases h1
def INF : Nat := 9218868437227405312
end Go.Proofs.YtpmdgmnpkdoamabGreatDoor.Vc
namespace Go.Proofs.YtpmdgmnpkdoamabGreatDoor.Vc
open Go.RowKit Fl Prom Go.Proofs.YtpmdgmnpkdoamabGreatDoorW.PrintWords
open Ieee (single double Format Datum)
set_option linter.unusedVariables false
set_option linter.unusedSimpArgs false
/-- The text of a float. -/
def FTx (x : Nat) (l : List UInt8) : Prop :=
  (fnan x = true ∧ l = [110, 97, 110]) ∨ (x = 0 ∧ l = [48]) ∨ (x = negZero ∧ l = [45, 48]) ∨ (x = INF ∧ l = [105, 110, 102]) ∨ (x = negZero + INF ∧ l = [45, 105, 110, 102]) ∨
  (∃ o t : Nat, o % 2 = 1 ∧ Val false (o * 2 ^ t) x ∧ l = Lib.itoa o ++ 112 :: Lib.itoa ((t : Int) - 1200)) ∨
  (∃ o t : Nat, o % 2 = 1 ∧ Val true (o * 2 ^ t) x ∧ l = 45 :: (Lib.itoa o ++ 112 :: Lib.itoa ((t : Int) - 1200)))
theorem txt_len {s : Bool} {o t x : Nat} (hV : Val s (o * 2 ^ t) x) (ho : o % 2 = 1) : (Lib.itoa o ++ 112 :: Lib.itoa ((t : Int) - 1200)).length ≤ 43 := by
  have hs := odd_small hV ho
  have l1 := Lib.itoa_length_le (o : Int) (by omega) (by omega)
  have l2 := Lib.itoa_length_le ((t : Int) - 1200) (by omega) (by omega)
  simp
  omega
theorem ftx_len {x : Nat} {l : List UInt8} (h : FTx x l) : l.length ≤ 44 := by
  rcases h with ⟨_, rfl⟩ | ⟨_, rfl⟩ | ⟨_, rfl⟩ | ⟨_, rfl⟩ | ⟨_, rfl⟩ | ⟨o, t, ho, hV, rfl⟩ | ⟨o, t, ho, hV, rfl⟩
  · decide
  · decide
  · decide
  · decide
  · decide
  · have := txt_len hV ho; omega
  · have := txt_len hV ho; rw [List.length_cons]; omega
theorem val_word_zero {s : Bool} {x : Nat} (hx : x < 18446744073709551616) (h : Val s 0 x) : x = 0 ∨ x = negZero := by
  obtain ⟨m, e, h1, h2, h3, h4, h5⟩ := h
  have h0 : m = 0 := by
    rcases Nat.eq_zero_or_pos m with h | h
    · exact h
    · have := Nat.mul_pos h (Nat.two_pow_pos (e + 1200).toNat); omega
  rcases read_double x with h | ⟨_, h⟩ | ⟨_, m', _, h, _, hm⟩
  · rw [h1] at h; cases h
  · rw [h1] at h; cases h
  · rw [h1] at h
    injection h with _ h6 _
    exact zero_of_mod hx (hm (h6 ▸ h0))
theorem inf_word {s : Bool} {x : Nat} (hx : x < 18446744073709551616) (h : double.read x = .infinity s) : x = if s then negZero + INF else INF := by
  unfold Format.read at h
  simp only [dbl_binade, dbl_inf, dbl_least, dbl_sign] at h
  split at h
  · cases h
  · split at h
    · cases h
    · split at h
      · rename_i h3
        injection h with h4
        unfold negZero INF at *
        cases s
        · have : ¬ x / 9223372036854775808 % 2 = 1 := by simpa using h4
          simp; omega
        · have : x / 9223372036854775808 % 2 = 1 := by simpa using h4
          simp; omega
      · cases h
theorem ftx_ex (x : Nat) (hx : x < 18446744073709551616) : ∃ l, FTx x l := by
  unfold FTx
  rcases val_cases x with h | ⟨s, h⟩ | ⟨s, A, h⟩
  · exact ⟨_, .inl ⟨by rw [fnan_eq]; exact h, rfl⟩⟩
  · have := inf_word hx h
    cases s
    · exact ⟨_, .inr (.inr (.inr (.inl ⟨this, rfl⟩)))⟩
    · exact ⟨_, .inr (.inr (.inr (.inr (.inl ⟨this, rfl⟩))))⟩
  · by_cases hA : A = 0
    · subst hA
      rcases val_word_zero hx h with h | h
      · exact ⟨_, .inr (.inl ⟨h, rfl⟩)⟩
      · exact ⟨_, .inr (.inr (.inl ⟨h, rfl⟩))⟩
    · obtain ⟨o, t, ho, rfl⟩ := odd_part A A (Nat.le_refl _) hA
      cases s
      · exact ⟨_, .inr (.inr (.inr (.inr (.inr (.inl ⟨o, t, ho, h, rfl⟩)))))⟩
      · exact ⟨_, .inr (.inr (.inr (.inr (.inr (.inr ⟨o, t, ho, h, rfl⟩)))))⟩
end Go.Proofs.YtpmdgmnpkdoamabGreatDoor.Vc
