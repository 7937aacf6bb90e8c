/- Proved here: halves and doubles of floating-point words are exact, and a word's whole part. Conditions: the numbers are finite. -/
import Derived.Test.YtpmdgmnpkdoamabGreatDoorCtEx
namespace Go.Proofs.YtpmdgmnpkdoamabGreatDoor.Fl
open Go Ieee
def TWO : Nat := 4611686018427387904
theorem two_read : double.read TWO = .number false (2 ^ 52) (-51) := by decide
theorem exact_double' (s : Bool) (m : Nat) (e : Int) (h0 : m ≠ 0) (hm : m.log2 ≤ 52) (he : -1074 ≤ e) (hh : e + m.log2 ≤ 1023) :
    ∃ m' e', double.read (double.nearest s m e) = .number s m' e' ∧ -1200 ≤ e' ∧ V s m' e' = V s m e := by
  obtain ⟨lo, hi⟩ := log2_bounds h0
  unfold Format.nearest
  rw [if_neg h0]
  simp only [dbl_least, show (double.fractionBits : Int) = 52 from rfl]
  obtain ⟨last, hlast⟩ : ∃ last : Int, max (e + m.log2 - 52) (-1074) = last := ⟨_, rfl⟩
  rw [hlast]
  have hle : last ≤ e := by omega
  have hge : -1074 ≤ last := by omega
  rw [show (last - e).toNat = 0 by omega, cut_none, Nat.shiftLeft_eq]
  have up : m * 2 ^ (e - last).toNat < 2 ^ (m.log2 + 1 + (e - last).toNat) := by rw [Nat.pow_add]; exact Nat.mul_lt_mul_of_pos_right hi (Nat.two_pow_pos _)
  have up2 : (2 : Nat) ^ (m.log2 + 1 + (e - last).toNat) ≤ 2 ^ 53 := Nat.pow_le_pow_right (by omega) (by omega)
  have hkept : m * 2 ^ (e - last).toNat ≤ 2 * 2 ^ 52 ∧ ((last - -1074).toNat = 0 ∨ 2 ^ 52 ≤ m * 2 ^ (e - last).toNat) := by
    have dn : 2 ^ (m.log2 + (e - last).toNat) ≤ m * 2 ^ (e - last).toNat := by rw [Nat.pow_add]; exact Nat.mul_le_mul_right _ lo
    refine ⟨by omega, ?_⟩
    by_cases hl : last = -1074
    · left; omega
    · right
      have : m.log2 + (e - last).toNat = 52 := by omega
      rw [this] at dn; exact dn
  have hrung : (last - -1074).toNat * double.binade + m * 2 ^ (e - last).toNat < double.infRung := by
    rw [dbl_inf, dbl_binade]
    have : (last - -1074).toNat ≤ 2045 := by omega
    have := Nat.mul_le_mul_right (2 ^ 52) this
    omega
  rw [Nat.min_eq_left (by omega)]
  obtain ⟨m', e', h1, h2, h3⟩ := V_rung double s (last - -1074).toNat (m * 2 ^ (e - last).toNat) (by rw [dbl_least]; omega) hkept.1 hkept.2 hrung
  refine ⟨m', e', h1, h2, h3.trans ?_⟩
  rw [dbl_least, V, signed_eq]
  congr 1
  rw [show (-1074 + (((last - -1074).toNat : Nat) : Int) + 1200).toNat = (last + 1200).toNat by omega]
  push_cast
  rw [Int.mul_assoc, ← Int.pow_add]
  congr 2
  omega
theorem over_double (s : Bool) (m : Nat) (e : Int) (h0 : m ≠ 0) (hm : m.log2 ≤ 52) (he : -1074 ≤ e) (hh : 1024 ≤ e + m.log2) :
    double.read (double.nearest s m e) = .infinity s := by
  obtain ⟨lo, hi⟩ := log2_bounds h0
  unfold Format.nearest
  rw [if_neg h0]
  simp only [dbl_least, show (double.fractionBits : Int) = 52 from rfl]
  obtain ⟨last, hlast⟩ : ∃ last : Int, max (e + m.log2 - 52) (-1074) = last := ⟨_, rfl⟩
  rw [hlast]
  have hle : last ≤ e := by omega
  rw [show (last - e).toNat = 0 by omega, cut_none, Nat.shiftLeft_eq]
  have dn : 2 ^ (m.log2 + (e - last).toNat) ≤ m * 2 ^ (e - last).toNat := by rw [Nat.pow_add]; exact Nat.mul_le_mul_right _ lo
  have : m.log2 + (e - last).toNat = 52 := by omega
  rw [this] at dn
  have hrung : double.infRung ≤ (last - -1074).toNat * double.binade + m * 2 ^ (e - last).toNat := by
    rw [dbl_inf, dbl_binade]
    have : 2046 ≤ (last - -1074).toNat := by omega
    have := Nat.mul_le_mul_right (2 ^ 52) this
    omega
  rw [Nat.min_eq_right hrung]
  cases s <;> decide
/-- A finite double: its sign, and its size in units of 2 to the -1200. -/
def Val (s : Bool) (A : Nat) (x : Nat) : Prop := ∃ (m : Nat) (e : Int), double.read x = .number s m e ∧ -1074 ≤ e ∧ e ≤ 971 ∧ m < 2 ^ 53 ∧ A = m * 2 ^ (e + 1200).toNat
theorem val_cases (x : Nat) : (double.read x).isNaN = true ∨ (∃ s, double.read x = .infinity s) ∨ ∃ s A, Val s A x := by
  unfold Val Format.read
  simp only [dbl_binade, dbl_inf, dbl_least, dbl_sign]
  generalize hr : x % negZero = rung
  by_cases h3 : rung < 2 ^ 52
  · rw [if_pos h3]; exact .inr (.inr ⟨_, _, _, _, rfl, by omega, by omega, by omega, rfl⟩)
  · rw [if_neg h3]
    by_cases h4 : rung < 2047 * 2 ^ 52
    · rw [if_pos h4]
      have h5 : rung / 2 ^ 52 < 2047 := by omega
      have h6 : 0 < rung / 2 ^ 52 := by omega
      have h7 : rung % 2 ^ 52 < 2 ^ 52 := Nat.mod_lt _ (by decide)
      exact .inr (.inr ⟨_, _, _, _, rfl, by omega, by omega, by omega, rfl⟩)
    · rw [if_neg h4]
      by_cases h5 : rung = 2047 * 2 ^ 52
      · rw [if_pos h5]; exact .inr (.inl ⟨_, rfl⟩)
      · rw [if_neg h5]; exact .inl rfl
theorem val_V {s : Bool} {A x : Nat} (h : Val s A x) : ∃ m e, double.read x = .number s m e ∧ -1074 ≤ e ∧ V s m e = (if s then -1 else 1) * (A : Int) := by
  obtain ⟨m, e, h1, h2, h3, h4, h5⟩ := h
  refine ⟨m, e, h1, h2, ?_⟩
  unfold V
  rw [signed_eq, h5]
  push_cast
  rfl
/-- A number of at most 53 digits that is written exactly. -/
theorem val_near (s : Bool) (m : Nat) (e : Int) (h0 : m ≠ 0) (hm : m < 2 ^ 53) (he : -1074 ≤ e) (hh : e + m.log2 ≤ 1023) : Val s (m * 2 ^ (e + 1200).toNat) (double.nearest s m e) := by
  obtain ⟨m', e', h1, h2, h3⟩ := exact_double' s m e h0 (log2_le hm) he hh
  rcases val_cases (double.nearest s m e) with h | ⟨t, h⟩ | ⟨t, A, h⟩
  · rw [h1] at h; cases h
  · rw [h1] at h; cases h
  · have hA := h
    obtain ⟨m2, e2, g1, g2, g3, g4, g5⟩ := h
    rw [h1] at g1
    injection g1 with g6 g7 g8
    subst g6 g7 g8
    have : A = m * 2 ^ (e + 1200).toNat := by
      rw [g5]
      unfold V at h3
      rw [signed_eq, signed_eq] at h3
      have h4 : ((m' * 2 ^ (e' + 1200).toNat : Nat) : Int) = ((m * 2 ^ (e + 1200).toNat : Nat) : Int) := by
        push_cast
        generalize (m' : Int) * 2 ^ (e' + 1200).toNat = a at *
        generalize (m : Int) * 2 ^ (e + 1200).toNat = b at *
        cases s <;> simp at h3 <;> omega
      exact Int.ofNat.inj h4
    rw [← this]
    exact hA
theorem val_mul2 {s : Bool} {A x : Nat} (h : Val s A x) (hA : A ≠ 0) : ∃ y, double.mul x TWO = some y ∧ (Val s (2 * A) y ∨ double.read y = .infinity s) := by
  obtain ⟨m, e, h1, h2, h3, h4, h5⟩ := h
  have h0 : m ≠ 0 := by rintro rfl; exact hA (by rw [h5, Nat.zero_mul])
  have hl := log2_le (k := 52) h4
  have hw : double.nearest s (m * 2 ^ 52) (e + -51) = double.nearest s m (e + 1) := by
    have := nearest_scale double s m (e + 1) 52 h0 (by rw [dbl_least, show (double.fractionBits : Int) = 52 from rfl]; omega)
    rw [← this]
    congr 1
    omega
  refine ⟨double.nearest s m (e + 1), ?_, ?_⟩
  · unfold Format.mul
    rw [h1, two_read]
    simp only [Datum.product, Option.map_some, Format.write, Bool.xor_false]
    rw [hw]
  · by_cases ho : e + 1 + m.log2 ≤ 1023
    · left
      have := val_near s m (e + 1) h0 h4 (by omega) ho
      rw [h5, show 2 * (m * 2 ^ (e + 1200).toNat) = m * 2 ^ (e + 1 + 1200).toNat by rw [show (e + 1 + 1200).toNat = (e + 1200).toNat + 1 by omega, Nat.pow_succ]; simp [Nat.mul_comm, Nat.mul_left_comm]]
      exact this
    · right
      exact over_double s m (e + 1) h0 hl (by omega) (by omega)
/-- Twice a number below 2 to the 1023 is no infinity. -/
theorem val_mul2' {s : Bool} {A x : Nat} (h : Val s A x) (hA : A ≠ 0) (hs : A < 2 ^ 2223) : ∃ y, double.mul x TWO = some y ∧ Val s (2 * A) y := by
  obtain ⟨y, hy, hv⟩ := val_mul2 h hA
  refine ⟨y, hy, ?_⟩
  rcases hv with hv | hv
  · exact hv
  · exfalso
    obtain ⟨m, e, h1, h2, h3, h4, h5⟩ := h
    have h0 : m ≠ 0 := by rintro rfl; exact hA (by rw [h5, Nat.zero_mul])
    have hl := log2_le (k := 52) h4
    have hw : double.nearest s (m * 2 ^ 52) (e + -51) = double.nearest s m (e + 1) := by
      have := nearest_scale double s m (e + 1) 52 h0 (by rw [dbl_least, show (double.fractionBits : Int) = 52 from rfl]; omega)
      rw [← this]
      congr 1
      omega
    have hy2 : double.mul x TWO = some (double.nearest s m (e + 1)) := by
      unfold Format.mul
      rw [h1, two_read]
      simp only [Datum.product, Option.map_some, Format.write, Bool.xor_false]
      rw [hw]
    rw [hy2] at hy
    obtain rfl := Option.some.inj hy
    have hlt : e + 1 + m.log2 ≤ 1023 := by
      have lo := (log2_bounds h0).1
      have h6 : 2 ^ (m.log2 + (e + 1200).toNat) ≤ A := by rw [h5, Nat.pow_add]; exact Nat.mul_le_mul_right _ lo
      have h7 : (2 : Nat) ^ (m.log2 + (e + 1200).toNat) < 2 ^ 2223 := Nat.lt_of_le_of_lt h6 hs
      have h8 := (Nat.pow_lt_pow_iff_right (a := 2) (by omega)).1 h7
      omega
    obtain ⟨m', e', k1, _, _⟩ := val_near s m (e + 1) h0 h4 (by omega) hlt
    rw [k1] at hv
    cases hv
theorem val_div2 {s : Bool} {A x : Nat} (h : Val s A x) (hA : 2 ^ 1253 ≤ A) : ∃ y, double.div x TWO = some y ∧ Val s (A / 2) y ∧ 2 * (A / 2) = A := by
  obtain ⟨m, e, h1, h2, h3, h4, h5⟩ := h
  have h0 : m ≠ 0 := by
    rintro rfl
    rw [h5, Nat.zero_mul] at hA
    have := Nat.two_pow_pos 1253
    omega
  have hl := log2_le (k := 52) h4
  have he : 0 < e := by
    have h6 : 2 ^ 1253 < 2 ^ (53 + (e + 1200).toNat) := by
      rw [Nat.pow_add]
      refine Nat.lt_of_le_of_lt hA ?_
      rw [h5]
      exact Nat.mul_lt_mul_of_pos_right h4 (Nat.two_pow_pos _)
    have h8 := (Nat.pow_lt_pow_iff_right (a := 2) (by omega)).1 h6
    omega
  have hhalf : A = 2 * (m * 2 ^ (e - 1 + 1200).toNat) := by
    rw [h5, show (e + 1200).toNat = (e - 1 + 1200).toNat + 1 by omega, Nat.pow_succ, ← Nat.mul_assoc, Nat.mul_comm 2]
  have hdiv : A / 2 = m * 2 ^ (e - 1 + 1200).toNat := by rw [hhalf, Nat.mul_div_cancel_left _ (by decide)]
  refine ⟨double.nearest s m (e - 1), ?_, ?_, by rw [hdiv]; exact hhalf.symm⟩
  · unfold Format.div
    rw [h1, two_read]
    simp only [Datum.quotient, Bool.xor_false]
    rw [if_neg (by decide)]
    simp only [Option.map_some, Format.write, Nat.log2_two_pow, show double.fractionBits + 2 = 54 from rfl, Nat.shiftLeft_eq]
    obtain ⟨k, hk⟩ : ∃ k, 54 + 52 - m.log2 = 52 + k := ⟨54 - m.log2, by omega⟩
    rw [hk, Nat.pow_add, ← Nat.mul_assoc, Nat.mul_comm m, Nat.mul_assoc, Nat.mul_div_cancel_left _ (Nat.two_pow_pos 52), Nat.mul_mod_right]
    have := nearest_scale double s m (e - 1) (k + 1) h0 (by rw [dbl_least, show (double.fractionBits : Int) = 52 from rfl]; omega)
    rw [← this, Nat.pow_succ]
    congr 2
    · simp [Nat.mul_comm, Nat.mul_left_comm]
    · push_cast; omega
  · rw [hdiv]
    exact val_near s m (e - 1) h0 h4 (by omega) (by omega)
/-- The whole part. -/
theorem val_trunc {s : Bool} {A x : Nat} (h : Val s A x) : (double.read x).toInt .zero = some ((if s then -1 else 1) * ((A / 2 ^ 1200 : Nat) : Int)) := by
  obtain ⟨m, e, h1, h2, h3, h4, h5⟩ := h
  unfold Datum.toInt
  rw [h1]
  simp only [Datum.integral]
  have key : Toward.zero.cut s (m <<< e.toNat) (-e).toNat = A / 2 ^ 1200 := by
    rw [Nat.shiftLeft_eq, h5]
    by_cases he : e ≤ 0
    · rw [show e.toNat = 0 by omega, Nat.pow_zero, Nat.mul_one]
      have h6 : m * 2 ^ (e + 1200).toNat / 2 ^ 1200 = m / 2 ^ (-e).toNat := by
        rw [show (1200 : Nat) = (-e).toNat + (e + 1200).toNat by omega, Nat.pow_add]
        exact Nat.mul_div_mul_right _ _ (Nat.two_pow_pos _)
      rw [h6]
      unfold Toward.cut
      dsimp only
      rw [Nat.shiftLeft_eq, Nat.one_mul]
      by_cases hg : (-e).toNat ≤ m.log2 + 2
      · rw [Nat.min_eq_left hg]; simp
      · have hm : m < 2 ^ (m.log2 + 1) := Nat.lt_log2_self
        have p1 : (2 : Nat) ^ (m.log2 + 1) ≤ 2 ^ (m.log2 + 2) := Nat.pow_le_pow_right (by omega) (by omega)
        have p2 : (2 : Nat) ^ (m.log2 + 2) ≤ 2 ^ (-e).toNat := Nat.pow_le_pow_right (by omega) (by omega)
        rw [Nat.min_eq_right (by omega), Nat.div_eq_of_lt (by omega), Nat.div_eq_of_lt (by omega)]
        rfl
    · rw [show (-e).toNat = 0 by omega, show (e + 1200).toNat = e.toNat + 1200 by omega, Nat.pow_add, ← Nat.mul_assoc, Nat.mul_div_cancel _ (Nat.two_pow_pos 1200)]
      generalize m * 2 ^ e.toNat = q
      unfold Toward.cut
      simp
  rw [key]
  generalize A / 2 ^ 1200 = q
  unfold signed
  cases s <;> simp <;> omega
theorem val_int {n : Nat} (h : n < 2 ^ 53) (h0 : n ≠ 0) : Val false (n * 2 ^ 1200) (FloatKind.f64.nearest (n : Int)) := by
  unfold FloatKind.nearest FloatKind.encode FloatKind.format
  simp only [Format.write]
  rw [show (decide ((n : Int) < 0)) = false by simp, Int.natAbs_natCast]
  have hl := log2_le (k := 52) h
  have := val_near false n 0 h0 h (by omega) (by omega)
  rw [show ((0 : Int) + 1200).toNat = 1200 from rfl] at this
  exact this
theorem val_order {s t : Bool} {A B x y : Nat} (h : Val s A x) (k : Val t B y) : double.order x y = some (compare ((if s then -1 else 1) * (A : Int)) ((if t then -1 else 1) * (B : Int))) := by
  obtain ⟨m, e, h1, h2, h3⟩ := val_V h
  obtain ⟨n, j, k1, k2, k3⟩ := val_V k
  unfold Format.order
  rw [h1, k1, order_num _ _ _ _ _ _ (by omega) (by omega), h3, k3]
end Go.Proofs.YtpmdgmnpkdoamabGreatDoor.Fl
