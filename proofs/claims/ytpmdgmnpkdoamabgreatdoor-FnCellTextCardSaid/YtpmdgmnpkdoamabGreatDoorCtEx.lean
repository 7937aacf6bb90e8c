/- Proved here: what is exact in conversions of floating-point words: whole numbers to floats and back, singles to doubles and back. Conditions: the numbers are of few enough digits. -/
import Derived.Test.YtpmdgmnpkdoamabGreatDoorCtFl
namespace Go.Proofs.YtpmdgmnpkdoamabGreatDoor.Fl
open Go Ieee
theorem log2_pow (m k : Nat) (h : m ≠ 0) : (m * 2 ^ k).log2 = m.log2 + k := by
  obtain ⟨lo, hi⟩ := log2_bounds h
  have h' : m * 2 ^ k ≠ 0 := Nat.mul_ne_zero h (by have := Nat.two_pow_pos k; omega)
  rw [Nat.log2_eq_iff h']
  refine ⟨?_, ?_⟩
  · rw [Nat.pow_add]; exact Nat.mul_le_mul_right _ lo
  · rw [show m.log2 + k + 1 = (m.log2 + 1) + k by omega, Nat.pow_add]; exact Nat.mul_lt_mul_of_pos_right hi (Nat.two_pow_pos _)
theorem cut_exact (way : Toward) (neg : Bool) (m k : Nat) (h : m ≠ 0) : way.cut neg (m * 2 ^ k) k = m := by
  have hp := Nat.two_pow_pos k
  unfold Toward.cut
  rw [log2_pow m k h, Nat.min_eq_left (by omega), Nat.shiftLeft_eq, Nat.one_mul]
  dsimp only
  rw [Nat.mul_div_cancel _ hp, Nat.mul_mod_left]
  cases way <;> simp <;> omega
/-- The nearest word depends on the number alone, where no digit is lost. -/
theorem nearest_scale (f : Format) (s : Bool) (m : Nat) (e : Int) (k : Nat) (h0 : m ≠ 0) (h : max (e + m.log2 - f.fractionBits) f.leastPlace ≤ e) :
    f.nearest s (m * 2 ^ k) (e - k) = f.nearest s m e := by
  have h0' : m * 2 ^ k ≠ 0 := Nat.mul_ne_zero h0 (by have := Nat.two_pow_pos k; omega)
  unfold Format.nearest
  rw [if_neg h0', if_neg h0, log2_pow m k h0]
  have hl : max (e - (k : Int) + ((m.log2 + k : Nat) : Int) - f.fractionBits) f.leastPlace = max (e + m.log2 - f.fractionBits) f.leastPlace := by omega
  simp only [hl]
  generalize max (e + m.log2 - f.fractionBits) f.leastPlace = last at *
  rw [show (last - e).toNat = 0 by omega, cut_none]
  have hk : Toward.even.cut s ((m * 2 ^ k) <<< (e - k - last).toNat) (last - (e - k)).toNat = m <<< (e - last).toNat := by
    rw [Nat.shiftLeft_eq, Nat.shiftLeft_eq]
    by_cases hc : e - k ≤ last
    · rw [show (e - k - last).toNat = 0 by omega, Nat.pow_zero, Nat.mul_one]
      have e1 : k = (e - last).toNat + (last - (e - k)).toNat := by omega
      have e2 : m * 2 ^ k = m * 2 ^ (e - last).toNat * 2 ^ (last - (e - k)).toNat := by rw [Nat.mul_assoc, ← Nat.pow_add, ← e1]
      rw [e2]
      exact cut_exact _ _ _ _ (Nat.mul_ne_zero h0 (by have := Nat.two_pow_pos (e - last).toNat; omega))
    · rw [show (last - (e - k)).toNat = 0 by omega, cut_none, Nat.mul_assoc, ← Nat.pow_add]
      congr 2
      omega
  rw [hk]
theorem exact_single (s : Bool) (m : Nat) (e : Int) (h0 : m ≠ 0) (hm : m.log2 ≤ 23) (he : -149 ≤ e) (hh : e + m.log2 ≤ 127) :
    ∃ m' e', single.read (single.nearest s m e) = .number s m' e' ∧ -1200 ≤ e' ∧ V s m' e' = V s m e := by
  obtain ⟨lo, hi⟩ := log2_bounds h0
  unfold Format.nearest
  rw [if_neg h0]
  simp only [sgl_least, show (single.fractionBits : Int) = 23 from rfl]
  obtain ⟨last, hlast⟩ : ∃ last : Int, max (e + m.log2 - 23) (-149) = last := ⟨_, rfl⟩
  rw [hlast]
  have hle : last ≤ e := by omega
  have hge : -149 ≤ last := by omega
  rw [show (last - e).toNat = 0 by omega, cut_none, Nat.shiftLeft_eq]
  have up : m * 2 ^ (e - last).toNat < 2 ^ (m.log2 + 1 + (e - last).toNat) := by rw [Nat.pow_add]; exact Nat.mul_lt_mul_of_pos_right hi (Nat.two_pow_pos _)
  have up2 : (2 : Nat) ^ (m.log2 + 1 + (e - last).toNat) ≤ 2 ^ 24 := Nat.pow_le_pow_right (by omega) (by omega)
  have hkept : m * 2 ^ (e - last).toNat ≤ 2 * 2 ^ 23 ∧ ((last - -149).toNat = 0 ∨ 2 ^ 23 ≤ m * 2 ^ (e - last).toNat) := by
    have dn : 2 ^ (m.log2 + (e - last).toNat) ≤ m * 2 ^ (e - last).toNat := by rw [Nat.pow_add]; exact Nat.mul_le_mul_right _ lo
    refine ⟨by omega, ?_⟩
    by_cases hl : last = -149
    · left; omega
    · right
      have : m.log2 + (e - last).toNat = 23 := by omega
      rw [this] at dn; exact dn
  have hrung : (last - -149).toNat * single.binade + m * 2 ^ (e - last).toNat < single.infRung := by
    rw [sgl_inf, sgl_binade]
    have : (last - -149).toNat ≤ 253 := by omega
    have := Nat.mul_le_mul_right (2 ^ 23) this
    omega
  rw [Nat.min_eq_left (by omega)]
  obtain ⟨m', e', h1, h2, h3⟩ := V_rung single s (last - -149).toNat (m * 2 ^ (e - last).toNat) (by rw [sgl_least]; omega) hkept.1 hkept.2 hrung
  refine ⟨m', e', h1, h2, h3.trans ?_⟩
  rw [sgl_least, V, signed_eq]
  congr 1
  rw [show (-149 + (((last - -149).toNat : Nat) : Int) + 1200).toNat = (last + 1200).toNat by omega]
  push_cast
  rw [Int.mul_assoc, ← Int.pow_add]
  congr 2
  omega
/-- Two writings of one number. -/
theorem V_scale {s : Bool} {m n : Nat} {i j : Int} (hi : -1200 ≤ i) (hij : i ≤ j) (h : V s m i = V s n j) : m = n * 2 ^ (j - i).toNat := by
  unfold V at h
  rw [signed_eq, signed_eq, show (j + 1200).toNat = (j - i).toNat + (i + 1200).toNat by omega, Int.pow_add] at h
  have hp := pos_pow (i + 1200).toNat
  have h2 : (m : Int) * 2 ^ (i + 1200).toNat = (n : Int) * 2 ^ (j - i).toNat * 2 ^ (i + 1200).toNat := by
    rw [Int.mul_assoc]
    split at h
    · have := congrArg (fun x : Int => -1 * x) h
      simp only [← Int.mul_assoc] at this ⊢
      simpa using this
    · simpa using h
  have h3 := Int.eq_of_mul_eq_mul_right (by omega) h2
  have h4 : ((m : Nat) : Int) = ((n * 2 ^ (j - i).toNat : Nat) : Int) := by push_cast; exact h3
  exact Int.ofNat.inj h4
theorem near_same {s : Bool} {m n : Nat} {e j : Int} (h0 : m ≠ 0) (hm : m.log2 ≤ 23) (he : -149 ≤ e) (hj : -1200 ≤ j) (h : V s n j = V s m e) : single.nearest s n j = single.nearest s m e := by
  have hf : ((single.fractionBits : Nat) : Int) = 23 := rfl
  by_cases hje : j ≤ e
  · have h1 := V_scale hj hje h
    have h2 := nearest_scale single s m e (e - j).toNat h0 (by rw [hf, sgl_least]; omega)
    rw [← h1, show e - ((e - j).toNat : Int) = j by omega] at h2
    exact h2
  · have h1 := V_scale (by omega) (show e ≤ j by omega) h.symm
    have n0 : n ≠ 0 := by intro hn; subst hn; exact h0 (by rw [h1]; simp)
    have hl := log2_pow n (j - e).toNat n0
    rw [← h1] at hl
    have h2 := nearest_scale single s n j (j - e).toNat n0 (by rw [hf, sgl_least]; omega)
    rw [← h1, show j - ((j - e).toNat : Int) = e by omega] at h2
    exact h2.symm
theorem log2_le {m k : Nat} (h : m < 2 ^ (k + 1)) : m.log2 ≤ k := by
  by_cases h0 : m = 0
  · subst h0; simp
  · have := (log2_bounds h0).1
    rcases Nat.lt_or_ge k m.log2 with h1 | h1
    · have := Nat.pow_le_pow_right (n := 2) (by omega) (show k + 1 ≤ m.log2 by omega)
      omega
    · exact h1
theorem widen_num {t y : Nat} {s : Bool} {m : Nat} {e : Int} (h1 : single.read t = .number s m e) (h : widen t = some y) : y = double.nearest s m e ∧ ¬ (double.read y).isInfinity = true := by
  by_cases hi : (double.read (double.nearest s m e)).isInfinity = true
  · have : widen t = none := by
      unfold widen floatToFloatBits
      rw [if_neg (by decide)]
      simp only [FloatKind.decode, FloatKind.format, h1, FloatKind.encode, Format.write]
      exact if_pos hi
    rw [this] at h; cases h
  · have : widen t = some (double.nearest s m e) := by
      unfold widen floatToFloatBits
      rw [if_neg (by decide)]
      simp only [FloatKind.decode, FloatKind.format, h1, FloatKind.encode, Format.write]
      exact if_neg hi
    rw [this] at h
    obtain rfl := Option.some.inj h
    exact ⟨rfl, hi⟩
theorem narrow_num {y : Nat} {s : Bool} {m : Nat} {e : Int} (h1 : double.read y = .number s m e) (hi : ¬ (single.read (single.nearest s m e)).isInfinity = true) : narrow y = some (single.nearest s m e) := by
  unfold narrow floatToFloatBits
  rw [if_neg (by decide)]
  simp only [FloatKind.decode, FloatKind.format, h1, FloatKind.encode, Format.write]
  exact if_neg hi
/-- The double of a single goes through single precision unchanged. -/
theorem f32ok_widen {t y : Nat} (h : widen t = some y) : f32ok y = true := by
  cases hn : (single.read t).isNaN
  case true =>
    exfalso
    unfold widen floatToFloatBits at h
    rw [if_neg (by decide)] at h
    cases hr : single.read t <;> rw [hr] at hn <;> first | cases hn | skip
    simp [FloatKind.decode, FloatKind.format, hr] at h
  case false =>
  cases hi : (single.read t).isInfinity
  · obtain ⟨s, m, e, h1, h2, h3, h4⟩ := read_single hn hi
    have hy := (widen_num h1 h).1
    by_cases h0 : m = 0
    · subst h0
      have : y = double.word s 0 := by rw [hy]; unfold Format.nearest; rw [if_pos rfl]
      rw [this]
      cases s <;> decide
    · have hl : m.log2 ≤ 23 := log2_le h4
      obtain ⟨m', e', g1, g2, g3⟩ := exact_double s m e h0 (by omega) (by omega) (by omega)
      rw [← hy] at g1
      obtain ⟨m2, e2, k1, k2, k3⟩ := exact_single s m e h0 hl h2 (by omega)
      have hnar : narrow y = some (single.nearest s m e) := by
        rw [narrow_num g1 (by rw [near_same h0 hl h2 g2 g3, k1]; simp [Datum.isInfinity]), near_same h0 hl h2 g2 g3]
      unfold f32ok
      rw [hnar]
      rcases widen_cases (single.nearest s m e) with hb | ⟨z, hz, hc⟩
      · rw [k1] at hb; cases hb
      · simp only [hz]
        rcases hc with ⟨s', hs'⟩ | ⟨s', a, b, a', b', c1, c2, c3, c4, c5, c6, c7⟩
        · exact absurd (by rw [hs']; rfl) (widen_num k1 hz).2
        · rw [k1] at c1
          injection c1 with c1 c8 c9
          subst c1 c8 c9
          unfold feq Format.order
          rw [c2, g1, order_eq _ _ _ _ _ _ c6 g2, c7, k3, g3]
          simp
  · cases hr : single.read t <;> rw [hr] at hi <;> first | cases hi | skip
    rename_i s
    have hy : y = double.write (.infinity s) := by
      unfold widen floatToFloatBits at h
      rw [if_neg (by decide)] at h
      simp only [FloatKind.decode, FloatKind.format, hr, FloatKind.encode] at h
      exact (Option.some.inj h).symm
    rw [hy]
    cases s <;> decide
/-- The word is a whole number's. -/
def IntOf (n : Int) (x : Nat) : Prop := ∃ s m e, double.read x = .number s m e ∧ -1200 ≤ e ∧ V s m e = n * 2 ^ 1200
theorem V_int (n : Int) : V (decide (n < 0)) n.natAbs 0 = n * 2 ^ 1200 := by
  unfold V
  rw [signed_eq, show ((0 : Int) + 1200).toNat = 1200 from rfl, ← Int.mul_assoc]
  generalize (2 : Int) ^ 1200 = p
  congr 1
  by_cases h : n < 0 <;> simp [h] <;> omega
theorem int_exact {n : Int} (h : n.natAbs < 2 ^ 53) : IntOf n (FloatKind.f64.nearest n) := by
  unfold FloatKind.nearest FloatKind.encode FloatKind.format
  simp only [Format.write]
  by_cases h0 : n = 0
  · subst h0; exact ⟨false, 0, -1074, by decide, by omega, by rw [V_zero, Int.zero_mul]⟩
  · have hl : n.natAbs.log2 ≤ 52 := log2_le h
    obtain ⟨m, e, h1, h2, h3⟩ := exact_double (decide (n < 0)) n.natAbs 0 (by omega) hl (by omega) (by omega)
    exact ⟨_, m, e, h1, h2, h3.trans (V_int n)⟩
theorem int_single {n : Int} (h : n.natAbs < 2 ^ 24) : ∃ y, widen (FloatKind.f32.nearest n) = some y ∧ IntOf n y := by
  unfold FloatKind.nearest FloatKind.encode FloatKind.format
  simp only [Format.write]
  by_cases h0 : n = 0
  · subst h0; exact ⟨0, by decide, false, 0, -1074, by decide, by omega, by rw [V_zero, Int.zero_mul]⟩
  · have hl : n.natAbs.log2 ≤ 23 := log2_le h
    obtain ⟨m, e, h1, h2, h3⟩ := exact_single (decide (n < 0)) n.natAbs 0 (by omega) hl (by omega) (by omega)
    rcases widen_cases (single.nearest (decide (n < 0)) n.natAbs 0) with hb | ⟨z, hz, hc⟩
    · rw [h1] at hb; cases hb
    · refine ⟨z, hz, ?_⟩
      rcases hc with ⟨s', hs'⟩ | ⟨s', a, b, a', b', c1, c2, c3, c4, c5, c6, c7⟩
      · exact absurd (by rw [hs']; rfl) (widen_num h1 hz).2
      · rw [h1] at c1
        injection c1 with c1 c8 c9
        subst c1 c8 c9
        exact ⟨_, a', b', c2, c6, by rw [c7, h3, V_int]⟩
theorem int_order {n k : Int} {x y : Nat} (hx : IntOf n x) (hy : IntOf k y) : double.order x y = some (compare n k) := by
  obtain ⟨s, m, e, h1, h2, h3⟩ := hx
  obtain ⟨t, m', e', g1, g2, g3⟩ := hy
  unfold Format.order
  rw [h1, g1, order_num _ _ _ _ _ _ h2 g2, h3, g3]
  have hp := pos_pow 1200
  generalize (2 : Int) ^ 1200 = c at hp
  congr 1
  rcases Int.lt_trichotomy n k with h | h | h
  · have h' : n * c < k * c := Int.mul_lt_mul_of_pos_right h hp
    simp [compare, compareOfLessAndEq, h, h']
  · subst h; simp [compare, compareOfLessAndEq]
  · have h' : k * c < n * c := Int.mul_lt_mul_of_pos_right h hp
    have n1 : ¬ n < k := by omega
    have n2 : ¬ n = k := by omega
    have n3 : ¬ n * c < k * c := by omega
    have n4 : ¬ n * c = k * c := by omega
    simp [compare, compareOfLessAndEq, n1, n2, n3, n4]
theorem int_back {n : Int} {x : Nat} (hx : IntOf n x) : (double.read x).toInt .zero = some n := by
  obtain ⟨s, m, e, h1, h2, h3⟩ := hx
  have hp := pos_pow 1200
  have hs : V s m e = V s n.natAbs 0 ∧ (n ≠ 0 → s = decide (n < 0)) := by
    have hA : (0 : Int) ≤ (m : Int) * 2 ^ (e + 1200).toNat := Int.mul_nonneg (by omega) (Int.le_of_lt (pos_pow _))
    unfold V at h3 ⊢
    rw [signed_eq] at h3
    rw [signed_eq, signed_eq, show ((0 : Int) + 1200).toNat = 1200 from rfl]
    generalize (m : Int) * 2 ^ (e + 1200).toNat = A at *
    generalize (2 : Int) ^ 1200 = p at *
    rcases Int.lt_trichotomy n 0 with h | h | h
    · have hn : n * p < 0 := Int.mul_neg_of_neg_of_pos h hp
      have e1 : (n.natAbs : Int) = -n := by omega
      cases s
      · simp at h3; omega
      · rw [e1]; simp at h3 ⊢; exact ⟨by rw [Int.neg_mul]; omega, fun _ => h⟩
    · subst h; simp at h3 ⊢; cases s <;> simp at h3 ⊢ <;> omega
    · have hn : 0 < n * p := Int.mul_pos h hp
      have e1 : (n.natAbs : Int) = n := by omega
      cases s
      · rw [e1]; simp at h3 ⊢; exact ⟨by omega, fun _ => by omega⟩
      · simp at h3; omega
  unfold Datum.toInt
  rw [h1]
  simp only [Datum.integral]
  have key : Toward.zero.cut s (m <<< e.toNat) (-e).toNat = n.natAbs := by
    rw [Nat.shiftLeft_eq]
    by_cases he : e ≤ 0
    · have := V_scale h2 he hs.1
      rw [show e.toNat = 0 by omega, Nat.pow_zero, Nat.mul_one, this, show (0 - e).toNat = (-e).toNat by omega]
      by_cases hn : n.natAbs = 0
      · rw [hn, Nat.zero_mul]; unfold Toward.cut; simp
      · exact cut_exact _ _ _ _ hn
    · have := V_scale (i := 0) (by omega) (by omega) hs.1.symm
      rw [show (-e).toNat = 0 by omega, this, show (e - 0).toNat = e.toNat by omega]
      unfold Toward.cut
      simp
  rw [key]
  unfold signed
  by_cases hn : n = 0
  · subst hn; cases s <;> rfl
  · rw [hs.2 hn]
    by_cases h : n < 0 <;> simp [h] <;> omega
end Go.Proofs.YtpmdgmnpkdoamabGreatDoor.Fl
