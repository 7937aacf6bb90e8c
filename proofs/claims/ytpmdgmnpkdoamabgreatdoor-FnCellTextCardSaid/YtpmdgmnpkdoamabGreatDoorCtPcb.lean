/- Proved here: a finite double is told by its sign and its size; doubling and halving it step by step is exact. Conditions: the double is finite. -/
import Derived.Test.YtpmdgmnpkdoamabGreatDoorCtFci
namespace Go.Proofs.YtpmdgmnpkdoamabGreatDoor.Vc
open Go.RowKit Fl Prom Go.Proofs.YtpmdgmnpkdoamabGreatDoorW.PrintWords
open Ieee (double Format Datum)
set_option linter.unusedVariables false
set_option linter.unusedSimpArgs false
theorem sub_word {s : Bool} {n x : Nat} (h : Sub s n x) : x = (if s then negZero else 0) + n := by
  obtain ⟨hx, h1, h0, h2⟩ := h
  unfold Format.read at h1
  simp only [dbl_binade, dbl_inf, dbl_least, dbl_sign] at h1
  have hmod : x % negZero < negZero := Nat.mod_lt _ (by decide)
  have hdiv : x = negZero * (x / negZero) + x % negZero := (Nat.div_add_mod x negZero).symm
  have hq : x / negZero < 2 := by unfold negZero; omega
  generalize hr : x % negZero = rung at *
  by_cases c1 : rung < 2 ^ 52
  · rw [if_pos c1] at h1
    simp only [Datum.number.injEq] at h1
    obtain ⟨a1, a2, a3⟩ := h1
    have hs : x / negZero = if s then 1 else 0 := by
      generalize x / negZero = q at a1 hq
      cases s
      · have : ¬ q % 2 = 1 := by simpa using a1
        show q = 0
        omega
      · have : q % 2 = 1 := by simpa using a1
        show q = 1
        omega
    rw [hdiv, hs, a2]
    cases s <;> simp
  · rw [if_neg c1] at h1
    by_cases c2 : rung < 2047 * 2 ^ 52
    · rw [if_pos c2] at h1
      simp only [Datum.number.injEq] at h1
      omega
    · rw [if_neg c2] at h1
      split at h1 <;> cases h1
theorem pow_lt_of {m m' E E' : Nat} (h : m * 2 ^ E = m' * 2 ^ E') (hm' : 2 ^ 52 ≤ m') (hm : m < 2 ^ 53) : E' ≤ E := by
  rcases Nat.lt_or_ge E E' with hlt | hge
  · exfalso
    have : m = m' * 2 ^ (E' - E) := by
      have h2 : m * 2 ^ E = m' * 2 ^ (E' - E) * 2 ^ E := by rw [h, Nat.mul_assoc, ← Nat.pow_add]; congr 2; omega
      exact Nat.eq_of_mul_eq_mul_right (Nat.two_pow_pos E) h2
    obtain ⟨d, hd⟩ : ∃ d, E' - E = d + 1 := ⟨E' - E - 1, by omega⟩
    rw [hd, Nat.pow_succ] at this
    have h3 := Nat.two_pow_pos d
    have h4 : m' * 1 ≤ m' * 2 ^ d := Nat.mul_le_mul_left _ h3
    rw [← Nat.mul_assoc] at this
    omega
  · exact hge
/-- One word for a sign and a size. -/
theorem val_inj {s : Bool} {A x y : Nat} (hx : x < 18446744073709551616) (hy : y < 18446744073709551616) (hA : A ≠ 0) (h : Val s A x) (k : Val s A y) : x = y := by
  rcases nrm_or_sub hx h hA with ⟨m, e, hN, he⟩ | ⟨n, hS, he⟩
  · rcases nrm_or_sub hy k hA with ⟨m', e', hN', he'⟩ | ⟨n', hS', he'⟩
    · have b1 := hN.2.2
      have b2 := hN'.2.2
      have eq := he.symm.trans he'
      have l1 := pow_lt_of eq b2.1 b1.2.1
      have l2 := pow_lt_of eq.symm b1.1 b2.2.1
      have ee : e = e' := by omega
      subst ee
      have mm := Nat.eq_of_mul_eq_mul_right (Nat.two_pow_pos _) eq
      subst mm
      rw [nrm_word hN, nrm_word hN']
    · exfalso
      have b1 := hN.2.2
      have eq := he.symm.trans he'
      have h3 : 2 ^ 52 * 2 ^ 126 ≤ m * 2 ^ (e + 1200).toNat := Nat.mul_le_mul b1.1 (Nat.pow_le_pow_right (by omega) (by omega))
      have h4 : n' * 2 ^ 126 < 2 ^ 52 * 2 ^ 126 := Nat.mul_lt_mul_of_pos_right hS'.2.2.2 (Nat.two_pow_pos 126)
      omega
  · rcases nrm_or_sub hy k hA with ⟨m', e', hN', he'⟩ | ⟨n', hS', he'⟩
    · exfalso
      have b1 := hN'.2.2
      have eq := he.symm.trans he'
      have h3 : 2 ^ 52 * 2 ^ 126 ≤ m' * 2 ^ (e' + 1200).toNat := Nat.mul_le_mul b1.1 (Nat.pow_le_pow_right (by omega) (by omega))
      have h4 : n * 2 ^ 126 < 2 ^ 52 * 2 ^ 126 := Nat.mul_lt_mul_of_pos_right hS.2.2.2 (Nat.two_pow_pos 126)
      omega
    · have nn := Nat.eq_of_mul_eq_mul_right (Nat.two_pow_pos 126) (he.symm.trans he')
      subst nn
      rw [sub_word hS, sub_word hS']
theorem val_half {s : Bool} {o k x : Nat} (h : Val s (o * 2 ^ k) x) (ho : o % 2 = 1) (hk : 127 ≤ k) : ∃ y, double.div x TWO = some y ∧ Val s (o * 2 ^ (k - 1)) y := by
  obtain ⟨m, e, h1, h2, h3, h4, h5⟩ := h
  have h0 : m ≠ 0 := by
    rintro rfl
    rw [Nat.zero_mul] at h5
    have := Nat.mul_pos (show 0 < o by omega) (Nat.two_pow_pos k)
    omega
  have hl := log2_le (k := 52) h4
  have hk' : o * 2 ^ k = 2 * (o * 2 ^ (k - 1)) := by
    obtain ⟨d, rfl⟩ : ∃ d, k = d + 1 := ⟨k - 1, by omega⟩
    rw [Nat.pow_succ, Nat.add_sub_cancel]
    simp [Nat.mul_comm, Nat.mul_left_comm]
  obtain ⟨j, hj⟩ : ∃ j, 54 + 52 - m.log2 = 52 + j := ⟨54 - m.log2, by omega⟩
  have hdiv : double.div x TWO = some (double.nearest s (m * 2 ^ (j + 1)) (e - 1 - ((j + 1 : Nat) : Int))) := by
    unfold Format.div
    rw [h1, two_read]
    simp only [Datum.quotient, Bool.xor_false]
    rw [if_neg (by decide)]
    simp only [Option.map_some, Format.write, Nat.log2_two_pow, show double.fractionBits + 2 = 54 from rfl, Nat.shiftLeft_eq]
    rw [hj, Nat.pow_add, ← Nat.mul_assoc, Nat.mul_comm m, Nat.mul_assoc, Nat.mul_div_cancel_left _ (Nat.two_pow_pos 52), Nat.mul_mod_right, Nat.pow_succ]
    congr 2
    · simp [Nat.mul_comm, Nat.mul_left_comm]
    · push_cast; omega
  by_cases he : -1073 ≤ e
  · refine ⟨double.nearest s m (e - 1), hdiv.trans (congrArg some (nearest_scale double s m (e - 1) (j + 1) h0 (by rw [dbl_least, show (double.fractionBits : Int) = 52 from rfl]; omega))), ?_⟩
    have hv := val_near s m (e - 1) h0 h4 (by omega) (by omega)
    have e6 : o * 2 ^ (k - 1) = m * 2 ^ (e - 1 + 1200).toNat := by
      have h6 : 2 * (o * 2 ^ (k - 1)) = 2 * (m * 2 ^ (e - 1 + 1200).toNat) := by
        rw [← hk', h5, show (e + 1200).toNat = (e - 1 + 1200).toNat + 1 by omega, Nat.pow_succ]
        simp [Nat.mul_comm, Nat.mul_left_comm]
      omega
    rw [e6]
    exact hv
  · have ee : e = -1074 := by omega
    subst ee
    obtain ⟨d, hd⟩ : ∃ d, k = 126 + (d + 1) := ⟨k - 127, by omega⟩
    have hm : m = 2 * (o * 2 ^ d) := by
      have h6 : m * 2 ^ 126 = 2 * (o * 2 ^ d) * 2 ^ 126 := by
        rw [show ((-1074 : Int) + 1200).toNat = 126 from rfl] at h5
        rw [← h5, hd, Nat.pow_add, Nat.pow_succ 2 d]
        generalize 2 ^ 126 = q
        generalize 2 ^ d = p
        simp only [Nat.mul_comm, Nat.mul_left_comm, Nat.mul_assoc]
      exact Nat.eq_of_mul_eq_mul_right (Nat.two_pow_pos 126) h6
    obtain ⟨M, hM⟩ : ∃ M, M = o * 2 ^ d := ⟨_, rfl⟩
    rw [← hM] at hm
    have hM0 : M ≠ 0 := by omega
    have hMl : M.log2 ≤ 52 := log2_le (k := 52) (by omega)
    have hsc := nearest_scale double s M (-1074) (j + 2) hM0 (by rw [dbl_least, show (double.fractionBits : Int) = 52 from rfl]; omega)
    refine ⟨double.nearest s M (-1074), hdiv.trans (congrArg some ?_), ?_⟩
    · rw [← hsc, hm, show j + 2 = (j + 1) + 1 from rfl, Nat.pow_succ 2 (j + 1)]
      congr 1
      · generalize 2 ^ (j + 1) = p
        simp only [Nat.mul_comm, Nat.mul_left_comm, Nat.mul_assoc]
      · push_cast; omega
    · have hv := val_near s M (-1074) hM0 (by omega) (by omega) (by omega)
      have e6 : o * 2 ^ (k - 1) = M * 2 ^ ((-1074 : Int) + 1200).toNat := by
        rw [show ((-1074 : Int) + 1200).toNat = 126 from rfl, hM, hd, show 126 + (d + 1) - 1 = d + 126 by omega, Nat.pow_add, Nat.mul_assoc]
      rw [e6]
      exact hv
end Go.Proofs.YtpmdgmnpkdoamabGreatDoor.Vc
