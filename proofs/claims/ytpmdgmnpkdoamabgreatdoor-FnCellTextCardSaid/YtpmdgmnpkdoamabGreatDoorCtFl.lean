/- Proved here: facts on floating-point words as the model has them: order, zeros, NaN, what goes through single precision and back. Conditions: the words are of their kind where a theorem says so. -/
import Derived.Laws.FloatArith
namespace Go.Proofs.YtpmdgmnpkdoamabGreatDoor.Fl
open Go Ieee
/-- A number's value, scaled by 2 to the 1200: whole for all data of both formats. -/
def V (s : Bool) (m : Nat) (e : Int) : Int := signed s m (e + 1200).toNat
theorem signed_eq (s : Bool) (m k : Nat) : signed s m k = (if s then -1 else 1) * ((m : Int) * 2 ^ k) := by
  unfold signed
  rw [Nat.shiftLeft_eq]
  split <;> push_cast <;> omega
theorem pow_split {a b : Nat} (c : Nat) (h : b = a + c) : (2 : Int) ^ b = 2 ^ a * 2 ^ c := by rw [h, Int.pow_add]
theorem pos_pow (k : Nat) : (0 : Int) < 2 ^ k := Int.pow_pos (by omega)
theorem order_num (s t : Bool) (m n : Nat) (i j : Int) (hi : -1200 ≤ i) (hj : -1200 ≤ j) :
    Datum.order (.number s m i) (.number t n j) = some (compare (V s m i) (V t n j)) := by
  simp only [Datum.order]
  congr 1
  have hb : -1200 ≤ min i j := by omega
  have e1 := pow_split (a := (i - min i j).toNat) (b := (i + 1200).toNat) ((min i j + 1200).toNat) (by omega)
  have e2 := pow_split (a := (j - min i j).toNat) (b := (j + 1200).toNat) ((min i j + 1200).toNat) (by omega)
  have hp := pos_pow (min i j + 1200).toNat
  simp only [V, signed_eq, e1, e2]
  generalize (2 : Int) ^ (min i j + 1200).toNat = c at hp
  generalize (2 : Int) ^ (i - min i j).toNat = a
  generalize (2 : Int) ^ (j - min i j).toNat = b
  rw [show (if s = true then (-1 : Int) else 1) * ((m : Int) * (a * c)) = ((if s = true then (-1 : Int) else 1) * ((m : Int) * a)) * c by simp only [Int.mul_assoc]]
  rw [show (if t = true then (-1 : Int) else 1) * ((n : Int) * (b * c)) = ((if t = true then (-1 : Int) else 1) * ((n : Int) * b)) * c by simp only [Int.mul_assoc]]
  generalize (if s = true then (-1 : Int) else 1) * ((m : Int) * a) = x
  generalize (if t = true then (-1 : Int) else 1) * ((n : Int) * b) = y
  rcases Int.lt_trichotomy x y with h | h | h
  · have h' : x * c < y * c := Int.mul_lt_mul_of_pos_right h hp
    simp [compare, compareOfLessAndEq, h, h']
  · subst h; simp [compare, compareOfLessAndEq]
  · have h' : y * c < x * c := Int.mul_lt_mul_of_pos_right h hp
    have n1 : ¬ x < y := by omega
    have n2 : ¬ x = y := by omega
    have n3 : ¬ x * c < y * c := by omega
    have n4 : ¬ x * c = y * c := by omega
    simp [compare, compareOfLessAndEq, n1, n2, n3, n4]
theorem order_eq (s t : Bool) (m n : Nat) (i j : Int) (hi : -1200 ≤ i) (hj : -1200 ≤ j) :
    (Datum.order (.number s m i) (.number t n j) == some .eq) = decide (V s m i = V t n j) := by
  rw [order_num s t m n i j hi hj]
  generalize V s m i = x
  generalize V t n j = y
  by_cases h : x = y
  · subst h; simp [compare, compareOfLessAndEq]
  · by_cases h2 : x < y <;> simp [compare, compareOfLessAndEq, h, h2]
theorem V_zero (s : Bool) (e : Int) : V s 0 e = 0 := by simp [V, signed_eq]
theorem V_ne {s : Bool} {m : Nat} {e : Int} (h : m ≠ 0) : V s m e ≠ 0 := by
  have := pos_pow (e + 1200).toNat
  have hm : (0 : Int) < (m : Int) := by omega
  have := Int.mul_pos hm this
  simp only [V, signed_eq]
  split <;> omega

theorem read_word (f : Format) (neg : Bool) (rung : Nat) (h : rung < f.infRung) :
    f.read (f.word neg rung) = if rung < f.binade then .number neg rung f.leastPlace else .number neg (f.binade + rung % f.binade) (f.leastPlace + (rung / f.binade - 1 : Nat)) := by
  have hs := f.infRung_lt
  have hw : f.word neg rung % f.signWeight = rung := by
    unfold Format.word
    split
    · rw [Nat.add_mod_left, Nat.mod_eq_of_lt (by omega)]
    · exact Nat.mod_eq_of_lt (by omega)
  have hn : (f.word neg rung / f.signWeight % 2 == 1) = neg := by
    unfold Format.word
    have hp : 0 < f.signWeight := by omega
    cases neg
    · simp [Nat.div_eq_of_lt (show rung < f.signWeight by omega)]
    · simp [Nat.add_div_left _ hp, Nat.div_eq_of_lt (show rung < f.signWeight by omega)]
  unfold Format.read
  simp only [hw, hn, h, if_true]
theorem V_rung (f : Format) (neg : Bool) (d kept : Nat) (hl : -1200 ≤ f.leastPlace) (hk : kept ≤ 2 * f.binade) (hd : d = 0 ∨ f.binade ≤ kept) (h : d * f.binade + kept < f.infRung) :
    ∃ m e, f.read (f.word neg (d * f.binade + kept)) = .number neg m e ∧ -1200 ≤ e ∧ V neg m e = (if neg then -1 else 1) * ((kept : Int) * 2 ^ (f.leastPlace + d + 1200).toNat) := by
  have hB : 0 < f.binade := Nat.two_pow_pos _
  rw [read_word f neg _ h]
  generalize hBe : f.binade = B at *
  generalize hLe : f.leastPlace = L at *
  by_cases hlt : d * B + kept < B
  · rw [if_pos hlt]
    have hd0 : d = 0 := by
      rcases hd with h0 | h0
      · exact h0
      · have : 0 ≤ d * B := Nat.zero_le _; omega
    subst hd0
    refine ⟨_, _, rfl, hl, ?_⟩
    simp [V, signed_eq]
  · rw [if_neg hlt]
    by_cases hk1 : kept < 2 * B
    · have hkB : B ≤ kept := by
        rcases hd with h0 | h0
        · subst h0; simp at hlt; omega
        · exact h0
      have e1 : d * B + kept = (kept - B) + B * (d + 1) := by rw [Nat.mul_add, Nat.mul_comm B d]; omega
      have hdiv : (d * B + kept) / B = d + 1 := by rw [e1, Nat.add_mul_div_left _ _ hB, Nat.div_eq_of_lt (by omega)]; omega
      have hmod : (d * B + kept) % B = kept - B := by rw [e1, Nat.add_mul_mod_self_left, Nat.mod_eq_of_lt (by omega)]
      refine ⟨_, _, rfl, by omega, ?_⟩
      rw [hdiv, hmod]
      have e2 : B + (kept - B) = kept := by omega
      have e3 : (L + ((d + 1 - 1 : Nat) : Int) + 1200).toNat = (L + d + 1200).toNat := by omega
      rw [e2]
      unfold V
      rw [e3, signed_eq]
    · have hk2 : kept = 2 * B := by omega
      subst hk2
      have e1 : d * B + 2 * B = B * (d + 2) := by rw [Nat.mul_add, Nat.mul_comm B d, Nat.mul_comm B 2]
      have hdiv : (d * B + 2 * B) / B = d + 2 := by rw [e1, Nat.mul_div_cancel_left _ hB]
      have hmod : (d * B + 2 * B) % B = 0 := by rw [e1, Nat.mul_mod_right]
      refine ⟨_, _, rfl, by omega, ?_⟩
      rw [hdiv, hmod]
      have e3 : (L + ((d + 2 - 1 : Nat) : Int) + 1200).toNat = (L + d + 1200).toNat + 1 := by omega
      unfold V
      rw [e3, signed_eq, Nat.add_zero, Int.pow_succ]
      push_cast
      congr 1
      rw [Int.mul_comm ((2 : Int) ^ _) 2, ← Int.mul_assoc, Int.mul_comm (B : Int) 2]
theorem cut_none (neg : Bool) (n : Nat) : Toward.even.cut neg n 0 = n := by
  simp [Toward.cut, Nat.mod_one]
theorem log2_bounds {m : Nat} (h : m ≠ 0) : 2 ^ m.log2 ≤ m ∧ m < 2 ^ (m.log2 + 1) := ⟨Nat.log2_self_le h, Nat.lt_log2_self⟩
theorem dbl_binade : double.binade = 2 ^ 52 := rfl
theorem dbl_least : double.leastPlace = -1074 := by decide
theorem sgl_binade : single.binade = 2 ^ 23 := rfl
theorem sgl_least : single.leastPlace = -149 := by decide
theorem dbl_inf : double.infRung = 2047 * 2 ^ 52 := by decide
theorem sgl_inf : single.infRung = 255 * 2 ^ 23 := by decide
/-- A number of at most 53 digits, not too great and not below the least place, is written exactly. -/
theorem exact_double (s : Bool) (m : Nat) (e : Int) (h0 : m ≠ 0) (hm : m.log2 ≤ 52) (he : -1074 ≤ e) (hh : e + m.log2 ≤ 1000) :
    ∃ m' e', double.read (double.nearest s m e) = .number s m' e' ∧ -1200 ≤ e' ∧ V s m' e' = V s m e := by
  obtain ⟨lo, hi⟩ := log2_bounds h0
  unfold Format.nearest
  rw [if_neg h0]
  simp only [dbl_least, show (double.fractionBits : Int) = 52 from rfl]
  obtain ⟨last, hlast⟩ : ∃ last : Int, max (e + m.log2 - 52) (-1074) = last := ⟨_, rfl⟩
  rw [hlast]
  have hle : last ≤ e := by omega
  have hge : -1074 ≤ last := by omega
  rw [show (last - e).toNat = 0 by omega, cut_none, Nat.shiftLeft_eq]
  have hkept : m * 2 ^ (e - last).toNat ≤ 2 * 2 ^ 52 ∧ ((last - -1074).toNat = 0 ∨ 2 ^ 52 ≤ m * 2 ^ (e - last).toNat) := by
    have up : m * 2 ^ (e - last).toNat < 2 ^ (m.log2 + 1 + (e - last).toNat) := by rw [Nat.pow_add]; exact Nat.mul_lt_mul_of_pos_right hi (Nat.two_pow_pos _)
    have dn : 2 ^ (m.log2 + (e - last).toNat) ≤ m * 2 ^ (e - last).toNat := by rw [Nat.pow_add]; exact Nat.mul_le_mul_right _ lo
    have up2 : (2 : Nat) ^ (m.log2 + 1 + (e - last).toNat) ≤ 2 ^ 53 := Nat.pow_le_pow_right (by omega) (by omega)
    refine ⟨by omega, ?_⟩
    by_cases hl : last = -1074
    · left; omega
    · right
      have : m.log2 + (e - last).toNat = 52 := by omega
      rw [this] at dn; exact dn
  have hrung : (last - -1074).toNat * double.binade + m * 2 ^ (e - last).toNat < double.infRung := by
    rw [dbl_inf, dbl_binade]
    have : (last - -1074).toNat ≤ 2040 := by omega
    have := Nat.mul_le_mul_right (2 ^ 52) this
    omega
  rw [Nat.min_eq_left (by omega)]
  obtain ⟨m', e', h1, h2, h3⟩ := V_rung double s (last - -1074).toNat (m * 2 ^ (e - last).toNat) (by rw [dbl_least]; omega) hkept.1 hkept.2 hrung
  refine ⟨m', e', h1, h2, h3.trans ?_⟩
  rw [dbl_least, V, signed_eq]
  congr 1
  rw [show (-1074 + (((last - -1074).toNat : Nat) : Int) + 1200).toNat = (last + 1200).toNat by omega]
  push_cast
  rw [Int.mul_assoc, ← Int.pow_add]
  congr 2
  omega
/-- A finite single is a number of at most 24 digits, between the least place and place 104. -/
theorem read_single {t : Nat} (h : (single.read t).isNaN = false) (h2 : (single.read t).isInfinity = false) :
    ∃ s m e, single.read t = .number s m e ∧ -149 ≤ e ∧ e ≤ 104 ∧ m < 2 ^ 24 := by
  unfold Format.read at h h2 ⊢
  simp only [sgl_binade, sgl_inf, sgl_least] at h h2 ⊢
  generalize t % single.signWeight = rung at *
  by_cases h3 : rung < 2 ^ 23
  · rw [if_pos h3]; exact ⟨_, _, _, rfl, by omega, by omega, by omega⟩
  · rw [if_neg h3] at h h2 ⊢
    by_cases h4 : rung < 255 * 2 ^ 23
    · rw [if_pos h4]
      have h5 : rung / 2 ^ 23 < 255 := Nat.div_lt_of_lt_mul (by omega)
      exact ⟨_, _, _, rfl, by omega, by omega, by omega⟩
    · rw [if_neg h4] at h h2
      by_cases h5 : rung = 255 * 2 ^ 23
      · rw [if_pos h5] at h2; cases h2
      · rw [if_neg h5] at h; cases h
/-- The place of the last digit of the greatest finite single, scaled. -/
def K : Nat := 1304
theorem K_eq : K = 1304 := rfl
theorem big_of_last {m : Nat} {e last : Int} (h0 : m ≠ 0) (hl : 105 ≤ last) (hlast : last = e + m.log2 - 23) (he : -1074 ≤ e) :
    ((2 : Int) ^ 24 - 1) * 2 ^ K < (m : Int) * 2 ^ (e + 1200).toNat := by
  obtain ⟨lo, hi⟩ := log2_bounds h0
  have hK := K_eq
  generalize K = k at *
  have dn : (2 : Int) ^ m.log2 ≤ (m : Int) := by exact_mod_cast lo
  have d2 : (2 : Int) ^ m.log2 * 2 ^ (e + 1200).toNat ≤ (m : Int) * 2 ^ (e + 1200).toNat := Int.mul_le_mul_of_nonneg_right dn (Int.le_of_lt (pos_pow _))
  rw [← Int.pow_add] at d2
  have d3 : (2 : Int) ^ (24 + k) ≤ 2 ^ (m.log2 + (e + 1200).toNat) := by
    have hn : 24 + k ≤ m.log2 + (e + 1200).toNat := by omega
    clear hK
    have h := Nat.pow_le_pow_right (n := 2) (by omega) hn
    have h' := Int.ofNat_le.2 h
    rw [Int.natCast_pow, Int.natCast_pow] at h'
    exact h'
  have d4 : ((2 : Int) ^ 24 - 1) * 2 ^ k < 2 ^ (24 + k) := by
    rw [Int.pow_add]
    have := pos_pow k
    exact Int.mul_lt_mul_of_pos_right (by omega) this
  exact Int.lt_of_lt_of_le d4 (Int.le_trans d3 d2)
/-- A number that single precision has not room for is greater than every finite single. -/
theorem over_single (s : Bool) (m : Nat) (e : Int) (h0 : m ≠ 0) (he : -1074 ≤ e) (hov : (single.read (single.nearest s m e)).isInfinity = true) :
    ((2 : Int) ^ 24 - 1) * 2 ^ K < (m : Int) * 2 ^ (e + 1200).toNat := by
  obtain ⟨lo, hi⟩ := log2_bounds h0
  unfold Format.nearest at hov
  rw [if_neg h0] at hov
  simp only [sgl_least, show (single.fractionBits : Int) = 23 from rfl] at hov
  obtain ⟨last, hlast⟩ : ∃ last : Int, max (e + m.log2 - 23) (-149) = last := ⟨_, rfl⟩
  rw [hlast] at hov
  obtain ⟨kept, hk⟩ : ∃ kept, Toward.even.cut s (m <<< (e - last).toNat) (last - e).toNat = kept := ⟨_, rfl⟩
  rw [hk] at hov
  have hbig : single.infRung ≤ (last - -149).toNat * single.binade + kept := by
    rcases Nat.lt_or_ge ((last - -149).toNat * single.binade + kept) single.infRung with hlt | hge
    · rw [Nat.min_eq_left (by omega), read_word single s _ hlt] at hov
      split at hov <;> cases hov
    · exact hge
  rw [sgl_inf, sgl_binade] at hbig
  have far : ∀ d : Nat, (last - -149).toNat < d → (d - 1) * 2 ^ 23 + kept < 255 * 2 ^ 23 → False := by
    intro d hd hlt
    have h1 : (last - -149).toNat ≤ d - 1 := by omega
    have := Nat.mul_le_mul_right (2 ^ 23) h1
    omega
  by_cases hle : last ≤ e
  · rw [show (last - e).toNat = 0 by omega, cut_none, Nat.shiftLeft_eq] at hk
    have up : m * 2 ^ (e - last).toNat < 2 ^ (m.log2 + 1 + (e - last).toNat) := by rw [Nat.pow_add]; exact Nat.mul_lt_mul_of_pos_right hi (Nat.two_pow_pos _)
    have up2 : (2 : Nat) ^ (m.log2 + 1 + (e - last).toNat) ≤ 2 ^ 24 := Nat.pow_le_pow_right (by omega) (by omega)
    have hl : 105 ≤ last := by
      by_cases h : last < 105
      · exact (far 254 (by omega) (by omega)).elim
      · omega
    exact big_of_last h0 hl (by omega) he
  · rw [show (e - last).toNat = 0 by omega, Nat.shiftLeft_zero] at hk
    by_cases hdrop : (last - e).toNat ≤ m.log2 + 2
    · unfold Toward.cut at hk
      simp only [Nat.min_eq_left hdrop, Nat.shiftLeft_eq, Nat.one_mul] at hk
      obtain ⟨gap, hgap⟩ : ∃ gap, 2 ^ (last - e).toNat = gap := ⟨_, rfl⟩
      rw [hgap] at hk
      have hg0 : 0 < gap := by rw [← hgap]; exact Nat.two_pow_pos _
      have hlow : m / gap < 2 ^ 24 := by
        refine Nat.div_lt_of_lt_mul ?_
        have h1 : (2 : Nat) ^ (m.log2 + 1) ≤ 2 ^ ((last - e).toNat + 24) := Nat.pow_le_pow_right (by omega) (by omega)
        have h2 : (2 : Nat) ^ ((last - e).toNat + 24) = gap * 2 ^ 24 := by rw [Nat.pow_add, hgap]
        rw [h2] at h1
        exact Nat.lt_of_lt_of_le hi h1
      have hmore : ∀ b : Bool, b.toNat ≤ 1 := by intro b; cases b <;> decide
      have hk1 : kept ≤ 2 ^ 24 := by rw [← hk]; have := hmore (decide (gap < 2 * (m % gap)) || (gap == 2 * (m % gap) && m / gap % 2 == 1)); omega
      by_cases hl : 105 ≤ last
      · exact big_of_last h0 hl (by omega) he
      · have hl1 : last = 104 := by
          by_cases h : last < 104
          · exact (far 253 (by omega) (by omega)).elim
          · omega
        subst hl1
        have hk2 : kept = 2 ^ 24 := by
          rw [show (104 - -149 : Int).toNat = 253 from rfl] at hbig
          omega
        rw [hk2] at hk
        have hb := hmore (decide (gap < 2 * (m % gap)) || (gap == 2 * (m % gap) && m / gap % 2 == 1))
        have hlow1 : m / gap = 2 ^ 24 - 1 := by omega
        have hone : (decide (gap < 2 * (m % gap)) || (gap == 2 * (m % gap) && m / gap % 2 == 1)) = true := by
          cases hc : (decide (gap < 2 * (m % gap)) || (gap == 2 * (m % gap) && m / gap % 2 == 1))
          · rw [hc] at hk; simp at hk; omega
          · rfl
        have hrest : 1 ≤ m % gap := by
          simp only [Bool.or_eq_true, decide_eq_true_eq, Bool.and_eq_true, beq_iff_eq] at hone
          omega
        have hm : m = gap * (m / gap) + m % gap := (Nat.div_add_mod m gap).symm
        rw [hlow1] at hm
        have hK := K_eq
        generalize K = k at *
        have hmi : ((2 : Int) ^ 24 - 1) * (gap : Int) < (m : Int) := by
          generalize m % gap = r at *
          have h2 : (m : Int) = (gap : Int) * ((2 ^ 24 - 1 : Nat) : Int) + (r : Int) := by exact_mod_cast hm
          have h3 : ((2 ^ 24 - 1 : Nat) : Int) = (2 : Int) ^ 24 - 1 := by decide
          rw [h3, Int.mul_comm] at h2
          omega
        have := Int.mul_lt_mul_of_pos_right hmi (pos_pow (e + 1200).toNat)
        refine Int.lt_of_le_of_lt (Int.le_of_eq ?_) this
        rw [Int.mul_assoc, ← hgap]
        push_cast
        rw [← Int.pow_add]
        congr 2
        omega
    · exfalso
      have hcut : kept = 0 := by
        rw [← hk]
        unfold Toward.cut
        simp only [Nat.min_eq_right (show m.log2 + 2 ≤ (last - e).toNat by omega), Nat.shiftLeft_eq, Nat.one_mul]
        have h1 : m < 2 ^ (m.log2 + 2) := Nat.lt_of_lt_of_le hi (Nat.pow_le_pow_right (by omega) (by omega))
        have h2 : (2 : Nat) ^ (m.log2 + 2) = 2 * 2 ^ (m.log2 + 1) := by rw [Nat.pow_succ, Nat.mul_comm]
        rw [Nat.div_eq_of_lt h1, Nat.mod_eq_of_lt h1]
        have h3 : ¬ 2 ^ (m.log2 + 2) < 2 * m := by omega
        have h4 : ¬ 2 ^ (m.log2 + 2) = 2 * m := by omega
        simp [h3]
      have h105 : 105 ≤ last := by
        by_cases h : last < 105
        · exact (far 254 (by omega) (by omega)).elim
        · omega
      omega

def fnan (x : Nat) : Bool := double.order x x != some .eq
def feq (x y : Nat) : Bool := double.order x y == some .eq
/-- The word of -0. -/
def negZero : Nat := 9223372036854775808
theorem dbl_sign : double.signWeight = negZero := by decide
theorem read_double (x : Nat) : (double.read x).isNaN = true ∨ (∃ s, double.read x = .infinity s) ∨ ∃ s m e, double.read x = .number s m e ∧ -1074 ≤ e ∧ (m = 0 → x % negZero = 0) := by
  unfold Format.read
  simp only [dbl_binade, dbl_inf, dbl_least, dbl_sign]
  generalize hr : x % negZero = rung
  by_cases h3 : rung < 2 ^ 52
  · rw [if_pos h3]; exact .inr (.inr ⟨_, _, _, rfl, by omega, fun h => h⟩)
  · rw [if_neg h3]
    by_cases h4 : rung < 2047 * 2 ^ 52
    · rw [if_pos h4]
      exact .inr (.inr ⟨_, _, _, rfl, by omega, fun h => by omega⟩)
    · rw [if_neg h4]
      by_cases h5 : rung = 2047 * 2 ^ 52
      · rw [if_pos h5]; exact .inr (.inl ⟨_, rfl⟩)
      · rw [if_neg h5]; exact .inl rfl
theorem order_nan_left {x y : Nat} (h : (double.read x).isNaN = true) : double.order x y = none := by
  unfold Format.order
  cases hx : double.read x <;> rw [hx] at h <;> first | rfl | cases h
theorem order_nan_right {x y : Nat} (h : (double.read y).isNaN = true) : double.order x y = none := by
  unfold Format.order
  cases hy : double.read y <;> rw [hy] at h <;> first | (cases double.read x <;> rfl) | cases h
theorem fnan_eq (x : Nat) : fnan x = (double.read x).isNaN := by
  unfold fnan
  rcases read_double x with h | ⟨s, h⟩ | ⟨s, m, e, h, he, _⟩
  · rw [order_nan_left h, h]; rfl
  · unfold Format.order; rw [h]; cases s <;> rfl
  · unfold Format.order
    rw [h]
    have := order_eq s s m m e e (by omega) (by omega)
    rw [bne, this]
    simp [Datum.isNaN]
theorem feq_nan_left {x y : Nat} (h : fnan x = true) : feq x y = false := by
  rw [fnan_eq] at h; unfold feq; rw [order_nan_left h]; rfl
theorem feq_nan_right {x y : Nat} (h : fnan y = true) : feq x y = false := by
  rw [fnan_eq] at h; unfold feq; rw [order_nan_right h]; rfl
theorem zero_of_mod {x : Nat} (hx : x < 18446744073709551616) (h : x % negZero = 0) : x = 0 ∨ x = negZero := by
  unfold negZero at *; omega
/-- A number that is equal to a zero is a zero. -/
theorem zero_of_feq {x z : Nat} (hx : x < 18446744073709551616) (hz : z = 0 ∨ z = negZero) (h : feq x z = true) : x = 0 ∨ x = negZero := by
  have hzr : ∃ s e, double.read z = .number s 0 e ∧ -1200 ≤ e := by
    rcases hz with rfl | rfl
    · exact ⟨false, -1074, by decide, by omega⟩
    · exact ⟨true, -1074, by decide, by omega⟩
  obtain ⟨t, j, hz2, hj⟩ := hzr
  have hn : (double.read x).isNaN = false := by
    cases hf : (double.read x).isNaN
    · rfl
    · rw [feq_nan_left (by rw [fnan_eq]; exact hf)] at h; cases h
  unfold feq Format.order at h
  rw [hz2] at h
  rcases read_double x with h1 | ⟨s, h1⟩ | ⟨s, m, e, h1, he, hm⟩
  · rw [hn] at h1; cases h1
  · rw [h1] at h; cases s <;> cases h
  · rw [h1, order_eq s t m 0 e j (by omega) hj, V_zero] at h
    by_cases h0 : m = 0
    · exact zero_of_mod hx (hm h0)
    · exact absurd (of_decide_eq_true h) (V_ne h0)
theorem feq_comm (x y : Nat) : feq x y = feq y x := by
  rcases read_double x with h1 | ⟨s, h1⟩ | ⟨s, m, e, h1, he, _⟩
  · rw [feq_nan_left (by rw [fnan_eq]; exact h1), feq_nan_right (by rw [fnan_eq]; exact h1)]
  · rcases read_double y with h2 | ⟨t, h2⟩ | ⟨t, n, j, h2, hj, _⟩
    · rw [feq_nan_right (by rw [fnan_eq]; exact h2), feq_nan_left (by rw [fnan_eq]; exact h2)]
    · unfold feq Format.order; rw [h1, h2]; cases s <;> cases t <;> rfl
    · unfold feq Format.order; rw [h1, h2]; cases s <;> rfl
  · rcases read_double y with h2 | ⟨t, h2⟩ | ⟨t, n, j, h2, hj, _⟩
    · rw [feq_nan_right (by rw [fnan_eq]; exact h2), feq_nan_left (by rw [fnan_eq]; exact h2)]
    · unfold feq Format.order; rw [h1, h2]; cases t <;> rfl
    · unfold feq Format.order; rw [h1, h2, order_eq _ _ _ _ _ _ (by omega) (by omega), order_eq _ _ _ _ _ _ (by omega) (by omega)]
      exact decide_eq_decide.2 eq_comm
theorem feq_zero {x : Nat} (hx : x < 18446744073709551616) : feq x 0 = decide (x = 0 ∨ x = negZero) := by
  by_cases h : x = 0 ∨ x = negZero
  · rw [decide_eq_true h]
    rcases h with rfl | rfl <;> decide
  · rw [decide_eq_false h]
    cases hf : feq x 0
    · rfl
    · exact absurd (zero_of_feq hx (.inl rfl) hf) h
/-! ### through single precision and back -/
/-- The double of a single; 'none' of a NaN. -/
def widen (t : Nat) : Option Nat := floatToFloatBits .f32 t .f64
/-- The single nearest to a double; 'none' of a NaN and of a number that single precision has not room for. -/
def narrow (x : Nat) : Option Nat := floatToFloatBits .f64 x .f32
def tooWide (x : Nat) : Prop := ∃ s m e, double.read x = .number s m e ∧ (single.read (single.nearest s m e)).isInfinity = true
theorem narrow_cases (x : Nat) : fnan x = true ∨ (∃ r, narrow x = some r ∧ (single.read r).isNaN = false) ∨ (narrow x = none ∧ tooWide x) := by
  rcases read_double x with h1 | ⟨s, h1⟩ | ⟨s, m, e, h1, he, _⟩
  · left; rw [fnan_eq]; exact h1
  · right; left
    refine ⟨single.write (.infinity s), ?_, by cases s <;> decide⟩
    unfold narrow floatToFloatBits
    rw [if_neg (by decide)]
    simp only [FloatKind.decode, FloatKind.format, h1, FloatKind.encode]
  · right
    unfold narrow floatToFloatBits
    rw [if_neg (by decide)]
    simp only [FloatKind.decode, FloatKind.format, h1, FloatKind.encode]
    by_cases hi : (single.read (single.write (.number s m e))).isInfinity = true
    case neg =>
      left
      refine ⟨_, if_neg hi, ?_⟩
      show (single.read (single.nearest s m e)).isNaN = false
      unfold Format.nearest
      dsimp only
      split
      · cases s <;> decide
      · generalize hrung : min _ single.infRung = rung
        have hle : rung ≤ single.infRung := by rw [← hrung]; exact Nat.min_le_right _ _
        rcases Nat.lt_or_ge rung single.infRung with h | h
        · rw [read_word single s rung h]; split <;> rfl
        · obtain rfl : rung = single.infRung := by omega
          cases s <;> decide
    case pos =>
      right
      exact ⟨if_pos hi, s, m, e, h1, hi⟩
theorem widen_cases (t : Nat) : (single.read t).isNaN = true ∨ ∃ y, widen t = some y ∧ ((∃ s, double.read y = .infinity s) ∨ ∃ s m e m' e', single.read t = .number s m e ∧ double.read y = .number s m' e' ∧ -149 ≤ e ∧ e ≤ 104 ∧ m < 2 ^ 24 ∧ -1200 ≤ e' ∧ V s m' e' = V s m e) := by
  cases hn : (single.read t).isNaN
  · right
    cases hi : (single.read t).isInfinity
    · obtain ⟨s, m, e, h1, h2, h3, h4⟩ := read_single hn hi
      by_cases h0 : m = 0
      · subst h0
        refine ⟨double.nearest s 0 e, ?_, .inr ⟨s, 0, e, 0, -1074, h1, ?_, h2, h3, h4, by omega, by rw [V_zero, V_zero]⟩⟩
        · unfold widen floatToFloatBits
          rw [if_neg (by decide)]
          simp only [FloatKind.decode, FloatKind.format, h1, FloatKind.encode, Format.write]
          have : ¬ (double.read (double.nearest s 0 e)).isInfinity = true := by unfold Format.nearest; rw [if_pos rfl]; cases s <;> decide
          exact if_neg this
        · unfold Format.nearest; rw [if_pos rfl]; cases s <;> decide
      · have hl : m.log2 ≤ 23 := by
          have := (log2_bounds h0).1
          rcases Nat.lt_or_ge 23 m.log2 with h | h
          · have := Nat.pow_le_pow_right (n := 2) (by omega) (show 24 ≤ m.log2 by omega)
            omega
          · exact h
        obtain ⟨m', e', g1, g2, g3⟩ := exact_double s m e h0 (by omega) (by omega) (by omega)
        refine ⟨double.nearest s m e, ?_, .inr ⟨s, m, e, m', e', h1, g1, h2, h3, h4, g2, g3⟩⟩
        unfold widen floatToFloatBits
        rw [if_neg (by decide)]
        simp only [FloatKind.decode, FloatKind.format, h1, FloatKind.encode, Format.write]
        exact if_neg (by rw [g1]; simp [Datum.isInfinity])
    · cases hr : single.read t <;> rw [hr] at hi <;> first | cases hi | skip
      rename_i s
      refine ⟨double.write (.infinity s), ?_, .inl ⟨s, by cases s <;> decide⟩⟩
      unfold widen floatToFloatBits
      rw [if_neg (by decide)]
      simp only [FloatKind.decode, FloatKind.format, hr, FloatKind.encode]
  · left; rfl
/-- A double that single precision has not room for is equal to no single. -/
theorem wide_ne {x t y : Nat} (hx : tooWide x) (hy : widen t = some y) : feq y x = false := by
  obtain ⟨s, m, e, h1, hov⟩ := hx
  have he : -1074 ≤ e := by
    rcases read_double x with h | ⟨_, h⟩ | ⟨_, _, _, h, he, _⟩ <;> rw [h1] at h
    · cases h
    · cases h
    · injection h with _ _ h3; omega
  have h0 : m ≠ 0 := by
    intro h0
    subst h0
    unfold Format.nearest at hov
    rw [if_pos rfl] at hov
    cases s <;> revert hov <;> decide
  have big := over_single s m e h0 he hov
  have hyc : (∃ s, double.read y = .infinity s) ∨ ∃ s m e m' e', single.read t = .number s m e ∧ double.read y = .number s m' e' ∧ -149 ≤ e ∧ e ≤ 104 ∧ m < 2 ^ 24 ∧ -1200 ≤ e' ∧ V s m' e' = V s m e := by
    rcases widen_cases t with h | ⟨y', h, hc⟩
    · exfalso
      unfold widen floatToFloatBits at hy
      rw [if_neg (by decide)] at hy
      simp only [FloatKind.decode, FloatKind.format] at hy
      cases hr : single.read t with
      | nan a b => rw [hr] at hy; cases hy
      | number a b c => rw [hr] at h; cases h
      | infinity a => rw [hr] at h; cases h
    · rw [hy] at h; cases h; exact hc
  unfold feq Format.order
  rw [h1]
  rcases hyc with ⟨s', h2⟩ | ⟨s', n, j, n', j', _, h2, g1, g2, g3, g4, g5⟩
  · rw [h2]; cases s' <;> rfl
  · rw [h2, order_eq _ _ _ _ _ _ g4 (by omega), g5]
    refine decide_eq_false fun hv => ?_
    have small : (n : Int) * 2 ^ (j + 1200).toNat ≤ ((2 : Int) ^ 24 - 1) * 2 ^ K := by
      have hK := K_eq
      generalize K = k at *
      have a1 : (n : Int) ≤ (2 : Int) ^ 24 - 1 := by omega
      have a2 : (2 : Int) ^ (j + 1200).toNat ≤ 2 ^ k := by
        have hn : (j + 1200).toNat ≤ k := by omega
        clear hK
        have h := Nat.pow_le_pow_right (n := 2) (by omega) hn
        have h' := Int.ofNat_le.2 h
        rw [Int.natCast_pow, Int.natCast_pow] at h'
        exact h'
      exact Int.mul_le_mul a1 a2 (Int.le_of_lt (pos_pow _)) (by omega)
    have pos1 : (0 : Int) < (m : Int) * 2 ^ (e + 1200).toNat := Int.mul_pos (by omega) (pos_pow _)
    have pos2 : (0 : Int) ≤ (n : Int) * 2 ^ (j + 1200).toNat := Int.mul_nonneg (by omega) (Int.le_of_lt (pos_pow _))
    simp only [V, signed_eq] at hv
    generalize (m : Int) * 2 ^ (e + 1200).toNat = A at *
    generalize (n : Int) * 2 ^ (j + 1200).toNat = B at *
    generalize ((2 : Int) ^ 24 - 1) * 2 ^ K = C at *
    cases s <;> cases s' <;> simp at hv <;> omega
/-- Is it -0? -/
def minus (x : Nat) : Bool := decide (x = negZero)
def sameF (a b : Nat) : Bool := if fnan a || fnan b then fnan a && fnan b else feq a b && (minus a == minus b)
/-- A NaN, or a double that is just a single. -/
def f32ok (x : Nat) : Bool := fnan x || (match narrow x with
  | some r => (match widen r with | some y => feq y x | none => false)
  | none => false)
theorem same_zero {x : Nat} (hx : x < 18446744073709551616) : sameF x 0 = decide (x = 0) := by
  unfold sameF
  rw [feq_zero hx]
  by_cases h0 : x = 0
  · subst h0; decide
  · by_cases h1 : x = negZero
    · subst h1; decide
    · have h2 : fnan 0 = false := by decide
      cases hn : fnan x <;> simp [h2, h0, h1]
theorem same_of_feq {x y : Nat} (hx : x < 18446744073709551616) (hy : y < 18446744073709551616) (hz : x = negZero → y = negZero) (hz0 : x = 0 → y = 0) : sameF y x = (fnan x && fnan y || feq y x) := by
  unfold sameF
  cases h1 : fnan y
  · cases h2 : fnan x
    · simp only [Bool.or_self, Bool.false_eq_true, if_false, Bool.and_self, Bool.false_or]
      cases hf : feq y x
      · rfl
      · simp only [Bool.true_and]
        unfold minus
        by_cases a : x = negZero
        · rw [hz a, a]; decide
        · have b : y ≠ negZero := by
            intro b
            subst b
            have := zero_of_feq hx (.inr rfl) (by rw [feq_comm]; exact hf)
            rcases this with h | h
            · have := hz0 h; exact absurd this (by decide)
            · exact a h
          simp [a, b]
    · simp [feq_nan_right h2]
  · cases h2 : fnan x
    · simp [feq_nan_left h1]
    · simp [feq_nan_right h2]
theorem widen_lt {t y : Nat} (ht : t < 4294967296) (h : widen t = some y) : y < 18446744073709551616 := by
  have h0 : (Lit.float .f32 t).wf = true := wf_of_lt .f32 t ht
  have := floatToFloatBits_wf h0 h
  simpa [Lit.wf] using this
theorem narrow_lt {x r : Nat} (hx : x < 18446744073709551616) (h : narrow x = some r) : r < 4294967296 := by
  have h0 : (Lit.float .f64 x).wf = true := wf_of_lt .f64 x hx
  have := floatToFloatBits_wf h0 h
  simpa [Lit.wf] using this
end Go.Proofs.YtpmdgmnpkdoamabGreatDoor.Fl
