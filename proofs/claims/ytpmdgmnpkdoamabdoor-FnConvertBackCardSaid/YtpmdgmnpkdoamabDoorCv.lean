/- Proved here: what conversions of cells keep: the answer is valid, and by a safe conversion and back the cell comes again. Conditions: the first cell is valid. -/
import Derived.Test.YtpmdgmnpkdoamabDoorUn1
import Derived.Test.YtpmdgmnpkdoamabDoorOrd
import Derived.Test.YtpmdgmnpkdoamabDoorEx
namespace Go.Proofs.YtpmdgmnpkdoamabDoor.Vc
open Go Fl Prom
open Ieee
/-- What Convert answers of a valid cell. -/
def Cv (a b i : Int) (f g : Nat) (j : Int) (x y : Nat) : Prop :=
  if a = b then j = i ∧ x = f ∧ y = g
  else if b = 1 then j = (if i = 0 ∧ feq f 0 = true ∧ feq g 0 = true then 0 else 1) ∧ x = 0 ∧ y = 0
  else if kindI a ≤ 1 ∧ kindI b = 1 then j = cutI b i ∧ x = 0 ∧ y = 0
  else if kindI a ≤ 1 ∧ b = 7 then j = 0 ∧ y = 0 ∧ x < 18446744073709551616 ∧ f32ok x = true ∧ (i.natAbs < 2 ^ 24 → IntOf i x)
  else if kindI a ≤ 1 then j = 0 ∧ y = 0 ∧ x = FloatKind.f64.nearest i
  else if kindI b = 1 then (lowI b ≤ j ∧ j ≤ highI b ∧ ∀ n, IntOf n f → lowI b ≤ n → n ≤ highI b → j = n) ∧ x = 0 ∧ y = 0
  else if b = 7 then j = 0 ∧ y = 0 ∧ x < 18446744073709551616 ∧ f32ok x = true ∧ Through f x
  else j = 0 ∧ y = 0 ∧ x = f
theorem cut_range {a : Int} (ha : 1 < a) (h6 : a ≤ 6) (n : Int) (hn : -9223372036854775808 ≤ n ∧ n ≤ 9223372036854775807) : lowI a ≤ cutI a n ∧ cutI a n ≤ highI a := by
  have : a = 2 ∨ a = 3 ∨ a = 4 ∨ a = 5 ∨ a = 6 := by omega
  rcases this with rfl | rfl | rfl | rfl | rfl <;> simp [lowI, highI, cutI] <;> omega
theorem cut_same {a : Int} (n : Int) (h : lowI a ≤ n ∧ n ≤ highI a) : cutI a n = n := by
  unfold cutI
  by_cases h2 : a = 2
  · subst h2; simp [lowI, highI] at h ⊢; omega
  by_cases h3 : a = 3
  · subst h3; simp [lowI, highI] at h ⊢; omega
  by_cases h4 : a = 4
  · subst h4; simp [lowI, highI] at h ⊢; omega
  by_cases h5 : a = 5
  · subst h5; simp [lowI, highI] at h ⊢; omega
  simp [h2, h3, h4, h5]
theorem low_high64 {a n : Int} (h : lowI a ≤ n ∧ n ≤ highI a) : -9223372036854775808 ≤ n ∧ n ≤ 9223372036854775807 := by
  unfold lowI highI at h
  split at h <;> (try split at h) <;> (try split at h) <;> (try split at h) <;> (try split at h) <;> omega
theorem cv_valid {a b i : Int} {f g : Nat} {j : Int} {x y : Nat} (h : vcell a i f g = true) (hb : isdt b = true) (hc : Cv a b i f g j x y) : vcell b j x y = true := by
  have ha : isdt a = true := by
    cases ha : isdt a
    · rw [vcell_no ha] at h; cases h
    · rfl
  have hb' : 1 ≤ b ∧ b ≤ 9 := by simpa [isdt] using hb
  have ha' : 1 ≤ a ∧ a ≤ 9 := by simpa [isdt] using ha
  unfold Cv at hc
  by_cases h0 : a = b
  · rw [if_pos h0] at hc
    obtain ⟨rfl, rfl, rfl⟩ := hc
    subst h0
    exact h
  rw [if_neg h0] at hc
  by_cases h1 : b = 1
  · rw [if_pos h1] at hc
    obtain ⟨rfl, rfl, rfl⟩ := hc
    subst h1
    rw [vcell_int hb (by decide)]
    split <;> decide
  rw [if_neg h1] at hc
  have kb : kindI b = 1 → 1 < b ∧ b ≤ 6 ∧ kindI b < 2 := by intro hk; unfold kindI at hk ⊢; grind
  have kb7 : b = 7 → kindI b = 2 := by rintro rfl; decide
  have ka : kindI a ≤ 1 → kindI a < 2 := by omega
  by_cases h2 : kindI a ≤ 1 ∧ kindI b = 1
  · rw [if_pos h2] at hc
    obtain ⟨rfl, rfl, rfl⟩ := hc
    have hk := kb h2.2
    rw [vcell_int ha (ka h2.1)] at h
    simp only [Bool.and_eq_true, decide_eq_true_eq] at h
    have hr := cut_range hk.1 hk.2.1 i (low_high64 ⟨h.1.1.1, h.1.1.2⟩)
    rw [vcell_int hb hk.2.2, decide_eq_true hr.1, decide_eq_true hr.2]
    rfl
  rw [if_neg h2] at hc
  by_cases h3 : kindI a ≤ 1 ∧ b = 7
  · rw [if_pos h3] at hc
    obtain ⟨rfl, rfl, _, hx, _⟩ := hc
    have hk := kb7 h3.2
    rw [vcell_float hb (by omega) hk, hx]
    simp
  rw [if_neg h3] at hc
  by_cases h4 : kindI a ≤ 1
  · rw [if_pos h4] at hc
    obtain ⟨rfl, rfl, rfl⟩ := hc
    have hb2 : b = 8 ∨ b = 9 := by
      have : ¬ kindI b = 1 := fun hk => h2 ⟨h4, hk⟩
      have : ¬ b = 7 := fun hk => h3 ⟨h4, hk⟩
      unfold kindI at *; grind
    rcases hb2 with rfl | rfl
    · rw [vcell_float hb (by decide) (by decide)]; simp
    · rw [vcell_cplx hb (by decide) (by decide)]; simp
  rw [if_neg h4] at hc
  by_cases h5 : kindI b = 1
  · rw [if_pos h5] at hc
    obtain ⟨⟨hl, hh, _⟩, rfl, rfl⟩ := hc
    have hk := kb h5
    rw [vcell_int hb hk.2.2, decide_eq_true hl, decide_eq_true hh]
    rfl
  rw [if_neg h5] at hc
  by_cases h6 : b = 7
  · rw [if_pos h6] at hc
    obtain ⟨rfl, rfl, _, hx, _⟩ := hc
    have hk := kb7 h6
    rw [vcell_float hb (by omega) hk, hx]
    simp
  rw [if_neg h6] at hc
  obtain ⟨rfl, rfl, rfl⟩ := hc
  have hb2 : b = 8 ∨ b = 9 := by unfold kindI at *; grind
  rcases hb2 with rfl | rfl
  · rw [vcell_float hb (by decide) (by decide)]; simp
  · rw [vcell_cplx hb (by decide) (by decide)]; simp
theorem int_zero {i : Int} {x : Nat} (h : IntOf i x) : feq x 0 = decide (i = 0) := by
  have h0 : IntOf 0 0 := ⟨false, 0, -1074, by decide, by omega, by rw [V_zero, Int.zero_mul]⟩
  unfold feq
  rw [int_order h h0]
  by_cases hi : i = 0
  · subst hi; simp [compare, compareOfLessAndEq]
  · by_cases hl : i < 0 <;> simp [compare, compareOfLessAndEq, hi, hl]
theorem cv_back {a b i : Int} {f g : Nat} {j : Int} {x y : Nat} {k : Int} {u v : Nat} (h : vcell a i f g = true) (hb : isdt b = true) (hf : f < 18446744073709551616) (hp : prom a b = b) (h6 : ¬ (a = 6 ∧ 7 ≤ b))
    (hc : Cv a b i f g j x y) (hd : Cv b a j x y k u v) : scell k u v i f g = true := by
  have ha : isdt a = true := by
    cases ha : isdt a
    · rw [vcell_no ha] at h; cases h
    · rfl
  have hb' : 1 ≤ b ∧ b ≤ 9 := by simpa [isdt] using hb
  have ha' : 1 ≤ a ∧ a ≤ 9 := by simpa [isdt] using ha
  have z0 : feq 0 0 = true := by decide
  have s0 : sameF 0 0 = true := by decide
  unfold scell
  by_cases h0 : a = b
  · subst h0
    unfold Cv at hc hd
    rw [if_pos rfl] at hc hd
    obtain ⟨rfl, rfl, rfl⟩ := hc
    obtain ⟨rfl, rfl, rfl⟩ := hd
    rw [same_self, same_self, decide_eq_true rfl]; rfl
  have hlt : a < b := by rw [prom_yes ha hb] at hp; grind
  by_cases ki : kindI a < 2
  · have hv := h
    rw [vcell_int ha ki] at hv
    simp only [Bool.and_eq_true, decide_eq_true_eq] at hv
    obtain ⟨⟨⟨hl, hh⟩, rfl⟩, rfl⟩ := hv
    have hsm : a ≤ 5 → i.natAbs < 2 ^ 53 := by
      intro h5; have : a = 1 ∨ a = 2 ∨ a = 3 ∨ a = 4 ∨ a = 5 := by omega
      rcases this with rfl | rfl | rfl | rfl | rfl <;> simp [lowI, highI] at hl hh <;> omega
    have hsm4 : a ≤ 4 → i.natAbs < 2 ^ 24 := by
      intro h5; have : a = 1 ∨ a = 2 ∨ a = 3 ∨ a = 4 := by omega
      rcases this with rfl | rfl | rfl | rfl <;> simp [lowI, highI] at hl hh <;> omega
    have ka1 : kindI a ≤ 1 := by omega
    have hc' : (kindI b = 1 ∧ j = i ∧ x = 0 ∧ y = 0) ∨ (2 ≤ kindI b ∧ j = 0 ∧ y = 0 ∧ IntOf i x) := by
      unfold Cv at hc
      rw [if_neg h0, if_neg (by omega)] at hc
      by_cases kb : kindI b = 1
      · rw [if_pos ⟨ka1, kb⟩] at hc
        obtain ⟨rfl, rfl, rfl⟩ := hc
        left
        refine ⟨kb, cut_same i ?_, rfl, rfl⟩
        rw [prom_yes ha hb] at hp
        have hb6 : b = 2 ∨ b = 3 ∨ b = 4 ∨ b = 5 ∨ b = 6 := by clear hp; unfold kindI at kb; grind
        have ha6 : a = 1 ∨ a = 2 ∨ a = 3 ∨ a = 4 ∨ a = 5 := by omega
        clear h h6 hsm hsm4 hd
        rcases hb6 with rfl | rfl | rfl | rfl | rfl <;> rcases ha6 with rfl | rfl | rfl | rfl | rfl <;> simp [lowI, highI] at hl hh hp hlt ⊢ <;> omega
      · right
        have kb2 : 2 ≤ kindI b := by unfold kindI at *; grind
        rw [if_neg (fun hh => kb hh.2)] at hc
        by_cases b7 : b = 7
        · rw [if_pos ⟨ka1, b7⟩] at hc
          obtain ⟨rfl, rfl, _, _, hI⟩ := hc
          have : a ≤ 4 := by rw [prom_yes ha hb] at hp; grind
          exact ⟨kb2, rfl, rfl, hI (hsm4 this)⟩
        · rw [if_neg (fun hh => b7 hh.2), if_pos ka1] at hc
          obtain ⟨rfl, rfl, rfl⟩ := hc
          have : a ≤ 5 := by
            have : ¬ a = 6 := fun h => h6 ⟨h, by unfold kindI at kb2; grind⟩
            unfold kindI at ki; grind
          exact ⟨kb2, rfl, rfl, int_exact (hsm this)⟩
    clear hc
    unfold Cv at hd
    rw [if_neg (fun h => h0 h.symm)] at hd
    by_cases a1 : a = 1
    · rw [if_pos a1] at hd
      obtain ⟨hk, rfl, rfl⟩ := hd
      subst a1
      have i01 : i = 0 ∨ i = 1 := by simp [lowI, highI] at hl hh; omega
      have : k = i := by
        rcases hc' with ⟨_, rfl, rfl, rfl⟩ | ⟨_, rfl, rfl, hI⟩
        · rw [hk, z0]; rcases i01 with rfl | rfl <;> simp
        · rw [hk, int_zero hI, z0]; rcases i01 with rfl | rfl <;> simp
      rw [this, s0, decide_eq_true rfl]; rfl
    · rw [if_neg a1] at hd
      have ka : kindI a = 1 := by unfold kindI at *; grind
      rcases hc' with ⟨kb, rfl, rfl, rfl⟩ | ⟨kb, rfl, rfl, hI⟩
      · rw [if_pos ⟨by omega, ka⟩] at hd
        obtain ⟨rfl, rfl, rfl⟩ := hd
        rw [cut_same _ ⟨hl, hh⟩, s0, decide_eq_true rfl]; rfl
      · rw [if_neg (by omega), if_neg (by omega), if_neg (by omega), if_pos ka] at hd
        obtain ⟨⟨_, _, hn⟩, rfl, rfl⟩ := hd
        rw [hn i hI hl hh, s0, decide_eq_true rfl]; rfl
  · have k2 : kindI a = 2 := by unfold kindI at *; grind
    have hv := h
    rw [vcell_float ha ki k2] at hv
    simp only [Bool.and_eq_true, decide_eq_true_eq] at hv
    obtain ⟨⟨rfl, rfl⟩, hok⟩ := hv
    have b8 : b = 8 ∨ b = 9 := by unfold kindI at *; grind
    have kb : ¬ kindI b = 1 := by rcases b8 with rfl | rfl <;> decide
    have kb1 : ¬ kindI b ≤ 1 := by rcases b8 with rfl | rfl <;> decide
    unfold Cv at hc hd
    rw [if_neg h0, if_neg (by omega), if_neg (by omega), if_neg (by omega), if_neg (by omega), if_neg kb, if_neg (by omega)] at hc
    obtain ⟨rfl, rfl, rfl⟩ := hc
    rw [if_neg (fun h => h0 h.symm), if_neg (by unfold kindI at ki; grind), if_neg (by omega), if_neg (by omega), if_neg (by omega), if_neg (by omega)] at hd
    by_cases a7 : a = 7
    · rw [if_pos a7] at hd
      obtain ⟨rfl, rfl, _, _, ht⟩ := hd
      subst a7
      rw [through_same hf ht, s0, decide_eq_true rfl]
      simpa using hok
    · rw [if_neg a7] at hd
      obtain ⟨rfl, rfl, rfl⟩ := hd
      rw [same_self, s0, decide_eq_true rfl]; rfl
end Go.Proofs.YtpmdgmnpkdoamabDoor.Vc
