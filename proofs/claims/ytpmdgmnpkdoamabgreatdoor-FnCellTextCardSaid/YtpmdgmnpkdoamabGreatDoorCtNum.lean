/- Proved here: decimal numerals read back: their digits, strings.Trim of them, strconv.ParseInt of them, and where a text is cut. No condition beyond the numbers' bounds. -/
import Derived.Test.YtpmdgmnpkdoamabGreatDoorRows
import Derived.Lib.ItoaNum
import Derived.Lib.ItoaMem
import Derived.Lib.ItoaLen
import Derived.Lib.ParseIntB
import Derived.Lib.SlTrimSet
import Derived.Lib.IndexMore
namespace Go.Proofs.YtpmdgmnpkdoamabGreatDoor.Num
open Go
def DG : List UInt8 := [48, 49, 50, 51, 52, 53, 54, 55, 56, 57]
theorem of_small {n : Nat} (h : n < 256) : (UInt8.ofNat n).toNat = n := by simp [Nat.mod_eq_of_lt h]
theorem digits_mem (u : Nat) : ∀ b ∈ Lib.decDigits u, 48 ≤ b.toNat ∧ b.toNat ≤ 57 := by
  induction u using Nat.strongRecOn with
  | ind u ih =>
    intro b hb
    rw [Lib.decDigits] at hb
    split at hb
    · rw [List.mem_singleton] at hb
      subst hb
      rw [of_small (by omega)]
      omega
    · rw [List.mem_append] at hb
      rcases hb with hb | hb
      · exact ih (u / 10) (by omega) b hb
      · rw [List.mem_singleton] at hb
        subst hb
        rw [of_small (by omega)]
        omega
theorem digits_head (u : Nat) (h : 0 < u) : ∃ c r, Lib.decDigits u = c :: r ∧ 49 ≤ c.toNat ∧ c.toNat ≤ 57 := by
  induction u using Nat.strongRecOn with
  | ind u ih =>
    rw [Lib.decDigits]
    split
    · exact ⟨_, [], rfl, by rw [of_small (by omega)]; omega, by rw [of_small (by omega)]; omega⟩
    · obtain ⟨c, r, e, h1, h2⟩ := ih (u / 10) (by omega) (by omega)
      exact ⟨c, r ++ [UInt8.ofNat (48 + u % 10)], by rw [e]; rfl, h1, h2⟩
theorem dg_contains {b : UInt8} (h : 48 ≤ b.toNat ∧ b.toNat ≤ 57) : DG.contains b = true := by
  have : b = UInt8.ofNat b.toNat := by simp
  rw [this]
  generalize b.toNat = n at h
  have : n = 48 ∨ n = 49 ∨ n = 50 ∨ n = 51 ∨ n = 52 ∨ n = 53 ∨ n = 54 ∨ n = 55 ∨ n = 56 ∨ n = 57 := by omega
  rcases this with rfl | rfl | rfl | rfl | rfl | rfl | rfl | rfl | rfl | rfl <;> decide
theorem drop_all {p : UInt8 → Bool} : ∀ l : List UInt8, (∀ b ∈ l, p b = true) → l.dropWhile p = []
  | [], _ => rfl
  | b :: l, h => by
    rw [List.dropWhile_cons, if_pos (h b (by simp))]
    exact drop_all l (fun x hx => h x (List.mem_cons_of_mem _ hx))
theorem trim_digits (u : Nat) : Lib.trimS (Lib.decDigits u) DG = [] := by
  have h : (Lib.decDigits u).reverse.dropWhile (DG.contains ·) = [] := by
    refine drop_all _ ?_
    intro b hb
    exact dg_contains (digits_mem u b (List.mem_reverse.1 hb))
  unfold Lib.trimS Lib.trimRightS Lib.trimLeftS
  rw [h]
  rfl
theorem parse_app (M : Nat) (l2 : List UInt8) : ∀ (l1 : List UInt8) (acc a : Nat), Lib.parseUintM M acc l1 = .ok a → Lib.parseUintM M acc (l1 ++ l2) = Lib.parseUintM M a l2
  | [], acc, a, h => by
    simp only [Lib.parseUintM] at h
    injection h with h
    subst h
    rfl
  | c :: r, acc, a, h => by
    simp only [Lib.parseUintM, List.cons_append] at h ⊢
    split at h
    · rename_i h1
      rw [if_pos h1]
      split at h
      · cases h
      · rename_i h2
        rw [if_neg h2]
        split at h
        · cases h
        · rename_i h3
          rw [if_neg h3]
          exact parse_app M l2 r _ a h
    · cases h
theorem parse_digits (M u : Nat) (hu : u ≤ M) (hM : M < 18446744073709551616) : Lib.parseUintM M 0 (Lib.decDigits u) = .ok u := by
  induction u using Nat.strongRecOn with
  | ind u ih =>
    rw [Lib.decDigits]
    split
    · rename_i h
      have e : (UInt8.ofNat (48 + u)).toNat = 48 + u := of_small (by omega)
      simp only [Lib.parseUintM, e]
      rw [if_pos (by omega), if_neg (by omega), if_neg (by omega)]
      congr 1
      omega
    · rw [parse_app M _ _ 0 (u / 10) (ih (u / 10) (by omega) (by omega))]
      have e : (UInt8.ofNat (48 + u % 10)).toNat = 48 + u % 10 := of_small (by omega)
      simp only [Lib.parseUintM, e]
      rw [if_pos (by omega), if_neg (by omega), if_neg (by omega)]
      congr 1
      omega
theorem parse_itoa (n : Int) (h0 : -9223372036854775808 ≤ n) (h1 : n ≤ 9223372036854775807) (hz : n ≠ 0) : Lib.parseIntB 64 (Lib.itoa n) = .ok n := by
  rcases Int.lt_or_gt_of_ne hz with h | h
  · obtain ⟨u, rfl⟩ : ∃ u : Nat, n = -(u : Int) := ⟨n.natAbs, by omega⟩
    rw [Lib.itoa_neg u (by omega)]
    obtain ⟨c, r, e, _, _⟩ := digits_head u (by omega)
    have hp : Lib.parseUintB 64 (Lib.decDigits u) = .ok u := by
      unfold Lib.parseUintB
      rw [if_neg (by rw [e]; simp)]
      exact parse_digits _ u (by omega) (by decide)
    unfold Lib.parseIntB
    simp only [show (45 : UInt8).toNat = 45 from rfl, or_true, if_true, not_true, false_and, if_false, true_and, hp]
    rw [if_neg (by omega)]
  · obtain ⟨u, rfl⟩ : ∃ u : Nat, n = (u : Int) := ⟨n.natAbs, by omega⟩
    rw [Lib.itoa_nonneg]
    obtain ⟨c, r, e, hc1, hc2⟩ := digits_head u (by omega)
    have hp : Lib.parseUintB 64 (Lib.decDigits u) = .ok u := by
      unfold Lib.parseUintB
      rw [if_neg (by rw [e]; simp)]
      exact parse_digits _ u (by omega) (by decide)
    rw [e] at hp ⊢
    unfold Lib.parseIntB
    have n1 : ¬ (c.toNat = 43 ∨ c.toNat = 45) := by omega
    have n2 : ¬ c.toNat = 45 := by omega
    have n3 : ¬ (c.toNat = 43 ∨ False) := fun h => h.elim (fun h => by omega) id
    simp only [n2, not_false_iff, true_and, false_and, if_false]
    rw [if_neg n3, hp]
    dsimp only
    rw [if_neg (by omega)]
/-- strings.TrimPrefix(s, "-") of a numeral: its digits. -/
theorem prefix_itoa (n : Int) (hz : n ≠ 0) : Lib.trimPrefix (Lib.itoa n) [45] = Lib.decDigits n.natAbs := by
  rcases Int.lt_or_gt_of_ne hz with h | h
  · obtain ⟨u, rfl⟩ : ∃ u : Nat, n = -(u : Int) := ⟨n.natAbs, by omega⟩
    rw [Lib.itoa_neg u (by omega)]
    unfold Lib.trimPrefix Lib.hasPrefix
    rw [if_pos (by simp)]
    simp
  · obtain ⟨u, rfl⟩ : ∃ u : Nat, n = (u : Int) := ⟨n.natAbs, by omega⟩
    rw [Lib.itoa_nonneg]
    obtain ⟨c, r, e, hc1, hc2⟩ := digits_head u (by omega)
    have : ¬ (45 : UInt8) = c := by rintro rfl; exact absurd hc1 (by decide)
    unfold Lib.trimPrefix Lib.hasPrefix
    rw [if_neg (by rw [e]; simp [this])]
    simp
theorem index_one (c : UInt8) : ∀ (a b : List UInt8), c ∉ a → Lib.index (a ++ c :: b) [c] = (a.length : Int)
  | [], b, _ => by
    unfold Lib.index
    simp
  | x :: a, b, h => by
    have h1 : ¬ c = x := fun e => h (by simp [e])
    have ih := index_one c a b (fun e => h (List.mem_cons_of_mem _ e))
    rw [List.cons_append]
    unfold Lib.index
    rw [ih]
    have h2 : ([c].isPrefixOf (x :: (a ++ c :: b))) = false := by simp [List.isPrefixOf, h1]
    rw [h2]
    have h3 : ((a.length : Int) == -1) = false := beq_eq_false_iff_ne.mpr (by omega)
    rw [h3]
    simp
theorem cut_one (c : UInt8) (a b : List UInt8) (h : c ∉ a) : Lib.cut (a ++ c :: b) [c] = (a, b, true) := by
  unfold Lib.cut
  rw [index_one c a b h, if_pos (by omega)]
  simp
theorem cut_nil (c : UInt8) : Lib.cut [] [c] = ([], [], false) := by
  unfold Lib.cut Lib.index
  simp
theorem itoa_no (c : UInt8) (hc : c.toNat < 45 ∨ 57 < c.toNat) (n : Int) : c ∉ Lib.itoa n := by
  intro h
  unfold Lib.itoa at h
  split at h
  · rcases List.mem_cons.1 h with rfl | h
    · rcases hc with hc | hc <;> exact absurd hc (by decide)
    · have := digits_mem _ c h
      omega
  · have := digits_mem _ c h
    omega
end Go.Proofs.YtpmdgmnpkdoamabGreatDoor.Num
