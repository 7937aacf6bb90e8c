/- Proved here: what the words printed for the law on Schedule answer where the laws on views share them (plain Lean). Conditions: the lists' lengths. -/
import Derived.Test.YtpmdgmnpkdoamaaDFnExactSchedulex
import Derived.ChangeSlices
namespace Go.Proofs.Ytpmdgmnpkdoamaa.DFnExactSchedule
open Go.RowKit Go.Proofs.YtpmdgmnpkdoamaaW.PrintWords Go.Proofs.YtpmdgmnpkdoamaaW.PrintLast Go.Proofs.YtpmdgmnpkdoamaaW.PrintMore
set_option linter.unusedVariables false
set_option linter.unusedSimpArgs false
theorem w_id {n : Int} (h : -9223372036854775808 ≤ n) (h2 : n < 9223372036854775808) : wrap64 n = n := by unfold wrap64; omega
theorem rd_at (pre suf : List Int) (x : Int) : rd (pre ++ x :: suf) (pre.length : Int) = x := by simp [rd]
theorem len_mid (pre suf : List Int) (x : Int) : ((pre ++ x :: suf).length : Int) = pre.length + 1 + suf.length := by simp; omega
theorem next_pre (pre suf : List Int) (x : Int) : pre ++ x :: suf = (pre ++ [x]) ++ suf := by simp
theorem next_len (pre : List Int) (x : Int) : (pre.length : Int) + 1 = ((pre ++ [x]).length : Int) := by simp
theorem to_l0 : ∀ (n k : Nat) (xs ys : List Int) (i : Nat), i + n = xs.length → ys.length = xs.length → xs.length < 1099511627776 → n < k → (∀ j, j < i → ys[j]? = xs[j]?) → laws_toInt64S.l0 k xs ys i = some xs
  | 0, 0, _, _, _, _, _, _, hk, _ => by omega
  | n + 1, 0, _, _, _, _, _, _, hk, _ => by omega
  | 0, k + 1, xs, ys, i, h, hy, hb, hk, hj => by
    unfold laws_toInt64S.l0
    rw [if_neg (by omega)]
    congr 1
    apply List.ext_getElem?
    intro j
    rcases Nat.lt_or_ge j i with hji | hji
    · exact hj j hji
    · rw [List.getElem?_eq_none (by omega), List.getElem?_eq_none (by omega)]
  | n + 1, k + 1, xs, ys, i, h, hy, hb, hk, hj => by
    unfold laws_toInt64S.l0
    rw [if_pos (by omega), if_pos (by omega), if_pos (by omega), w_id (by omega) (by omega)]
    refine to_l0 n k xs _ (i + 1) (by omega) (by simp [hy]) hb (by omega) fun j hji => ?_
    rw [List.getElem?_set]
    split
    · rename_i hij
      rw [if_pos (by omega)]
      have : i = j := by omega
      subst this
      have hi : i < xs.length := by omega
      simp [rd, List.getElem?_eq_getElem hi]
    · exact hj j (by omega)
theorem to_f (k : Nat) (xs : List Int) (hb : xs.length < 1099511627776) (hk : xs.length < k) : laws_toInt64S.f k xs = some xs := by
  unfold laws_toInt64S.f
  rw [if_pos (by omega), if_pos (by omega)]
  exact to_l0 xs.length k xs _ 0 (by omega) (by simp) hb hk (fun j hj => by omega)
theorem eq_l0 : ∀ (n k : Nat) (xs : List Int) (i : Nat), i + n = xs.length → xs.length < 1099511627776 → n < k → laws_eqInt64S.l0 k xs xs i = some true
  | 0, 0, _, _, _, _, hk => by omega
  | n + 1, 0, _, _, _, _, hk => by omega
  | 0, k + 1, xs, i, h, hb, hk => by
    unfold laws_eqInt64S.l0
    rw [if_neg (by omega)]
  | n + 1, k + 1, xs, i, h, hb, hk => by
    unfold laws_eqInt64S.l0
    rw [if_pos (by omega), if_pos (by omega), if_pos (by omega), if_pos rfl, w_id (by omega) (by omega)]
    exact eq_l0 n k xs (i + 1) (by omega) hb (by omega)
theorem eq_f (k : Nat) (xs : List Int) (hb : xs.length < 1099511627776) (hk : xs.length < k) : laws_eqInt64S.f k xs xs = some true := by
  unfold laws_eqInt64S.f
  rw [if_pos rfl]
  exact eq_l0 xs.length k xs 0 (by omega) hb hk
/-! ### marks written into a list and found again -/
def marks : Nat → Int → List Int
  | 0, _ => []
  | n + 1, a => a :: marks n (a + 1)
theorem marks_len : ∀ (n : Nat) (a : Int), (marks n a).length = n
  | 0, _ => rfl
  | n + 1, a => by simp [marks, marks_len n]
theorem mark_l0 : ∀ (suf pre : List Int) (k : Nat) (a : Int), suf.length < k → pre.length + suf.length < 1099511627776 → 0 ≤ a →
    a + suf.length ≤ 2199023255552 → laws_markInt64S.l0 k (pre ++ suf) a pre.length = some (a + suf.length, pre ++ marks suf.length a)
  | [], pre, k, a, hk, _, _, _ => by
    obtain ⟨k, rfl⟩ : ∃ m, k = m + 1 := ⟨k - 1, by omega⟩
    simp only [laws_markInt64S.l0, List.append_nil]
    rw [if_neg (by omega)]
    simp [marks]
  | x :: suf, pre, k, a, hk, hl, h0, h2 => by
    simp only [List.length_cons] at hk hl h2
    obtain ⟨k, rfl⟩ : ∃ m, k = m + 1 := ⟨k - 1, by omega⟩
    have ih := mark_l0 suf (pre ++ [a]) k (a + 1) (by omega) (by simp; omega) (by omega) (by omega)
    simp only [laws_markInt64S.l0]
    rw [if_pos (by rw [len_mid]; omega), if_pos (by omega)]
    rw [w_id (by omega) (by omega), w_id (n := (pre.length : Int) + 1) (by omega) (by omega), next_len pre a]
    have hs : (pre ++ x :: suf).set (pre.length : Int).toNat a = (pre ++ [a]) ++ suf := by simp
    rw [hs, ih]
    simp only [List.length_cons, marks, List.append_assoc, List.cons_append, List.nil_append]
    congr 2
    omega
theorem mark_f (xs : List Int) (k : Nat) (a : Int) (hk : xs.length < k) (hl : xs.length ≤ 1048576) (h0 : 0 ≤ a) (h1 : a ≤ 1099511627) : laws_markInt64S.f k xs a = some (a + xs.length, marks xs.length a) := by
  have := mark_l0 xs [] k a hk (by simp; omega) h0 (by omega)
  simpa [laws_markInt64S.f] using this
end Go.Proofs.Ytpmdgmnpkdoamaa.DFnExactSchedule
