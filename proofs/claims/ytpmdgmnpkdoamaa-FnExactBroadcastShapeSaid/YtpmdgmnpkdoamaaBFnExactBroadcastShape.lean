/- Proved here: what the words printed for the law on BroadcastShape answer where the laws on views share them (plain Lean). Conditions: the lists' lengths. -/
import Derived.Test.YtpmdgmnpkdoamaaDFnExactBroadcastShapex
import Derived.ChangeSlices
namespace Go.Proofs.Ytpmdgmnpkdoamaa.DFnExactBroadcastShape
open Go.RowKit Go.Proofs.YtpmdgmnpkdoamaaW.PrintWords Go.Proofs.YtpmdgmnpkdoamaaW.PrintLast Go.Proofs.YtpmdgmnpkdoamaaW.PrintMore
set_option linter.unusedVariables false
set_option linter.unusedSimpArgs false
theorem w_id {n : Int} (h : -9223372036854775808 ≤ n) (h2 : n < 9223372036854775808) : wrap64 n = n := by unfold wrap64; omega
theorem rd_at (pre suf : List Int) (x : Int) : rd (pre ++ x :: suf) (pre.length : Int) = x := by simp [rd]
theorem len_mid (pre suf : List Int) (x : Int) : ((pre ++ x :: suf).length : Int) = pre.length + 1 + suf.length := by simp; omega
theorem next_pre (pre suf : List Int) (x : Int) : pre ++ x :: suf = (pre ++ [x]) ++ suf := by simp
theorem next_len (pre : List Int) (x : Int) : (pre.length : Int) + 1 = ((pre ++ [x]).length : Int) := by simp
theorem to_l0 : ∀ (n k : Nat) (xs ys : List Int) (i : Nat), i + n = xs.length → ys.length = xs.length → xs.length < 1099511627776 → n < k → (∀ j, j < i → ys[j]? = xs[j]?) → laws_toInt64S.l0 k xs ys i = some xs
  | 0, 0, _, _, _, _, _, _, hk, _ => by omega
  | n + 1, 0, _, _, _, _, _, _, hk, _ => by omega
  | 0, k + 1, xs, ys, i, h, hy, hb, hk, hj => by
    unfold laws_toInt64S.l0
    rw [if_neg (by omega)]
    congr 1
    apply List.ext_getElem?
    intro j
    rcases Nat.lt_or_ge j i with hji | hji
    · exact hj j hji
    · rw [List.getElem?_eq_none (by omega), List.getElem?_eq_none (by omega)]
  | n + 1, k + 1, xs, ys, i, h, hy, hb, hk, hj => by
    unfold laws_toInt64S.l0
    rw [if_pos (by omega), if_pos (by omega), if_pos (by omega), w_id (by omega) (by omega)]
    refine to_l0 n k xs _ (i + 1) (by omega) (by simp [hy]) hb (by omega) fun j hji => ?_
    rw [List.getElem?_set]
    split
    · rename_i hij
      rw [if_pos (by omega)]
      have : i = j := by omega
      subst this
      have hi : i < xs.length := by omega
      simp [rd, List.getElem?_eq_getElem hi]
    · exact hj j (by omega)
theorem to_f (k : Nat) (xs : List Int) (hb : xs.length < 1099511627776) (hk : xs.length < k) : laws_toInt64S.f k xs = some xs := by
  unfold laws_toInt64S.f
  rw [if_pos (by omega), if_pos (by omega)]
  exact to_l0 xs.length k xs _ 0 (by omega) (by simp) hb hk (fun j hj => by omega)
theorem eq_l0 : ∀ (n k : Nat) (xs : List Int) (i : Nat), i + n = xs.length → xs.length < 1099511627776 → n < k → laws_eqInt64S.l0 k xs xs i = some true
  | 0, 0, _, _, _, _, hk => by omega
  | n + 1, 0, _, _, _, _, hk => by omega
  | 0, k + 1, xs, i, h, hb, hk => by
    unfold laws_eqInt64S.l0
    rw [if_neg (by omega)]
  | n + 1, k + 1, xs, i, h, hb, hk => by
    unfold laws_eqInt64S.l0
    rw [if_pos (by omega), if_pos (by omega), if_pos (by omega), if_pos rfl, w_id (by omega) (by omega)]
    exact eq_l0 n k xs (i + 1) (by omega) hb (by omega)
theorem eq_f (k : Nat) (xs : List Int) (hb : xs.length < 1099511627776) (hk : xs.length < k) : laws_eqInt64S.f k xs xs = some true := by
  unfold laws_eqInt64S.f
  rw [if_pos rfl]
  exact eq_l0 xs.length k xs 0 (by omega) hb hk
/-- The product of the lengths. -/
def cnt : List Int → Int
  | [] => 1
  | x :: xs => x * cnt xs
def ok (xs : List Int) : Prop := ∀ x ∈ xs, 0 ≤ x ∧ x ≤ 4096
theorem ok_cons {x : Int} {xs : List Int} : ok (x :: xs) ↔ (0 ≤ x ∧ x ≤ 4096) ∧ ok xs := by simp [ok]
theorem mul_bound {p x : Int} {m : Nat} (h0 : 0 ≤ p) (h1 : p ≤ 4096 ^ m) (x0 : 0 ≤ x) (x1 : x ≤ 4096) : 0 ≤ p * x ∧ p * x ≤ 4096 ^ (m + 1) :=
  ⟨Int.mul_nonneg h0 x0, by rw [Int.pow_succ]; exact Int.mul_le_mul h1 x1 x0 (Int.le_of_lt (Int.pow_pos (by omega)))⟩
theorem pow_le4 {m : Nat} (h : m ≤ 4) : (4096 : Int) ^ m ≤ 281474976710656 := by
  have : m = 0 ∨ m = 1 ∨ m = 2 ∨ m = 3 ∨ m = 4 := by omega
  rcases this with rfl | rfl | rfl | rfl | rfl <;> decide
theorem l2count_l0 : ∀ (suf pre : List Int) (k : Nat) (p : Int), suf.length < k → pre.length + suf.length ≤ 4 → 0 ≤ p → p ≤ 4096 ^ pre.length →
    (ok suf → spec_l2Count.l0 k (pre ++ suf) p pre.length = some (if p * cnt suf > 4096 then -1 else p * cnt suf)) ∧ (¬ ok suf → spec_l2Count.l0 k (pre ++ suf) p pre.length = some (-1))
  | [], pre, 0, p, hk, hl, h0, h1 => by simp at hk
  | x :: suf, pre, 0, p, hk, hl, h0, h1 => by simp at hk
  | [], pre, k + 1, p, hk, hl, h0, h1 => by
    constructor
    · intro _
      unfold spec_l2Count.l0
      rw [if_neg (by simp)]
      simp only [cnt, Int.mul_one]
      split <;> rfl
    · intro h; exact absurd (by simp [ok]) h
  | x :: suf, pre, k + 1, p, hk, hl, h0, h1 => by
    have hlen := len_mid pre suf x
    simp only [List.length_cons] at hk hl
    by_cases hx : 0 ≤ x ∧ x ≤ 4096
    · have hb := mul_bound h0 h1 hx.1 hx.2
      have h4 := pow_le4 (m := pre.length + 1) (by omega)
      have hpl : (pre ++ [x]).length = pre.length + 1 := by simp
      have ih := l2count_l0 suf (pre ++ [x]) k (p * x) (by omega) (by omega) hb.1 (by rw [hpl]; exact hb.2)
      have e : spec_l2Count.l0 (k + 1) (pre ++ x :: suf) p pre.length = spec_l2Count.l0 k ((pre ++ [x]) ++ suf) (p * x) (pre ++ [x]).length := by
        rw [spec_l2Count.l0, if_pos (by omega), if_pos (by omega), rd_at, if_neg (by omega), if_neg (by omega), w_id (by omega) (by omega), w_id (by omega) (by omega), next_pre, next_len]
      rw [e]
      constructor
      · intro h; rw [ih.1 (ok_cons.1 h).2, cnt, Int.mul_assoc]
      · intro h; exact ih.2 fun h' => h (ok_cons.2 ⟨hx, h'⟩)
    · have hn : ¬ ok (x :: suf) := fun h => hx (ok_cons.1 h).1
      refine ⟨fun h => absurd h hn, fun _ => ?_⟩
      rw [spec_l2Count.l0, if_pos (by omega), if_pos (by omega), rd_at]
      split
      · rfl
      · rw [if_pos (by omega)]
theorem count_l0 : ∀ (suf pre : List Int) (k : Nat) (p : Int), suf.length < k → pre.length + suf.length ≤ 4 → 0 ≤ p → p ≤ 4096 ^ pre.length → ok suf →
    impl_count.l0 k p (pre ++ suf) ((pre ++ suf).length : Int) pre.length = some (p * cnt suf)
  | [], pre, 0, p, hk, hl, h0, h1, h => by simp at hk
  | x :: suf, pre, 0, p, hk, hl, h0, h1, h => by simp at hk
  | [], pre, k + 1, p, hk, hl, h0, h1, h => by
    rw [impl_count.l0, if_neg (by simp)]
    simp [cnt]
  | x :: suf, pre, k + 1, p, hk, hl, h0, h1, h => by
    have hlen := len_mid pre suf x
    simp only [List.length_cons] at hk hl
    obtain ⟨hx, ho⟩ := ok_cons.1 h
    have hb := mul_bound h0 h1 hx.1 hx.2
    have h4 := pow_le4 (m := pre.length + 1) (by omega)
    have hpl : (pre ++ [x]).length = pre.length + 1 := by simp
    have ih := count_l0 suf (pre ++ [x]) k (p * x) (by omega) (by omega) hb.1 (by rw [hpl]; exact hb.2) ho
    rw [impl_count.l0, if_pos (by omega), if_pos (by omega), if_pos (by omega), rd_at, w_id (by omega) (by omega), w_id (by omega) (by omega), next_pre, next_len, ih, cnt, Int.mul_assoc]
theorem count_f (k : Nat) (xs : List Int) (hk : xs.length < k) (hl : xs.length ≤ 4) (h : ok xs) : impl_count.f k xs = some (cnt xs) := by
  have := count_l0 xs [] k 1 hk (by simpa using hl) (by omega) (by simp) h
  simpa [impl_count.f] using this
def good (xs : List Int) : Prop := xs.length ≤ 4 ∧ ok xs ∧ cnt xs ≤ 4096
theorem l2count_f (k : Nat) (xs : List Int) (hk : xs.length < k) : (good xs → spec_l2Count.f k xs = some (cnt xs)) ∧ (¬ good xs → spec_l2Count.f k xs = some (-1)) := by
  unfold spec_l2Count.f
  by_cases hl : xs.length ≤ 4
  · have := l2count_l0 xs [] k 1 hk (by simpa using hl) (by omega) (by simp)
    simp only [List.nil_append, Int.one_mul, List.length_nil, Int.natCast_zero] at this
    rw [if_neg (by omega)]
    constructor
    · intro h
      rw [show ((0 : Int)) = ((0 : Nat) : Int) from rfl]
      have e := this.1 h.2.1
      rw [if_neg (by have := h.2.2; omega)] at e
      exact e
    · intro h
      by_cases ho : ok xs
      · have e := this.1 ho
        rw [if_pos (by have : ¬ cnt xs ≤ 4096 := fun hc => h ⟨hl, ho, hc⟩; omega)] at e
        exact e
      · exact this.2 ho
  · refine ⟨fun h => absurd h.1 hl, fun _ => ?_⟩
    rw [if_pos (by omega)]
theorem good_l0 : ∀ (suf pre : List Int) (k : Nat), suf.length + 5 < k → pre.length + suf.length ≤ 4 → ok pre →
    ((ok suf ∧ cnt (pre ++ suf) ≤ 4096) → impl_goodShape.l0 k (pre ++ suf) (pre ++ suf) ((pre ++ suf).length : Int) pre.length = some true) ∧
    (¬ (ok suf ∧ cnt (pre ++ suf) ≤ 4096) → impl_goodShape.l0 k (pre ++ suf) (pre ++ suf) ((pre ++ suf).length : Int) pre.length = some false)
  | [], pre, 0, hk, hl, hp => by simp at hk
  | x :: suf, pre, 0, hk, hl, hp => by simp at hk
  | [], pre, k + 1, hk, hl, hp => by
    simp only [List.length_nil] at hk hl
    have hc := count_f k (pre ++ []) (by simp; omega) (by simpa using hl) (by simpa using hp)
    rw [impl_goodShape.l0, if_neg (by simp), hc]
    simp only [Option.bind_some, Option.some.injEq]
    constructor
    · intro h; exact decide_eq_true h.2
    · intro h; exact decide_eq_false fun hh => h ⟨by simp [ok], hh⟩
  | x :: suf, pre, k + 1, hk, hl, hp => by
    have hlen := len_mid pre suf x
    simp only [List.length_cons] at hk hl
    by_cases hx : 0 ≤ x ∧ x ≤ 4096
    · have hpl : (pre ++ [x]).length = pre.length + 1 := by simp
      have ih := good_l0 suf (pre ++ [x]) k (by omega) (by omega) (by intro y hy; rcases List.mem_append.1 hy with hy | hy; exact hp y hy; simp at hy; subst hy; exact hx)
      rw [impl_goodShape.l0, if_pos (by omega), if_pos (by omega), if_pos (by omega), rd_at, if_neg (by omega), if_neg (by omega), w_id (by omega) (by omega), next_pre, next_len]
      exact ⟨fun h => ih.1 ⟨(ok_cons.1 h.1).2, h.2⟩, fun h => ih.2 fun h' => h ⟨ok_cons.2 ⟨hx, h'.1⟩, h'.2⟩⟩
    · rw [impl_goodShape.l0, if_pos (by omega), if_pos (by omega), if_pos (by omega), rd_at]
      have hn : ¬ (ok (x :: suf) ∧ cnt (pre ++ x :: suf) ≤ 4096) := fun h => hx (ok_cons.1 h.1).1
      refine ⟨fun h => absurd h hn, fun _ => ?_⟩
      split
      · rfl
      · rw [if_pos (by omega)]
theorem goodShape_f (k : Nat) (xs : List Int) (hk : xs.length + 5 < k) : (good xs → impl_goodShape.f k xs = some true) ∧ (¬ good xs → impl_goodShape.f k xs = some false) := by
  unfold impl_goodShape.f
  by_cases hl : xs.length ≤ 4
  · have := good_l0 xs [] k (by omega) (by simpa using hl) (by simp [ok])
    simp only [List.nil_append, List.length_nil, Int.natCast_zero] at this
    rw [if_neg (by omega)]
    exact ⟨fun h => this.1 ⟨h.2.1, h.2.2⟩, fun h => this.2 fun hh => h ⟨hl, hh.1, hh.2⟩⟩
  · refine ⟨fun h => absurd h.1 hl, fun _ => ?_⟩
    rw [if_pos (by omega)]
theorem cnt_nonneg : ∀ {xs : List Int}, ok xs → 0 ≤ cnt xs
  | [], _ => by simp [cnt]
  | x :: xs, h => by
    have := cnt_nonneg (ok_cons.1 h).2
    rw [cnt]
    exact Int.mul_nonneg (ok_cons.1 h).1.1 this
/-! ### marks written into a list and found again -/
def marks : Nat → Int → List Int
  | 0, _ => []
  | n + 1, a => a :: marks n (a + 1)
theorem marks_len : ∀ (n : Nat) (a : Int), (marks n a).length = n
  | 0, _ => rfl
  | n + 1, a => by simp [marks, marks_len n]
theorem mark_l0 : ∀ (suf pre : List Int) (k : Nat) (a : Int), suf.length < k → pre.length + suf.length < 1099511627776 → 0 ≤ a →
    a + suf.length ≤ 2199023255552 → laws_markInt64S.l0 k (pre ++ suf) a pre.length = some (a + suf.length, pre ++ marks suf.length a)
  | [], pre, k, a, hk, _, _, _ => by
    obtain ⟨k, rfl⟩ : ∃ m, k = m + 1 := ⟨k - 1, by omega⟩
    simp only [laws_markInt64S.l0, List.append_nil]
    rw [if_neg (by omega)]
    simp [marks]
  | x :: suf, pre, k, a, hk, hl, h0, h2 => by
    simp only [List.length_cons] at hk hl h2
    obtain ⟨k, rfl⟩ : ∃ m, k = m + 1 := ⟨k - 1, by omega⟩
    have ih := mark_l0 suf (pre ++ [a]) k (a + 1) (by omega) (by simp; omega) (by omega) (by omega)
    simp only [laws_markInt64S.l0]
    rw [if_pos (by rw [len_mid]; omega), if_pos (by omega)]
    rw [w_id (by omega) (by omega), w_id (n := (pre.length : Int) + 1) (by omega) (by omega), next_len pre a]
    have hs : (pre ++ x :: suf).set (pre.length : Int).toNat a = (pre ++ [a]) ++ suf := by simp
    rw [hs, ih]
    simp only [List.length_cons, marks, List.append_assoc, List.cons_append, List.nil_append]
    congr 2
    omega
theorem mark_f (xs : List Int) (k : Nat) (a : Int) (hk : xs.length < k) (hl : xs.length ≤ 1048576) (h0 : 0 ≤ a) (h1 : a ≤ 1099511627) : laws_markInt64S.f k xs a = some (a + xs.length, marks xs.length a) := by
  have := mark_l0 xs [] k a hk (by simp; omega) h0 (by omega)
  simpa [laws_markInt64S.f] using this
theorem held_l0 : ∀ (n : Nat) (pre : List Int) (k : Nat) (a : Int), n < k → pre.length + n < 1099511627776 → 0 ≤ a → a + n ≤ 2199023255552 →
    laws_heldInt64S.l0 k (pre ++ marks n a) a pre.length = some (a + n)
  | 0, pre, k, a, hk, _, _, _ => by
    obtain ⟨k, rfl⟩ : ∃ m, k = m + 1 := ⟨k - 1, by omega⟩
    simp only [laws_heldInt64S.l0, marks, List.append_nil]
    rw [if_neg (by omega)]
    simp
  | n + 1, pre, k, a, hk, hl, h0, h2 => by
    obtain ⟨k, rfl⟩ : ∃ m, k = m + 1 := ⟨k - 1, by omega⟩
    have ih := held_l0 n (pre ++ [a]) k (a + 1) (by omega) (by simp; omega) (by omega) (by omega)
    rw [show marks (n + 1) a = a :: marks n (a + 1) from rfl]
    simp only [laws_heldInt64S.l0]
    rw [if_pos (show (pre.length : Int) < ((pre ++ a :: marks n (a + 1)).length : Int) by rw [len_mid]; omega), if_pos (by omega), rd_at, if_pos rfl]
    rw [w_id (by omega) (by omega), w_id (n := (pre.length : Int) + 1) (by omega) (by omega), next_len pre a, next_pre, ih]
    congr 1
    omega
theorem held_f (n k : Nat) (a : Int) (hk : n < k) (hl : n ≤ 1048576) (h0 : 0 ≤ a) (h1 : a ≤ 1099511627) : laws_heldInt64S.f k (marks n a) a = some (a + n) := by
  have := held_l0 n [] k a hk (by simp; omega) h0 (by omega)
  simpa [laws_heldInt64S.f] using this
end Go.Proofs.Ytpmdgmnpkdoamaa.DFnExactBroadcastShape
