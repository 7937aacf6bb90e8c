/- Proved here: what the words printed for the law on Slice come to: the law answers true (plain Lean). Conditions: the lists' lengths. -/
import Derived.Test.YtpmdgmnpkdoamaaSlBFnExactSlice
namespace Go.Proofs.Ytpmdgmnpkdoamaa.DFnExactSlice
open Go.RowKit Go.Proofs.YtpmdgmnpkdoamaaW.PrintWords Go.Proofs.YtpmdgmnpkdoamaaW.PrintLast Go.Proofs.YtpmdgmnpkdoamaaW.PrintMore
set_option linter.unusedVariables false
set_option linter.unusedSimpArgs false
/-- How many are taken, going up and going down. -/
def up (i tt st : Int) : Int := if i < tt then (tt - i + st - 1) / st else 0
theorem up_zero {i tt st : Int} (h : ¬ i < tt) : up i tt st = 0 := by unfold up; rw [if_neg h]
theorem up_step {i tt st : Int} (hs : 0 < st) (h : i < tt) : up i tt st = 1 + up (i + st) tt st := by
  unfold up
  rw [if_pos h, show tt - i + st - 1 = (tt - i - 1) + st * 1 by omega, Int.add_mul_ediv_left _ _ (by omega)]
  by_cases h2 : i + st < tt
  · rw [if_pos h2, show tt - (i + st) + st - 1 = tt - i - 1 by omega]
    omega
  · rw [if_neg h2, Int.ediv_eq_zero_of_lt (by omega) (by omega)]; omega
theorem up_bound {i tt st : Int} (hs : 0 < st) : 0 ≤ up i tt st ∧ (i < tt → 1 ≤ up i tt st) ∧ (i < tt → up i tt st ≤ tt - i) := by
  unfold up
  by_cases h : i < tt
  · rw [if_pos h]
    have a : 1 ≤ (tt - i + st - 1) / st := (Int.le_ediv_iff_mul_le hs).2 (by omega)
    have b : (tt - i + st - 1) / st ≤ tt - i := by
      apply Int.ediv_le_of_le_mul hs
      have : st + (tt - i - 1) * 1 ≤ st + (tt - i - 1) * st := Int.add_le_add_left (Int.mul_le_mul_of_nonneg_left (by omega) (by omega)) _
      have e : (tt - i) * st = st + (tt - i - 1) * st := by rw [Int.sub_mul (tt - i), Int.one_mul]; omega
      omega
    exact ⟨by omega, fun _ => a, fun _ => b⟩
  · rw [if_neg h]; exact ⟨by omega, fun h' => absurd h' h, fun h' => absurd h' h⟩
/-- A list that holds what is taken: so many, the first of them known. -/
def Took (out : List Int) (i c : Int) (F : List Int) : Prop := (F.length : Int) = out.length + c ∧ (out = [] → 1 ≤ c → rd F 0 = i) ∧ (out ≠ [] → rd F 0 = rd out 0)
theorem took_snoc {out : List Int} {i i' c : Int} {F : List Int} (h : Took (out ++ [i]) i' c F) (hc : 0 ≤ c) : Took out i (1 + c) F := by
  obtain ⟨h1, _, h3⟩ := h
  have h4 := h3 (by simp)
  refine ⟨by simp at h1; omega, fun e _ => ?_, fun e => ?_⟩
  · subst e; rw [h4]; simp [rd]
  · rw [h4]
    cases out with
    | nil => exact absurd rfl e
    | cons a t => simp [rd]
theorem loop_up (ax st tt : Int) (S1 S2 : List Int) (o : Int) (hs : 0 < st ∧ st ≤ 1000000) (hto : -4096 ≤ tt ∧ tt ≤ 4096) : ∀ (d : Nat) (i : Int) (out : List Int) (k : Nat), -4096 ≤ i → i ≤ 2000000 → tt - i ≤ d → d + 10 < k → out.length + d ≤ 100000 →
    ∃ F k', Took out i (up i tt st) F ∧ k ≤ k' + d + 2 ∧ k' < k ∧ spec_Slice.l0 k ax st tt out i S1 S2 o = spec_Slice.j4 k' ax st F S1 S2 o := by
  intro d
  induction d with
  | zero =>
    intro i out k i0 i1 hd hk ho
    obtain ⟨k, rfl⟩ : ∃ m, k = m + 1 := ⟨k - 1, by omega⟩
    have hn : ¬ i < tt := by omega
    refine ⟨out, k, ⟨by rw [up_zero hn]; omega, fun _ h => by rw [up_zero hn] at h; omega, fun _ => rfl⟩, by omega, by omega, ?_⟩
    rw [spec_Slice.l0, if_pos (by omega), if_neg hn, if_neg (by omega)]
  | succ d IH =>
    intro i out k i0 i1 hd hk ho
    obtain ⟨k, rfl⟩ : ∃ m, k = m + 1 := ⟨k - 1, by omega⟩
    by_cases hn : i < tt
    · obtain ⟨F, k', hF, hk1, hk2, he⟩ := IH (i + st) (out ++ [i]) k (by omega) (by omega) (by omega) (by omega) (by simp; omega)
      refine ⟨F, k', ?_, by omega, by omega, ?_⟩
      · rw [up_step hs.1 hn]; exact took_snoc hF (up_bound hs.1).1
      · rw [spec_Slice.l0, if_pos (by omega), if_pos hn, if_pos (by omega), w_id (by omega) (by omega)]
        exact he
    · refine ⟨out, k, ⟨by rw [up_zero hn]; omega, fun _ h => by rw [up_zero hn] at h; omega, fun _ => rfl⟩, by omega, by omega, ?_⟩
      rw [spec_Slice.l0, if_pos (by omega), if_neg hn, if_neg (by omega)]
theorem loop_down (ax st tt : Int) (S1 S2 : List Int) (o : Int) (hs : st < 0 ∧ -1000000 ≤ st) (hto : -4096 ≤ tt ∧ tt ≤ 4096) : ∀ (d : Nat) (i : Int) (out : List Int) (k : Nat), -2000000 ≤ i → i ≤ 4096 → i - tt ≤ d → d + 10 < k → out.length + d ≤ 100000 →
    ∃ F k', Took out i (up tt i (-st)) F ∧ k ≤ k' + d + 2 ∧ k' < k ∧ spec_Slice.l0 k ax st tt out i S1 S2 o = spec_Slice.j4 k' ax st F S1 S2 o := by
  intro d
  induction d with
  | zero =>
    intro i out k i0 i1 hd hk ho
    obtain ⟨k, rfl⟩ : ∃ m, k = m + 1 := ⟨k - 1, by omega⟩
    have hn : ¬ tt < i := by omega
    refine ⟨out, k, ⟨by rw [up_zero hn]; omega, fun _ h => by rw [up_zero hn] at h; omega, fun _ => rfl⟩, by omega, by omega, ?_⟩
    rw [spec_Slice.l0, if_neg (by omega), if_pos (by omega), if_neg (by omega)]
  | succ d IH =>
    intro i out k i0 i1 hd hk ho
    obtain ⟨k, rfl⟩ : ∃ m, k = m + 1 := ⟨k - 1, by omega⟩
    by_cases hn : tt < i
    · obtain ⟨F, k', hF, hk1, hk2, he⟩ := IH (i + st) (out ++ [i]) k (by omega) (by omega) (by omega) (by omega) (by simp; omega)
      refine ⟨F, k', ?_, by omega, by omega, ?_⟩
      · have e : up tt i (-st) = 1 + up tt (i + st) (-st) := by
          unfold up
          rw [if_pos hn, show i - tt + -st - 1 = (i - tt - 1) + -st * 1 by omega, Int.add_mul_ediv_left _ _ (by omega)]
          by_cases h2 : tt < i + st
          · rw [if_pos h2, show i + st - tt + -st - 1 = i - tt - 1 by omega]; omega
          · rw [if_neg h2, Int.ediv_eq_zero_of_lt (by omega) (by omega)]; omega
        rw [e]; exact took_snoc hF (up_bound (by omega)).1
      · rw [spec_Slice.l0, if_neg (by omega), if_pos (by omega), if_pos (by omega), if_pos (by omega), w_id (by omega) (by omega)]
        exact he
    · refine ⟨out, k, ⟨by rw [up_zero hn]; omega, fun _ h => by rw [up_zero hn] at h; omega, fun _ => rfl⟩, by omega, by omega, ?_⟩
      rw [spec_Slice.l0, if_neg (by omega), if_pos (by omega), if_neg (by omega)]
theorem copy_l0 : ∀ (suf pre : List Int) (k : Nat), suf.length < k → pre.length + suf.length ≤ 1048576 → spec_l2CopyList.l0 k (pre ++ suf) pre pre.length = some (pre ++ suf)
  | [], pre, k, hk, hl => by
    obtain ⟨k, rfl⟩ : ∃ m, k = m + 1 := ⟨k - 1, by omega⟩
    rw [spec_l2CopyList.l0, if_neg (by simp)]; simp
  | x :: suf, pre, k, hk, hl => by
    simp only [List.length_cons] at hk hl
    obtain ⟨k, rfl⟩ : ∃ m, k = m + 1 := ⟨k - 1, by omega⟩
    have ih := copy_l0 suf (pre ++ [x]) k (by omega) (by simp; omega)
    rw [spec_l2CopyList.l0, if_pos (by rw [len_mid]; omega), if_pos (by omega), if_pos (by omega), rd_at, w_id (by omega) (by omega), next_len pre x, next_pre]
    exact ih
theorem copy_f (k : Nat) (xs : List Int) (hk : xs.length < k) (hl : xs.length ≤ 1048576) : spec_l2CopyList.f k xs = some xs := by
  have := copy_l0 xs [] k hk (by simpa using hl)
  simpa [spec_l2CopyList.f] using this
theorem ok_set {xs : List Int} {i : Nat} {m : Int} (h : ok xs) (h0 : 0 ≤ m) (h1 : m ≤ 4096) : ok (xs.set i m) := by
  intro x hx
  rcases List.mem_or_eq_of_mem_set hx with hx | rfl
  · exact h x hx
  · exact ⟨h0, h1⟩
theorem cnt_set_le : ∀ {xs : List Int} {i : Nat} {m : Int}, ok xs → i < xs.length → 0 ≤ m → m ≤ xs.getD i 0 → cnt (xs.set i m) ≤ cnt xs
  | [], _, _, _, h, _, _ => by simp at h
  | x :: xs, 0, m, ho, _, h0, h1 => by
    simp only [List.set_cons_zero, cnt]
    simp at h1
    exact Int.mul_le_mul_of_nonneg_right h1 (cnt_nonneg (ok_cons.1 ho).2)
  | x :: xs, i + 1, m, ho, hi, h0, h1 => by
    simp only [List.set_cons_succ, cnt]
    have := cnt_set_le (xs := xs) (i := i) (m := m) (ok_cons.1 ho).2 (by simpa using hi) h0 (by simpa using h1)
    exact Int.mul_le_mul_of_nonneg_left this (ok_cons.1 ho).1.1
theorem cnt_set_zero : ∀ {xs : List Int} {i : Nat}, i < xs.length → cnt (xs.set i 0) = 0
  | [], _, h => by simp at h
  | x :: xs, 0, _ => by simp [cnt]
  | x :: xs, i + 1, h => by
    simp only [List.set_cons_succ, cnt]
    rw [cnt_set_zero (by simpa using h), Int.mul_zero]
/-- The end: the two answer alike. -/
theorem fin (xs ys : List Int) (o : Int) (hv : VV xs ys o) (a : Nat) (ha : a < xs.length) (st from' : Int) (F : List Int) (hF : F.length ≤ xs.getD a 0) (hfr : 1 ≤ F.length → rd F 0 = from') (k k' : Nat) (hk : 100 < k) (hk' : 100 < k') :
    ∃ L1 L2 p, L1.length ≤ 1048576 ∧ L2.length ≤ 1048576 ∧ spec_Slice.j4 k a st F xs ys o = some (0, L1, L2, p) ∧ impl_Slice.j1 k' a from' st F.length xs ys o = some (0, L1, L2, p) := by
  obtain ⟨gx, lxy, o0, o1, oy, _⟩ := hv
  have g4 := gx.1
  have hxa : 0 ≤ xs.getD a 0 ∧ xs.getD a 0 ≤ 4096 := by
    rw [List.getD_eq_getElem?_getD, List.getElem?_eq_getElem ha]
    exact gx.2.1 _ (List.getElem_mem ha)
  have gs : good (xs.set a (F.length : Int)) := ⟨by simpa using g4, ok_set gx.2.1 (by omega) (by omega), Int.le_trans (cnt_set_le gx.2.1 ha (by omega) hF) gx.2.2⟩
  have n0 := cnt_nonneg gs.2.1
  obtain ⟨k, rfl⟩ : ∃ m, k = m + 1 := ⟨k - 1, by omega⟩
  obtain ⟨k', rfl⟩ : ∃ m, k' = m + 1 := ⟨k' - 1, by omega⟩
  have c1 := (l2count_f k _ (by simp; omega)).1 gs
  have c2 := count_f k' _ (by simp; omega) (by simpa using g4) gs.2.1
  have ex : spec_l2CopyView.f k xs ys o = some (xs, ys, o) := by
    unfold spec_l2CopyView.f
    rw [copy_f k xs (by omega) (by omega)]; simp only [Option.bind_some]
    rw [copy_f k ys (by omega) (by omega)]; rfl
  have ei : impl_copyView.f k' xs ys o = some (xs, ys, o) := by
    unfold impl_copyView.f slices_Clone_int64_int64.f
    rw [if_pos (by omega)]; simp only [Option.bind_some]
    rw [if_pos (by omega)]; rfl
  have S0 : spec_Slice.j4 (k + 1) a st F xs ys o = if cnt (xs.set a (F.length : Int)) = 0 then some (0, xs.set a (F.length : Int), ys, o) else (if 0 < (F.length : Int) then (if (a : Int) < (ys.length : Int) then (if (F.length : Int) > 1 then (if (a : Int) < (ys.length : Int) then some (0, xs.set a (F.length : Int), ys.set a (wrap64 (st * rd ys a)), wrap64 (o + wrap64 (rd F 0 * rd ys a))) else none) else some (0, xs.set a (F.length : Int), ys, wrap64 (o + wrap64 (rd F 0 * rd ys a)))) else none) else none) := by
    rw [spec_Slice.j4, ex]
    simp only [Option.bind_some]
    rw [if_pos (show (0 : Int) ≤ (a : Int) by omega), if_pos (show (a : Int) < (xs.length : Int) by omega)]
    simp only [Option.bind_some, Int.toNat_natCast]
    rw [c1]
    simp only [Option.bind_some]
  have I0 : impl_Slice.j1 (k' + 1) a from' st F.length xs ys o = if cnt (xs.set a (F.length : Int)) = 0 then some (0, xs.set a (F.length : Int), ys, o) else (if (F.length : Int) ≥ 2 then (if (a : Int) < (ys.length : Int) then (if (a : Int) < (ys.length : Int) then some (0, xs.set a (F.length : Int), ys.set a (wrap64 (rd ys a * st)), wrap64 (o + wrap64 (from' * rd ys a))) else none) else none) else (if (a : Int) < (ys.length : Int) then some (0, xs.set a (F.length : Int), ys, wrap64 (o + wrap64 (from' * rd ys a))) else none)) := by
    rw [impl_Slice.j1, ei]
    simp only [Option.bind_some]
    rw [if_pos (show (0 : Int) ≤ (a : Int) by omega), if_pos (show (a : Int) < (xs.length : Int) by omega)]
    simp only [Option.bind_some, Int.toNat_natCast]
    rw [c2]
    simp only [Option.bind_some]
  have hy : (a : Int) < (ys.length : Int) := by omega
  rw [S0, I0]
  by_cases hc : cnt (xs.set a (F.length : Int)) = 0
  · rw [if_pos hc, if_pos hc]
    exact ⟨_, _, _, by simp; omega, by omega, rfl, rfl⟩
  · rw [if_neg hc, if_neg hc]
    have hF1 : 1 ≤ F.length := by
      rcases Nat.eq_zero_or_pos F.length with h | h
      · exfalso; apply hc; rw [h]; exact cnt_set_zero ha
      · exact h
    rw [hfr hF1, if_pos (show 0 < (F.length : Int) by omega)]
    simp only [hy, if_true]
    by_cases h2 : (F.length : Int) > 1
    · rw [if_pos h2, if_pos (show (F.length : Int) ≥ 2 by omega), Int.mul_comm st]
      exact ⟨_, _, _, by simp; omega, by simp; omega, rfl, rfl⟩
    · rw [if_neg h2, if_neg (show ¬ (F.length : Int) ≥ 2 by omega)]
      exact ⟨_, _, _, by simp; omega, by omega, rfl, rfl⟩
theorem right_f (x n lo hi : Int) (hx : -1000000 ≤ x ∧ x ≤ 1000000) (hn : 0 ≤ n ∧ n ≤ 4096) (hl : -1 ≤ lo ∧ lo ≤ 0) (hh : -1 ≤ hi ∧ hi ≤ n) (hlh : lo ≤ hi) : ∃ e, spec_l2Right.f x n lo hi = some e ∧ impl_end.f x n lo hi = some e ∧ lo ≤ e ∧ (e ≤ hi ∨ e < n) ∧ (hi = n → e ≤ n) := by
  unfold spec_l2Right.f impl_end.f
  rw [w_id (n := x + n) (by omega) (by omega)]
  unfold mx mn
  by_cases h : x < 0
  · rw [if_pos h, if_pos h]
    by_cases h2 : x + n < lo
    · rw [if_pos h2]
      refine ⟨lo, rfl, by congr 1; split <;> omega, by omega, by omega, by omega⟩
    · rw [if_neg h2]
      refine ⟨x + n, rfl, by congr 1; split <;> omega, by omega, by omega, by omega⟩
  · rw [if_neg h, if_neg h]
    by_cases h2 : x > hi
    · rw [if_pos h2]
      refine ⟨hi, rfl, by congr 1; split <;> omega, by omega, by omega, by omega⟩
    · rw [if_neg h2]
      refine ⟨x, rfl, by congr 1; split <;> omega, by omega, by omega, by omega⟩
theorem far_f (x : Int) : impl_far.f x = some (decide (x < -1000000 ∨ x > 1000000)) := by
  unfold impl_far.f
  by_cases h : x < -1000000
  · rw [if_pos h, decide_eq_true (Or.inl h)]
  · rw [if_neg h]; congr 1; apply decide_eq_decide.2; omega
def Good (b c d : Int) : Prop := d ≠ 0 ∧ (-1000000 ≤ d ∧ d ≤ 1000000) ∧ (-1000000 ≤ b ∧ b ≤ 1000000) ∧ (-1000000 ≤ c ∧ c ≤ 1000000)
theorem sj1_true (q : Nat) (a b c d : Int) (xs ys : List Int) (o : Int) (hq : 0 < q) : spec_Slice.j1 q a b c d true xs ys o = some (8, [], [], 0) := by
  obtain ⟨q, rfl⟩ : ∃ m, q = m + 1 := ⟨q - 1, by omega⟩
  rw [spec_Slice.j1, if_pos rfl]
theorem sj0 (q : Nat) (a b c d : Int) (xs ys : List Int) (o : Int) (hq : 0 < q) :
    (¬ Good b c d → spec_Slice.j0 (q + 1) a b c d false xs ys o = some (8, [], [], 0)) ∧ (Good b c d → spec_Slice.j0 (q + 1) a b c d false xs ys o = spec_Slice.j1 q a b c d false xs ys o) := by
  have T := sj1_true q a b c d xs ys o hq
  unfold Good
  rw [spec_Slice.j0, if_neg (by decide)]
  by_cases h1 : d = 0
  · rw [if_pos h1]; exact ⟨fun _ => T, fun h => absurd h1 h.1⟩
  rw [if_neg h1]
  by_cases h2 : d < -1000000
  · rw [if_pos h2]; exact ⟨fun _ => T, fun h => by omega⟩
  rw [if_neg h2]
  by_cases h3 : d > 1000000
  · rw [if_pos h3]; exact ⟨fun _ => T, fun h => by omega⟩
  rw [if_neg h3]
  by_cases h4 : b < -1000000
  · rw [if_pos h4]; exact ⟨fun _ => T, fun h => by omega⟩
  rw [if_neg h4]
  by_cases h5 : b > 1000000
  · rw [if_pos h5]; exact ⟨fun _ => T, fun h => by omega⟩
  rw [if_neg h5]
  by_cases h6 : c < -1000000
  · rw [if_pos h6]; exact ⟨fun _ => T, fun h => by omega⟩
  rw [if_neg h6]
  by_cases h7 : c > 1000000
  · rw [decide_eq_true h7]; exact ⟨fun _ => T, fun h => by omega⟩
  · rw [decide_eq_false h7]; exact ⟨fun h => absurd ⟨h1, ⟨by omega, by omega⟩, ⟨by omega, by omega⟩, ⟨by omega, by omega⟩⟩ h, fun _ => rfl⟩
theorem ij0_bad (q : Nat) (a b c d : Int) (xs ys : List Int) (o : Int) (h : ¬ Good b c d) : impl_Slice.j0 (q + 1) a b c d false xs ys o = some (8, [], [], 0) := by
  rw [impl_Slice.j0, if_neg (by decide)]
  by_cases h1 : d = 0
  · rw [if_pos h1]
  rw [if_neg h1, far_f, far_f, far_f]
  simp only [Option.bind_some, decide_eq_true_eq]
  by_cases h2 : b < -1000000 ∨ b > 1000000
  · rw [if_pos h2]
  rw [if_neg h2]
  by_cases h3 : c < -1000000 ∨ c > 1000000
  · rw [if_pos h3]
  rw [if_neg h3]
  by_cases h4 : d < -1000000 ∨ d > 1000000
  · rw [if_pos h4]
  · exact absurd ⟨h1, ⟨by omega, by omega⟩, ⟨by omega, by omega⟩, ⟨by omega, by omega⟩⟩ h
theorem main (xs ys : List Int) (o : Int) (hv : VV xs ys o) (a : Nat) (ha : a < xs.length) (b c d : Int) (hg : Good b c d) (q : Nat) (hq : 10000 < q) :
    ∃ L1 L2 p, L1.length ≤ 1048576 ∧ L2.length ≤ 1048576 ∧ spec_Slice.j1 q a b c d false xs ys o = some (0, L1, L2, p) ∧ impl_Slice.j0 q a b c d false xs ys o = some (0, L1, L2, p) := by
  obtain ⟨h1, h2, h3, h4⟩ := hg
  obtain ⟨gx, lxy, o0, o1, oy, _⟩ := id hv
  have g4 := gx.1
  have hr : rd xs (a : Int) = xs.getD a 0 := by unfold rd; rw [Int.toNat_natCast]
  have hxa : 0 ≤ xs.getD a 0 ∧ xs.getD a 0 ≤ 4096 := by
    rw [List.getD_eq_getElem?_getD, List.getElem?_eq_getElem ha]
    exact gx.2.1 _ (List.getElem_mem ha)
  obtain ⟨q, rfl⟩ : ∃ m, q = m + 3 := ⟨q - 3, by omega⟩
  rw [impl_Slice.j0, if_neg (by decide), if_neg h1, far_f, far_f, far_f]
  simp only [Option.bind_some, decide_eq_true_eq]
  rw [if_neg (by omega), if_neg (by omega), if_neg (by omega), if_pos (by omega), if_pos (by omega)]
  rw [spec_Slice.j1, if_neg (by decide), if_pos (by omega), if_pos (by omega), hr]
  have F0 := fun (st from' : Int) (F : List Int) hF hfr k k' hk hk' => fin xs ys o hv a ha st from' F hF hfr k k' hk hk'
  generalize xs.getD a 0 = n at *
  have cnv : ∀ x y : Int, 0 ≤ x → x ≤ 3000000 → 1 ≤ y → y ≤ 1000000 → wrap64 (Int.tdiv x y) = x / y := by
    intro x y x0 x1 y0 y1
    rw [Int.tdiv_eq_ediv_of_nonneg x0]
    have a1 : 0 ≤ x / y := Int.ediv_nonneg x0 (by omega)
    have a2 : x / y ≤ x := Int.ediv_le_self _ x0
    exact w_id (by omega) (by omega)
  by_cases hs : d < 0
  · rw [if_pos hs, if_neg (show ¬ d > 0 by omega), w_id (n := n - 1) (by omega) (by omega)]
    obtain ⟨e1, s1, i1, l1, u1, _⟩ := right_f b n (-1) (n - 1) h3 hxa (by omega) (by omega) (by omega)
    obtain ⟨e2, s2, i2, l2, u2, _⟩ := right_f c n (-1) (n - 1) h4 hxa (by omega) (by omega) (by omega)
    rw [spec_Slice.j2, s1, s2, i1, i2]
    simp only [Option.bind_some]
    obtain ⟨F, k', hF, hk1, hk2, he⟩ := loop_down a d e2 xs ys o ⟨hs, h2.1⟩ (by omega) 4097 e1 [] (q + 1) (by omega) (by omega) (by omega) (by omega) (by simp)
    rw [he]
    obtain ⟨f1, f2, _⟩ := hF
    have ub := up_bound (i := e2) (tt := e1) (st := -d) (by omega)
    simp only [List.length_nil, Int.natCast_zero, Int.zero_add] at f1
    have hFn : (F.length : Int) ≤ n := by
      by_cases hc : e2 < e1
      · have := ub.2.2 hc; omega
      · rw [f1, up_zero hc]; omega
    have hm : ∀ X, (if e1 > e2 then (if wrap64 (-d) = 0 then none else impl_Slice.j1 (q + 2) a e1 d (wrap64 (Int.tdiv (wrap64 (wrap64 (wrap64 (e1 - e2) - d) - 1)) (wrap64 (-d)))) xs ys o) else impl_Slice.j1 (q + 2) a e1 d 0 xs ys o) = X ↔ impl_Slice.j1 (q + 2) a e1 d F.length xs ys o = X := by
      intro X
      by_cases hc : e2 < e1
      · rw [if_pos hc, w_id (n := -d) (by omega) (by omega), if_neg (by omega), w_id (n := e1 - e2) (by omega) (by omega), w_id (n := e1 - e2 - d) (by omega) (by omega), w_id (n := e1 - e2 - d - 1) (by omega) (by omega), cnv _ _ (by omega) (by omega) (by omega) (by omega)]
        have : (e1 - e2 - d - 1) / -d = (F.length : Int) := by rw [f1]; unfold up; rw [if_pos hc]; congr 1; try omega
        rw [this]
      · rw [if_neg hc]
        have : (F.length : Int) = 0 := by rw [f1, up_zero hc]
        rw [this]
    obtain ⟨L1, L2, p, b1, b2, r1, r2⟩ := F0 d e1 F hFn (fun h => f2 rfl (by omega)) k' (q + 2) (by omega) (by omega)
    exact ⟨L1, L2, p, b1, b2, r1, (hm _).2 r2⟩
  · rw [if_neg hs, if_pos (show d > 0 by omega)]
    obtain ⟨e1, s1, i1, l1, _, u1⟩ := right_f b n 0 n h3 hxa (by omega) (by omega) (by omega)
    obtain ⟨e2, s2, i2, l2, _, u2⟩ := right_f c n 0 n h4 hxa (by omega) (by omega) (by omega)
    have u1 := u1 rfl
    have u2 := u2 rfl
    rw [spec_Slice.j2, s1, s2, i1, i2]
    simp only [Option.bind_some]
    obtain ⟨F, k', hF, hk1, hk2, he⟩ := loop_up a d e2 xs ys o ⟨by omega, h2.2⟩ (by omega) 4097 e1 [] (q + 1) (by omega) (by omega) (by omega) (by omega) (by simp)
    rw [he]
    obtain ⟨f1, f2, _⟩ := hF
    have ub := up_bound (i := e1) (tt := e2) (st := d) (by omega)
    simp only [List.length_nil, Int.natCast_zero, Int.zero_add] at f1
    have hFn : (F.length : Int) ≤ n := by
      by_cases hc : e1 < e2
      · have := ub.2.2 hc; omega
      · rw [f1, up_zero hc]; omega
    have hm : ∀ X, (if e2 > e1 then impl_Slice.j1 (q + 2) a e1 d (wrap64 (Int.tdiv (wrap64 (wrap64 (wrap64 (e2 - e1) + d) - 1)) d)) xs ys o else impl_Slice.j1 (q + 2) a e1 d 0 xs ys o) = X ↔ impl_Slice.j1 (q + 2) a e1 d F.length xs ys o = X := by
      intro X
      by_cases hc : e1 < e2
      · rw [if_pos hc, w_id (n := e2 - e1) (by omega) (by omega), w_id (n := e2 - e1 + d) (by omega) (by omega), w_id (n := e2 - e1 + d - 1) (by omega) (by omega), cnv _ _ (by omega) (by omega) (by omega) (by omega)]
        have : (e2 - e1 + d - 1) / d = (F.length : Int) := by rw [f1]; unfold up; rw [if_pos hc]
        rw [this]
      · rw [if_neg hc]
        have : (F.length : Int) = 0 := by rw [f1, up_zero hc]
        rw [this]
    obtain ⟨L1, L2, p, b1, b2, r1, r2⟩ := F0 d e1 F hFn (fun h => f2 rfl (by omega)) k' (q + 2) (by omega) (by omega)
    exact ⟨L1, L2, p, b1, b2, r1, (hm _).2 r2⟩
theorem alike (xs ys : List Int) (o a b c d : Int) (k : Nat) (hx : xs.length ≤ 1048576) (hy : ys.length ≤ 1048576) (hk : 4000000 < k) :
    ∃ e L1 L2 p, L1.length ≤ 1048576 ∧ L2.length ≤ 1048576 ∧ spec_Slice.f k xs ys o a b c d = some (e, L1, L2, p) ∧ impl_Slice.f k xs ys o a b c d = some (e, L1, L2, p) := by
  obtain ⟨v, h1, h2, h3⟩ := vv_alike k xs ys o (by omega)
  unfold spec_Slice.f impl_Slice.f
  rw [h1, h2]
  simp only [Option.bind_some]
  cases v with
  | false => exact ⟨12, [], [], 0, by simp, by simp, rfl, rfl⟩
  | true =>
    have hv := h3 rfl
    rw [if_pos rfl, if_pos rfl]
    obtain ⟨q, rfl⟩ : ∃ q, k = q + 1 := ⟨k - 1, by omega⟩
    have bad : spec_Slice.j0 (q + 1) a b c d true xs ys o = some (5, [], [], 0) ∧ impl_Slice.j0 (q + 1) a b c d true xs ys o = some (5, [], [], 0) := ⟨by rw [spec_Slice.j0, if_pos rfl], by rw [impl_Slice.j0, if_pos rfl]⟩
    by_cases ha : a < 0
    · rw [if_pos ha, if_pos ha]
      exact ⟨5, [], [], 0, by simp, by simp, bad.1, bad.2⟩
    rw [if_neg ha, if_neg ha]
    by_cases ha2 : a ≥ (xs.length : Int)
    · rw [decide_eq_true ha2]
      exact ⟨5, [], [], 0, by simp, by simp, bad.1, bad.2⟩
    rw [decide_eq_false ha2]
    by_cases hg : Good b c d
    · obtain ⟨n, rfl⟩ := Int.eq_ofNat_of_zero_le (show 0 ≤ a by omega)
      rw [(sj0 q n b c d xs ys o (by omega)).2 hg]
      obtain ⟨L1, L2, p, b1, b2, r1, r2⟩ := main xs ys o hv n (by omega) b c d hg q (by omega)
      exact ⟨0, L1, L2, p, b1, b2, r1, impl_Slice.mono_l q |>.1 _ _ _ _ _ _ _ _ _ r2⟩
    · exact ⟨8, [], [], 0, by simp, by simp, (sj0 q a b c d xs ys o (by omega)).1 hg, ij0_bad q a b c d xs ys o hg⟩
theorem law_true (xs ys : List Int) (o a b c d : Int) (k : Nat) (hx : xs.length ≤ 1048576) (hy : ys.length ≤ 1048576) (hk : 8000000 < k) (z : Int) (hz : laws_szView.f xs ys o 1048576 = some z) : laws_FnExactSlice.f k xs ys o a b c d = some true := by
  obtain ⟨e, L1, L2, p, b1, b2, hs1, hi1⟩ := alike xs ys o a b c d k hx hy (by omega)
  have j : laws_FnExactSlice.j0 k a b c d false xs ys o e L1 L2 p e L1 L2 p = some true := by
    obtain ⟨q, rfl⟩ : ∃ q, k = q + 1 := ⟨k - 1, by omega⟩
    obtain ⟨e', L1', L2', p', b1', b2', hs', hi'⟩ := alike xs ys o a b c d q hx hy (by omega)
    have e1 := spec_Slice.mono xs ys o a b c d q _ hs'
    rw [hs1] at e1
    obtain ⟨rfl, rfl, rfl, rfl⟩ : e = e' ∧ L1 = L1' ∧ L2 = L2' ∧ p = p' := by simpa using e1
    simp only [laws_FnExactSlice.j0, Bool.false_eq_true, if_false]
    rw [markVR q e L1 L2 p 1 b1 b2 (by omega) (by omega) (by omega)]; simp only [Option.bind_some]
    rw [heldVR q L1.length L2.length e p 1 b1 b2 (by omega) (by omega) (by omega)]; simp only [Option.bind_some]
    rw [if_neg (by omega), if_pos trivial, toV q xs ys o hx hy (by omega)]; simp only [Option.bind_some]
    rw [hi']; simp only [Option.bind_some]
    rw [eqVR q e L1 L2 p b1 b2 (by omega)]; simp only [Option.bind_some]
    rw [if_pos trivial, if_neg (by omega), if_pos trivial]
  unfold laws_FnExactSlice.f
  rw [hz]; simp only [Option.bind_some]
  by_cases hz0 : z < 0
  · rw [if_pos hz0]
  rw [if_neg hz0, toV k xs ys o hx hy (by omega)]; simp only [Option.bind_some]
  rw [hs1]; simp only [Option.bind_some]
  rw [hi1]; simp only [Option.bind_some]
  rw [eqVR k e L1 L2 p b1 b2 (by omega)]; simp only [Option.bind_some]
  rw [if_pos trivial, eqV k xs ys o hx hy (by omega)]; simp only [Option.bind_some]
  rw [if_pos trivial, markV k xs ys o 1 hx hy (by omega) (by omega) (by omega)]; simp only [Option.bind_some]
  rw [if_neg (by omega)]
  exact j
theorem law_words (xs ys : List Int) (o a b c d : Int) (h1 : xs.length ≤ 9223372036854775807) (h2 : ys.length ≤ 9223372036854775807) : ∃ k, laws_FnExactSlice.f k xs ys o a b c d = some true := by
  refine ⟨8000001, ?_⟩
  obtain ⟨z, hz, hb⟩ := szView xs ys o h1 h2
  rcases hb with hb | hb
  · unfold laws_FnExactSlice.f
    rw [hz]; simp only [Option.bind_some]
    rw [if_pos hb]
  · exact law_true xs ys o a b c d _ hb.1 hb.2 (by omega) z hz
end Go.Proofs.Ytpmdgmnpkdoamaa.DFnExactSlice
