/- Proved here: what the words printed for the law on Transpose come to: the law answers true (plain Lean). Conditions: the lists' lengths. -/
import Derived.Test.YtpmdgmnpkdoamaaBFnExactTranspose
namespace Go.Proofs.Ytpmdgmnpkdoamaa.DFnExactTranspose
open Go.RowKit Go.Proofs.YtpmdgmnpkdoamaaW.PrintWords Go.Proofs.YtpmdgmnpkdoamaaW.PrintLast Go.Proofs.YtpmdgmnpkdoamaaW.PrintMore
set_option linter.unusedVariables false
set_option linter.unusedSimpArgs false
/-- What is answered behind the axes `pre`. -/
def tans (n : Nat) (xs ys : List Int) (o : Int) : List Int → List Int → Int × List Int × List Int × Int
  | pre, [] => (0, pre.map (rd xs), pre.map (rd ys), o)
  | pre, p :: suf => if p < 0 ∨ (n : Int) ≤ p ∨ p ∈ pre then (5, [], [], 0) else tans n xs ys o (pre ++ [p]) suf
theorem tans_len (n : Nat) (xs ys : List Int) (o : Int) : ∀ (suf pre : List Int), (tans n xs ys o pre suf).2.1.length ≤ pre.length + suf.length ∧ (tans n xs ys o pre suf).2.2.1.length ≤ pre.length + suf.length
  | [], pre => by simp [tans]
  | p :: suf, pre => by
    unfold tans
    split
    · simp
    · have := tans_len n xs ys o suf (pre ++ [p])
      simp at this ⊢
      omega
theorem spec_l1 (perm xs ys : List Int) (o : Int) (pre suf : List Int) (p : Int) (hp : perm = pre ++ p :: suf) (h4 : perm.length ≤ 4) (p0 : 0 ≤ p) (px : p < (xs.length : Int)) (py : p < (ys.length : Int)) (K : Nat) (r : Option (Int × List Int × List Int × Int))
    (hr : ∀ k, K ≤ k → spec_Transpose.l0 k perm (wrap64 ((pre.length : Int) + 1)) xs ys o (pre.map (rd xs) ++ [rd xs p]) (pre.map (rd ys) ++ [rd ys p]) o = r) :
    ∀ (b a : List Int) (k : Nat), pre = a ++ b → p ∉ a → K + b.length < k → spec_Transpose.l1 k perm pre.length a.length xs ys o (pre.map (rd xs)) (pre.map (rd ys)) o = if p ∈ b then some (5, [], [], 0) else r := by
  intro b
  have rp : rd perm (pre.length : Int) = p := by rw [hp, rd_at]
  have hl : (perm.length : Int) = pre.length + 1 + suf.length := by rw [hp, len_mid]
  induction b with
  | nil =>
    intro a k ha hn hk
    obtain ⟨k, rfl⟩ : ∃ m, k = m + 1 := ⟨k - 1, by omega⟩
    have := hr k (by simp at hk; omega)
    have ha' : a.length = pre.length := by rw [ha]; simp
    rw [spec_Transpose.l1, if_neg (by omega), if_pos (by omega), if_pos (by omega), rp, if_pos p0, if_pos px, if_pos (by simp; omega), if_pos py, if_pos (by simp; omega), this]
    simp
  | cons q b IH =>
    intro a k ha hn hk
    obtain ⟨k, rfl⟩ : ∃ m, k = m + 1 := ⟨k - 1, by omega⟩
    simp only [List.length_cons] at hk
    have hla : (pre.length : Int) = a.length + 1 + b.length := by rw [ha, len_mid]
    have rq : rd perm (a.length : Int) = q := by rw [hp, ha, List.append_assoc, List.cons_append, rd_at]
    have e2 : wrap64 ((a.length : Int) + 1) = ((a ++ [q]).length : Int) := by rw [w_id (by omega) (by omega)]; simp
    rw [spec_Transpose.l1, if_pos (by omega), if_pos (by omega), if_pos (by omega), if_pos (by omega), if_pos (by omega), rq, rp, e2]
    by_cases c : q = p
    · rw [if_pos c, if_pos (by simp [c])]
    · rw [if_neg c, IH (a ++ [q]) k (by rw [ha]; simp) (by simp; exact ⟨hn, fun h => c h.symm⟩) (by omega)]
      have : (p ∈ q :: b) ↔ p ∈ b := by simp; intro h; exact absurd h.symm c
      simp only [this]
theorem spec_l0 (perm xs ys : List Int) (o : Int) (h4 : perm.length ≤ 4) (hx : xs.length = perm.length) (hy : ys.length = perm.length) : ∀ (suf pre : List Int) (k : Nat), perm = pre ++ suf → 12 * suf.length < k →
    spec_Transpose.l0 k perm pre.length xs ys o (pre.map (rd xs)) (pre.map (rd ys)) o = some (tans perm.length xs ys o pre suf) := by
  intro suf
  induction suf with
  | nil =>
    intro pre k hp hk
    obtain ⟨k, rfl⟩ : ∃ m, k = m + 1 := ⟨k - 1, by omega⟩
    rw [spec_Transpose.l0, if_neg (by rw [hp]; simp)]
    rfl
  | cons p suf IH =>
    intro pre k hp hk
    simp only [List.length_cons] at hk
    obtain ⟨k, rfl⟩ : ∃ m, k = m + 1 := ⟨k - 1, by omega⟩
    obtain ⟨k, rfl⟩ : ∃ m, k = m + 1 := ⟨k - 1, by omega⟩
    have hl : (perm.length : Int) = pre.length + 1 + suf.length := by rw [hp, len_mid]
    have rp : rd perm (pre.length : Int) = p := by rw [hp, rd_at]
    rw [spec_Transpose.l0, if_pos (by omega), if_pos (by omega), rp]
    unfold tans
    by_cases c1 : p < 0
    · rw [if_pos c1, spec_Transpose.j1, if_pos rfl, if_pos (.inl c1)]
    · rw [if_neg c1]
      by_cases c2 : p ≥ (perm.length : Int)
      · rw [decide_eq_true c2, spec_Transpose.j1, if_pos rfl, if_pos (.inr (.inl c2))]
      · rw [decide_eq_false c2, spec_Transpose.j1, if_neg (by decide)]
        have e2 : wrap64 ((pre.length : Int) + 1) = ((pre ++ [p]).length : Int) := by rw [w_id (by omega) (by omega)]; simp
        have S := spec_l1 perm xs ys o pre suf p hp h4 (by omega) (by omega) (by omega) (12 * suf.length + 1) (some (tans perm.length xs ys o (pre ++ [p]) suf)) (by
          intro k hk
          rw [e2]
          have := IH (pre ++ [p]) k (by rw [hp]; simp) (by omega)
          rw [← this]
          simp) pre [] k rfl (by simp) (by omega)
        have S := (show spec_Transpose.l1 k perm pre.length ((0 : Nat) : Int) xs ys o (pre.map (rd xs)) (pre.map (rd ys)) o = _ from S)
        rw [Int.natCast_zero] at S
        rw [S]
        by_cases c3 : p ∈ pre
        · rw [if_pos c3, if_pos (.inr (.inr c3))]
        · rw [if_neg c3, if_neg (by rintro (h | h | h); exact c1 h; exact c2 h; exact c3 h)]
/-- The marks of the axes so far. -/
def sn (pre : List Int) : List Bool := (List.range 4).map fun (i : Nat) => decide ((i : Int) ∈ pre)
theorem sn_nil : sn [] = List.replicate 4 false := by decide
theorem sn_rd (pre : List Int) (p : Int) (h0 : 0 ≤ p) (h4 : p < 4) : rdOf false (sn pre) p = decide (p ∈ pre) := by
  obtain ⟨q, rfl⟩ := Int.eq_ofNat_of_zero_le h0
  have hq : q < 4 := by omega
  unfold rdOf sn
  simp [List.getD_eq_getElem?_getD, List.getElem?_map, List.getElem?_range hq]
theorem sn_set (pre : List Int) (p : Int) (h0 : 0 ≤ p) : (sn pre).set p.toNat true = sn (pre ++ [p]) := by
  obtain ⟨q, rfl⟩ := Int.eq_ofNat_of_zero_le h0
  unfold sn
  apply List.ext_getElem (by simp)
  intro i h1 h2
  simp at h1 h2
  simp only [List.getElem_set, List.getElem_map, List.getElem_range, List.mem_append, List.mem_singleton, Int.toNat_natCast]
  by_cases e : q = i
  · subst e; simp
  · have : ¬ (i : Int) = (q : Int) := by omega
    simp [e, this]
theorem sn_len (pre : List Int) : (sn pre).length = 4 := by simp [sn]
theorem impl_l0 (perm xs ys : List Int) (o : Int) (h4 : perm.length ≤ 4) (hx : xs.length = perm.length) (hy : ys.length = perm.length) : ∀ (suf pre : List Int) (k : Nat), perm = pre ++ suf → suf.length < k →
    impl_Transpose.l0 k perm (sn pre) perm perm.length pre.length xs ys o (pre.map (rd xs)) (pre.map (rd ys)) o = some (tans perm.length xs ys o pre suf) := by
  intro suf
  induction suf with
  | nil =>
    intro pre k hp hk
    obtain ⟨k, rfl⟩ : ∃ m, k = m + 1 := ⟨k - 1, by omega⟩
    rw [impl_Transpose.l0, if_neg (by rw [hp]; simp)]
    rfl
  | cons p suf IH =>
    intro pre k hp hk
    simp only [List.length_cons] at hk
    obtain ⟨k, rfl⟩ : ∃ m, k = m + 1 := ⟨k - 1, by omega⟩
    have hl : (perm.length : Int) = pre.length + 1 + suf.length := by rw [hp, len_mid]
    have rp : rd perm (pre.length : Int) = p := by rw [hp, rd_at]
    rw [impl_Transpose.l0, if_pos (by omega), if_pos (by omega), if_pos (by omega), rp]
    unfold tans
    by_cases c1 : p < 0
    · rw [if_pos c1, if_pos (.inl c1)]
    · rw [if_neg c1]
      by_cases c2 : p ≥ (perm.length : Int)
      · rw [if_pos c2, if_pos (.inr (.inl c2))]
      · rw [if_neg c2, if_pos (by omega), if_pos (by rw [sn_len]; omega), sn_rd pre p (by omega) (by omega)]
        by_cases c3 : p ∈ pre
        · rw [if_pos (decide_eq_true c3), if_pos (.inr (.inr c3))]
        · have e2 : wrap64 ((pre.length : Int) + 1) = ((pre ++ [p]).length : Int) := by rw [w_id (by omega) (by omega)]; simp
          have ih := IH (pre ++ [p]) k (by rw [hp]; simp) (by omega)
          rw [if_neg (by simpa using c3), if_neg (show ¬ (p < 0 ∨ (perm.length : Int) ≤ p ∨ p ∈ pre) by rintro (h | h | h); exact c1 h; exact c2 h; exact c3 h), if_pos (by omega), if_pos (by simp; omega), if_pos (by omega), if_pos (by simp; omega), e2, sn_set pre p (by omega), ← ih]
          simp
theorem alike (xs ys shape : List Int) (o : Int) (k : Nat) (hx : xs.length ≤ 1048576) (hy : ys.length ≤ 1048576) (hs : shape.length ≤ 1048576) (hk : 4000000 < k) :
    ∃ c L1 L2 p, L1.length ≤ 1048576 ∧ L2.length ≤ 1048576 ∧ spec_Transpose.f k xs ys o shape = some (c, L1, L2, p) ∧ impl_Transpose.f k xs ys o shape = some (c, L1, L2, p) := by
  obtain ⟨b, h1, h2, h3⟩ := vv_alike k xs ys o (by omega)
  unfold spec_Transpose.f impl_Transpose.f
  rw [h1, h2]
  simp only [Option.bind_some]
  cases b with
  | false => exact ⟨12, [], [], 0, by simp, by simp, rfl, rfl⟩
  | true =>
    obtain ⟨gx, lxy, o0, o1, oy, _⟩ := h3 rfl
    rw [if_pos rfl, if_pos rfl]
    have x4 := gx.1
    by_cases hl : (shape.length : Int) = (xs.length : Int)
    · rw [if_pos hl, if_pos hl, if_pos (by omega)]
      have S := spec_l0 shape xs ys o (by omega) (by omega) (by omega) shape [] k (by simp) (by omega)
      have I := impl_l0 shape xs ys o (by omega) (by omega) (by omega) shape [] k (by simp) (by omega)
      rw [sn_nil] at I
      simp only [List.length_nil, Int.natCast_zero, List.map_nil] at S I
      rw [S, I]
      have := tans_len shape.length xs ys o shape []
      simp at this
      refine ⟨(tans shape.length xs ys o [] shape).1, (tans shape.length xs ys o [] shape).2.1, (tans shape.length xs ys o [] shape).2.2.1, (tans shape.length xs ys o [] shape).2.2.2, ?_, ?_, rfl, rfl⟩
      · omega
      · omega
    · rw [if_neg hl, if_neg hl]
      exact ⟨5, [], [], 0, by simp, by simp, rfl, rfl⟩
theorem law_true (xs ys shape : List Int) (o : Int) (k : Nat) (hx : xs.length ≤ 1048576) (hy : ys.length ≤ 1048576) (hs : shape.length ≤ 1048576) (hk : 8000000 < k) (z : Int) (hz : laws_szView.f xs ys o 1048576 = some z) : laws_FnExactTranspose.f k xs ys o shape = some true := by
  obtain ⟨c, L1, L2, p, b1, b2, hs1, hi1⟩ := alike xs ys shape o k hx hy hs (by omega)
  have j : laws_FnExactTranspose.j0 k shape false xs ys o c L1 L2 p c L1 L2 p = some true := by
    obtain ⟨q, rfl⟩ : ∃ q, k = q + 1 := ⟨k - 1, by omega⟩
    obtain ⟨c', L1', L2', p', b1', b2', hs', hi'⟩ := alike xs ys shape o q hx hy hs (by omega)
    have e1 := spec_Transpose.mono xs ys o shape q _ hs'
    rw [hs1] at e1
    obtain ⟨rfl, rfl, rfl, rfl⟩ : c = c' ∧ L1 = L1' ∧ L2 = L2' ∧ p = p' := by simpa using e1
    simp only [laws_FnExactTranspose.j0, Bool.false_eq_true, if_false]
    rw [markVR q c L1 L2 p 1 b1 b2 (by omega) (by omega) (by omega)]; simp only [Option.bind_some]
    rw [heldVR q L1.length L2.length c p 1 b1 b2 (by omega) (by omega) (by omega)]; simp only [Option.bind_some]
    rw [if_neg (by omega), if_pos trivial, toV q xs ys o hx hy (by omega)]; simp only [Option.bind_some]
    rw [to_f q shape (by omega) (by omega)]; simp only [Option.bind_some]
    rw [hi']; simp only [Option.bind_some]
    rw [eqVR q c L1 L2 p b1 b2 (by omega)]; simp only [Option.bind_some]
    rw [if_pos trivial, if_neg (by omega), if_pos trivial]
  unfold laws_FnExactTranspose.f
  rw [if_neg (by omega), hz]; simp only [Option.bind_some]
  by_cases hz0 : z < 0
  · rw [if_pos hz0]
  rw [if_neg hz0, toV k xs ys o hx hy (by omega)]; simp only [Option.bind_some]
  rw [to_f k shape (by omega) (by omega)]; simp only [Option.bind_some]
  rw [hs1]; simp only [Option.bind_some]
  rw [hi1]; simp only [Option.bind_some]
  rw [eqVR k c L1 L2 p b1 b2 (by omega)]; simp only [Option.bind_some]
  rw [if_pos trivial, eqV k xs ys o hx hy (by omega)]; simp only [Option.bind_some]
  rw [if_pos trivial, eq_f k shape (by omega) (by omega)]; simp only [Option.bind_some]
  rw [if_pos trivial, markV k xs ys o 1 hx hy (by omega) (by omega) (by omega)]; simp only [Option.bind_some]
  rw [mark_f shape k _ (by omega) (by omega) (by omega) (by omega)]; simp only [Option.bind_some]
  rw [if_neg (by omega)]
  exact j
theorem law_words (xs ys : List Int) (o : Int) (shape : List Int) (h1 : xs.length ≤ 9223372036854775807) (h2 : ys.length ≤ 9223372036854775807) : ∃ k, laws_FnExactTranspose.f k xs ys o shape = some true := by
  refine ⟨8000001, ?_⟩
  by_cases hs : (shape.length : Int) > 1048576
  · unfold laws_FnExactTranspose.f
    rw [if_pos hs]
  · obtain ⟨z, hz, hb⟩ := szView xs ys o h1 h2
    rcases hb with hb | hb
    · unfold laws_FnExactTranspose.f
      rw [if_neg hs, hz]; simp only [Option.bind_some]
      rw [if_pos hb]
    · exact law_true xs ys shape o _ hb.1 hb.2 (by omega) (by omega) z hz
end Go.Proofs.Ytpmdgmnpkdoamaa.DFnExactTranspose
