/- Proved here: what the words printed for the law on Offsets come to: the law answers true (plain Lean). Conditions: the lists' lengths. -/
import Derived.Test.YtpmdgmnpkdoamaaBFnExactOffsets
namespace Go.Proofs.Ytpmdgmnpkdoamaa.DFnExactOffsets
open Go.RowKit Go.Proofs.YtpmdgmnpkdoamaaW.PrintWords Go.Proofs.YtpmdgmnpkdoamaaW.PrintLast Go.Proofs.YtpmdgmnpkdoamaaW.PrintMore
set_option linter.unusedVariables false
set_option linter.unusedSimpArgs false
theorem pl_eq : ∀ (xs ys : List Int) (o : Int), Odo.places xs ys o = places xs ys o
  | [], ys, o => by simp [places, Odo.places]
  | _ :: _, [], o => by simp [places, Odo.places]
  | n :: ns, s :: ss, o => by
    simp only [places, Odo.places]
    congr 1
    funext i
    exact pl_eq ns ss _
theorem pr_eq : ∀ xs : List Int, Odo.pr xs = cnt xs
  | [] => rfl
  | x :: xs => by simp only [Odo.pr, cnt, pr_eq xs]
/-- What a valid view's places are. -/
def offs (xs ys : List Int) (o : Int) : List Int := if cnt xs = 0 then [] else places xs ys o
theorem offs_len {xs ys : List Int} {o : Int} (h : VV xs ys o) : (offs xs ys o).length ≤ 4096 := by
  obtain ⟨g, l, o0, o1, oy, r⟩ := h
  unfold offs
  split
  · simp
  · have := places_len xs ys o (by omega) g.2.1
    have := g.2.2
    omega
theorem good_of {xs ys : List Int} {o : Int} (h : VV xs ys o) : Odo.Good xs ys o (cnt xs) := by
  obtain ⟨g, l, o0, o1, oy, r⟩ := h
  refine ⟨l, g.1, fun hc => ⟨pos_of_cnt g.2.1 hc, oy, by rw [pr_eq]; exact g.2.2, ?_⟩⟩
  intro x hx
  rw [pl_eq] at hx
  exact r hc x hx
theorem placesOf_eq (xs ys : List Int) (o : Int) : Odo.placesOf xs ys o (cnt xs) = offs xs ys o := by
  unfold Odo.placesOf offs
  rw [pl_eq]
theorem impl_offs {xs ys : List Int} {o : Int} (h : VV xs ys o) (k : Nat) (hk : 100000 ≤ k) : impl_offsets.f k xs ys o = some (offs xs ys o) := by
  unfold impl_offsets.f
  have h4 := h.1.1
  rw [count_f k xs (by omega) h4 h.1.2.1]
  simp only [Option.bind_some]
  rw [if_pos (good_of h), placesOf_eq]
theorem spec_offs {xs ys : List Int} {o : Int} (h : VV xs ys o) (k : Nat) (hk : 100000 ≤ k) : spec_l2Offsets.f k xs ys o = some (offs xs ys o) := by
  obtain ⟨g, l, o0, o1, oy, r⟩ := h
  have h4 := g.1
  unfold spec_l2Offsets.f offs
  rw [(l2count_f k xs (by omega)).1 g]
  simp only [Option.bind_some]
  by_cases hc : cnt xs = 0
  · rw [if_pos hc, if_pos hc]
  · rw [if_neg hc, if_neg hc]
    have hnd := need_le xs g.2.1
    have P := places_f xs ys o xs ys [] [] k o rfl rfl rfl (by omega) (by omega) (by simpa using g.1) g.2.1 (pos_of_cnt g.2.1 hc) oy g.2.2 (by omega) (by omega)
    simp only [List.length_nil, Int.natCast_zero] at P
    rw [P]; rfl
theorem alike (xs ys : List Int) (o : Int) (k : Nat) (hx : xs.length ≤ 1048576) (hy : ys.length ≤ 1048576) (hk : 4000000 < k) :
    ∃ L, L.length ≤ 4096 ∧ spec_Offsets.f k xs ys o = some L ∧ impl_Offsets.f k xs ys o = some L := by
  obtain ⟨b, h1, h2, h3⟩ := vv_alike k xs ys o (by omega)
  unfold spec_Offsets.f impl_Offsets.f
  rw [h1, h2]
  simp only [Option.bind_some]
  cases b with
  | false => exact ⟨[], by simp, rfl, rfl⟩
  | true =>
    have v := h3 rfl
    rw [if_pos rfl, if_pos rfl, spec_offs v k (by omega), impl_offs v k (by omega)]
    exact ⟨_, offs_len v, rfl, rfl⟩
theorem law_true (xs ys : List Int) (o : Int) (k : Nat) (hx : xs.length ≤ 1048576) (hy : ys.length ≤ 1048576) (hk : 8000000 < k) (z : Int) (hz : laws_szView.f xs ys o 1048576 = some z) : laws_FnExactOffsets.f k xs ys o = some true := by
  obtain ⟨L, b1, hs1, hi1⟩ := alike xs ys o k hx hy (by omega)
  have j : laws_FnExactOffsets.j0 k L L false xs ys o = some true := by
    obtain ⟨q, rfl⟩ : ∃ q, k = q + 1 := ⟨k - 1, by omega⟩
    obtain ⟨L', b1', hs', hi'⟩ := alike xs ys o q hx hy (by omega)
    have e1 := spec_Offsets.mono xs ys o q _ hs'
    rw [hs1] at e1
    obtain rfl : L = L' := by simpa using e1
    simp only [laws_FnExactOffsets.j0, Bool.false_eq_true, if_false]
    rw [mark_f L q 1 (by omega) (by omega) (by omega) (by omega)]; simp only [Option.bind_some]
    rw [held_f L.length q 1 (by omega) (by omega) (by omega) (by omega)]; simp only [Option.bind_some]
    rw [if_neg (by omega), if_pos trivial, toV q xs ys o hx hy (by omega)]; simp only [Option.bind_some]
    rw [hi']; simp only [Option.bind_some]
    rw [eq_f q L (by omega) (by omega)]; simp only [Option.bind_some]
    rw [if_pos trivial, if_neg (by omega), if_pos trivial]
  unfold laws_FnExactOffsets.f
  rw [hz]; simp only [Option.bind_some]
  by_cases hz0 : z < 0
  · rw [if_pos hz0]
  rw [if_neg hz0, toV k xs ys o hx hy (by omega)]; simp only [Option.bind_some]
  rw [hs1]; simp only [Option.bind_some]
  rw [hi1]; simp only [Option.bind_some]
  rw [eq_f k L (by omega) (by omega)]; simp only [Option.bind_some]
  rw [if_pos trivial, eqV k xs ys o hx hy (by omega)]; simp only [Option.bind_some]
  rw [if_pos trivial, markV k xs ys o 1 hx hy (by omega) (by omega) (by omega)]; simp only [Option.bind_some]
  rw [if_neg (by omega)]
  exact j
theorem law_words (xs ys : List Int) (o : Int) (h1 : xs.length ≤ 9223372036854775807) (h2 : ys.length ≤ 9223372036854775807) : ∃ k, laws_FnExactOffsets.f k xs ys o = some true := by
  refine ⟨8000001, ?_⟩
  obtain ⟨z, hz, hb⟩ := szView xs ys o h1 h2
  rcases hb with hb | hb
  · unfold laws_FnExactOffsets.f
    rw [hz]; simp only [Option.bind_some]
    rw [if_pos hb]
  · exact law_true xs ys o _ hb.1 hb.2 (by omega) z hz
end Go.Proofs.Ytpmdgmnpkdoamaa.DFnExactOffsets
