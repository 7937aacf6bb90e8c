/- Proved here: what the words printed for the law on Overlap come to: the law answers true (plain Lean). Conditions: the lists' lengths. -/
import Derived.Test.YtpmdgmnpkdoamaaBFnExactOverlap
namespace Go.Proofs.Ytpmdgmnpkdoamaa.DFnExactOverlap
open Go.RowKit Go.Proofs.YtpmdgmnpkdoamaaW.PrintWords Go.Proofs.YtpmdgmnpkdoamaaW.PrintLast Go.Proofs.YtpmdgmnpkdoamaaW.PrintMore
open Go.Proofs.Ytpmdgmnpkdoamaa.PFnExactValidView
set_option linter.unusedVariables false
set_option linter.unusedSimpArgs false
theorem pl_eq : ∀ (xs ys : List Int) (o : Int), Odo.places xs ys o = places xs ys o
  | [], ys, o => by simp [places, Odo.places]
  | _ :: _, [], o => by simp [places, Odo.places]
  | n :: ns, s :: ss, o => by
    simp only [places, Odo.places]
    congr 1
    funext i
    exact pl_eq ns ss _
theorem pr_eq : ∀ xs : List Int, Odo.pr xs = cnt xs
  | [] => rfl
  | x :: xs => by simp only [Odo.pr, cnt, pr_eq xs]
/-- What a valid view's places are. -/
def offs (xs ys : List Int) (o : Int) : List Int := if cnt xs = 0 then [] else places xs ys o
theorem offs_len {xs ys : List Int} {o : Int} (h : VV xs ys o) : (offs xs ys o).length ≤ 4096 := by
  obtain ⟨g, l, o0, o1, oy, r⟩ := h
  unfold offs
  split
  · simp
  · have := places_len xs ys o (by omega) g.2.1
    have := g.2.2
    omega
theorem good_of {xs ys : List Int} {o : Int} (h : VV xs ys o) : Odo.Good xs ys o (cnt xs) := by
  obtain ⟨g, l, o0, o1, oy, r⟩ := h
  refine ⟨l, g.1, fun hc => ⟨pos_of_cnt g.2.1 hc, oy, by rw [pr_eq]; exact g.2.2, ?_⟩⟩
  intro x hx
  rw [pl_eq] at hx
  exact r hc x hx
theorem placesOf_eq (xs ys : List Int) (o : Int) : Odo.placesOf xs ys o (cnt xs) = offs xs ys o := by
  unfold Odo.placesOf offs
  rw [pl_eq]
theorem spec_offs {xs ys : List Int} {o : Int} (h : VV xs ys o) (k : Nat) (hk : 100000 ≤ k) : spec_l2Offsets.f k xs ys o = some (offs xs ys o) := by
  obtain ⟨g, l, o0, o1, oy, r⟩ := h
  have h4 := g.1
  unfold spec_l2Offsets.f offs
  rw [(l2count_f k xs (by omega)).1 g]
  simp only [Option.bind_some]
  by_cases hc : cnt xs = 0
  · rw [if_pos hc, if_pos hc]
  · rw [if_neg hc, if_neg hc]
    have hnd := need_le xs g.2.1
    have P := places_f xs ys o xs ys [] [] k o rfl rfl rfl (by omega) (by omega) (by simpa using g.1) g.2.1 (pos_of_cnt g.2.1 hc) oy g.2.2 (by omega) (by omega)
    simp only [List.length_nil, Int.natCast_zero] at P
    rw [P]; rfl
/-- The reference's marks. -/
def mb (m : Nat) (pre : List Int) : List Bool := (List.range m).map fun (i : Nat) => decide ((i : Int) ∈ pre)
theorem mb_nil (m : Nat) : List.replicate m false = mb m [] := by
  apply List.ext_getElem (by simp [mb])
  intro i h1 h2
  simp [mb]
theorem mb_len (m : Nat) (pre : List Int) : (mb m pre).length = m := by simp [mb]
theorem mb_get (m : Nat) (pre : List Int) (q : Nat) (h : q < m) : rdOf false (mb m pre) (q : Int) = decide ((q : Int) ∈ pre) := by
  unfold rdOf mb
  rw [Int.toNat_natCast, List.getD_eq_getElem?_getD]
  simp [h]
theorem mb_set (m : Nat) (pre : List Int) (q : Nat) : (mb m pre).set q true = mb m (pre ++ [(q : Int)]) := by
  apply List.ext_getElem (by simp [mb])
  intro i h1 h2
  simp [mb] at h1 h2
  simp only [mb, List.getElem_set, List.getElem_map, List.getElem_range, List.mem_append, List.mem_singleton]
  by_cases e : q = i
  · subst e; simp
  · have : ¬ (i : Int) = (q : Int) := by omega
    simp [e, this]
theorem snoc_nodup {pre : List Int} {x : Int} : (pre ++ [x]).Nodup ↔ pre.Nodup ∧ x ∉ pre := Odo.nodup_snoc
theorem offs_inr {xs ys : List Int} {o : Int} (h : VV xs ys o) : inr (offs xs ys o) := by
  obtain ⟨g, l, o0, o1, oy, r⟩ := h
  unfold offs
  split
  · intro x hx; simp at hx
  · rename_i hc; exact r hc
theorem o_l1 (m : Nat) (hm4 : m = 4096) (xs : List Int) : ∀ (suf pre : List Int) (k : Nat), suf.length < k → inr (pre ++ suf) → pre.length + suf.length ≤ 4096 →
    spec_Overlap.l1 k (mb m xs) (pre ++ suf) pre.length = some (decide (∃ x ∈ suf, x ∈ xs))
  | [], pre, k, hk, _, _ => by
    obtain ⟨k, rfl⟩ : ∃ m, k = m + 1 := ⟨k - 1, by omega⟩
    rw [spec_Overlap.l1, if_neg (by simp), decide_eq_false (by simp)]
  | x :: suf, pre, k, hk, hi, hl => by
    obtain ⟨k, rfl⟩ : ∃ m, k = m + 1 := ⟨k - 1, by omega⟩
    simp only [List.length_cons] at hk hl
    have hx := hi x (by simp)
    obtain ⟨q, rfl⟩ : ∃ q : Nat, x = (q : Int) := ⟨x.toNat, by omega⟩
    have hlen := len_mid pre suf (q : Int)
    have ih := o_l1 m hm4 xs suf (pre ++ [(q : Int)]) k (by omega) (by simpa using hi) (by simp; omega)
    rw [spec_Overlap.l1, if_pos (by omega), if_pos (by omega), rd_at, if_pos (by omega), if_pos (by rw [mb_len]; omega), mb_get m xs q (by omega)]
    by_cases hm : (q : Int) ∈ xs
    · rw [decide_eq_true hm, if_pos rfl, decide_eq_true ⟨_, by simp, hm⟩]
    · rw [decide_eq_false hm, if_neg (by simp), w_id (by omega) (by omega), next_len pre (q : Int), next_pre pre suf (q : Int), ih]
      congr 1
      apply decide_eq_decide.2
      simp [hm]
theorem o_l0 (m : Nat) (hm4 : m = 4096) (zs ws : List Int) (u : Int) (r : Option Bool) (K : Nat) (xs : List Int) (hr : ∀ k, K ≤ k → ((spec_l2Offsets.f k zs ws u).bind fun t => spec_Overlap.l1 k (mb m xs) t 0) = r) : ∀ (suf pre : List Int) (k : Nat), xs = pre ++ suf → K + suf.length < k → inr (pre ++ suf) → pre.length + suf.length ≤ 4096 →
    spec_Overlap.l0 k (mb m pre) (pre ++ suf) pre.length zs ws u = r
  | [], pre, k, hxs, hk, _, _ => by
    obtain ⟨k, rfl⟩ : ∃ m, k = m + 1 := ⟨k - 1, by omega⟩
    simp only [List.append_nil] at hxs
    subst hxs
    rw [spec_Overlap.l0, if_neg (by simp)]
    exact hr k (by omega)
  | x :: suf, pre, k, hxs, hk, hi, hl => by
    obtain ⟨k, rfl⟩ : ∃ m, k = m + 1 := ⟨k - 1, by omega⟩
    simp only [List.length_cons] at hk hl
    have hx := hi x (by simp)
    obtain ⟨q, rfl⟩ : ∃ q : Nat, x = (q : Int) := ⟨x.toNat, by omega⟩
    have hlen := len_mid pre suf (q : Int)
    have ih := o_l0 m hm4 zs ws u r K xs hr suf (pre ++ [(q : Int)]) k (by rw [hxs]; simp) (by omega) (by simpa using hi) (by simp; omega)
    rw [spec_Overlap.l0, if_pos (by omega), if_pos (by omega), rd_at, if_pos (by omega), if_pos (by rw [mb_len]; omega), Int.toNat_natCast, mb_set, w_id (by omega) (by omega), next_len pre (q : Int), next_pre pre suf (q : Int)]
    exact ih
theorem o_j0 (xs ys zs ws : List Int) (o u : Int) (v1 : VV xs ys o) (v2 : VV zs ws u) (m : Nat) (hm4 : m = 4096) (k : Nat) (hk : 300000 ≤ k) :
    spec_Overlap.l0 k (List.replicate m false) (offs xs ys o) 0 zs ws u = some (decide (∃ x ∈ offs zs ws u, x ∈ offs xs ys o)) := by
  have l1 := offs_len v1
  have l2 := offs_len v2
  have W := o_l0 m hm4 zs ws u (some (decide (∃ x ∈ offs zs ws u, x ∈ offs xs ys o))) 200000 (offs xs ys o) (fun k' hk' => by
    rw [spec_offs v2 k' (by omega)]
    simp only [Option.bind_some]
    exact o_l1 m hm4 (offs xs ys o) (offs zs ws u) [] k' (by omega) (offs_inr v2) (by simpa using l2)) (offs xs ys o) [] k rfl (by omega) (offs_inr v1) (by simpa using l1)
  rw [mb_nil]
  exact W
theorem alike (xs ys zs ws : List Int) (o u : Int) (k : Nat) (hx : xs.length ≤ 1048576) (hy : ys.length ≤ 1048576) (hz : zs.length ≤ 1048576) (hw : ws.length ≤ 1048576) (hk : 4000000 < k) :
    ∃ b : Bool, spec_Overlap.f k xs ys o zs ws u = some b ∧ impl_Overlap.f k xs ys o zs ws u = some b := by
  obtain ⟨b, h1, h2, h3⟩ := vv_alike k xs ys o (by omega)
  obtain ⟨b', g1, g2, g3⟩ := vv_alike k zs ws u (by omega)
  obtain ⟨k, rfl⟩ : ∃ q, k = q + 1 := ⟨k - 1, by omega⟩
  unfold spec_Overlap.f impl_Overlap.f
  rw [h1, h2]
  simp only [Option.bind_some]
  cases b with
  | false => exact ⟨false, by rw [if_neg (by simp), spec_Overlap.j0, if_pos rfl], by rw [if_neg (by simp)]⟩
  | true =>
    rw [if_pos rfl, if_pos rfl, g1, g2]
    simp only [Option.bind_some]
    cases b' with
    | false => exact ⟨false, by rw [spec_Overlap.j0, if_pos (by simp)], by rw [if_neg (by simp)]⟩
    | true =>
      have v1 := h3 rfl
      have v2 := g3 rfl
      have h4 := v1.1.1
      have h5 := v2.1.1
      rw [spec_Overlap.j0, if_neg (by simp), if_pos (by decide), spec_offs v1 k (by omega), if_pos rfl]
      simp only [Option.bind_some]
      rw [o_j0 xs ys zs ws o u v1 v2 4096 rfl k (by omega), count_f _ xs (by omega) h4 v1.1.2.1]
      simp only [Option.bind_some]
      rw [count_f _ zs (by omega) h5 v2.1.2.1]
      simp only [Option.bind_some]
      rw [if_pos ⟨good_of v1, good_of v2⟩, placesOf_eq, placesOf_eq]
      exact ⟨_, rfl, rfl⟩
theorem szViewA (xs ys : List Int) (o a : Int) (ha : 0 ≤ a) (hb : a ≤ 1048576) (h1 : xs.length ≤ 9223372036854775807) (h2 : ys.length ≤ 9223372036854775807) : ∃ z, laws_szView.f xs ys o a = some z ∧ (z < 0 ∨ (0 ≤ z ∧ z ≤ a) ∧ xs.length ≤ 1048576 ∧ ys.length ≤ 1048576) := by
  unfold laws_szView.f
  obtain ⟨z, hz, hz'⟩ := szInt xs a h1 (by omega) (by omega)
  rw [hz]
  simp only [Option.bind_some]
  split
  · exact ⟨_, rfl, .inl (by omega)⟩
  · obtain ⟨y, hy, hy'⟩ := szInt ys z h2 (by omega) (by omega)
    rw [hy]
    simp only [Option.bind_some]
    split
    · exact ⟨_, rfl, .inl (by omega)⟩
    · exact ⟨_, rfl, .inr (by omega)⟩
theorem law_words (xs ys : List Int) (o : Int) (zs ws : List Int) (u : Int) (h1 : xs.length ≤ 9223372036854775807) (h2 : ys.length ≤ 9223372036854775807) (h3 : zs.length ≤ 9223372036854775807) (h4 : ws.length ≤ 9223372036854775807) : ∃ k, laws_FnExactOverlap.f k xs ys o zs ws u = some true := by
  obtain ⟨k, hk⟩ : ∃ k, k = 8000001 := ⟨_, rfl⟩
  refine ⟨k, ?_⟩
  unfold laws_FnExactOverlap.f
  obtain ⟨z, hz, hb⟩ := szViewA xs ys o 1048576 (by omega) (by omega) h1 h2
  rw [hz]; simp only [Option.bind_some]
  by_cases hz0 : z < 0
  · rw [if_pos hz0]
  rw [if_neg hz0]
  obtain ⟨z2, hz2, hb2⟩ := szViewA zs ws u z (by omega) (by omega) h3 h4
  rw [hz2]; simp only [Option.bind_some]
  by_cases hz20 : z2 < 0
  · rw [if_pos hz20]
  rw [if_neg hz20]
  obtain ⟨b, hs1, hi1⟩ := alike xs ys zs ws o u k (by omega) (by omega) (by omega) (by omega) (by omega)
  rw [toV k xs ys o (by omega) (by omega) (by omega), toV k zs ws u (by omega) (by omega) (by omega)]; simp only [Option.bind_some]
  rw [hs1]; simp only [Option.bind_some]
  rw [hi1]; simp only [Option.bind_some]
  rw [if_neg (by simp), eqV k xs ys o (by omega) (by omega) (by omega)]; simp only [Option.bind_some]
  rw [if_pos trivial, eqV k zs ws u (by omega) (by omega) (by omega)]; simp only [Option.bind_some]
  rw [if_pos trivial]
end Go.Proofs.Ytpmdgmnpkdoamaa.DFnExactOverlap
