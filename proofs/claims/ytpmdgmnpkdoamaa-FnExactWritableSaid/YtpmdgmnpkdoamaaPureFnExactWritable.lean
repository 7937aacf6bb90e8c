/- Proved here: what the words printed for the law on Writable come to: the law answers true (plain Lean). Conditions: the lists' lengths. -/
import Derived.Test.YtpmdgmnpkdoamaaBFnExactWritable
namespace Go.Proofs.Ytpmdgmnpkdoamaa.DFnExactWritable
open Go.RowKit Go.Proofs.YtpmdgmnpkdoamaaW.PrintWords Go.Proofs.YtpmdgmnpkdoamaaW.PrintLast Go.Proofs.YtpmdgmnpkdoamaaW.PrintMore
set_option linter.unusedVariables false
set_option linter.unusedSimpArgs false
theorem pl_eq : ∀ (xs ys : List Int) (o : Int), Odo.places xs ys o = places xs ys o
  | [], ys, o => by simp [places, Odo.places]
  | _ :: _, [], o => by simp [places, Odo.places]
  | n :: ns, s :: ss, o => by
    simp only [places, Odo.places]
    congr 1
    funext i
    exact pl_eq ns ss _
theorem pr_eq : ∀ xs : List Int, Odo.pr xs = cnt xs
  | [] => rfl
  | x :: xs => by simp only [Odo.pr, cnt, pr_eq xs]
/-- What a valid view's places are. -/
def offs (xs ys : List Int) (o : Int) : List Int := if cnt xs = 0 then [] else places xs ys o
theorem offs_len {xs ys : List Int} {o : Int} (h : VV xs ys o) : (offs xs ys o).length ≤ 4096 := by
  obtain ⟨g, l, o0, o1, oy, r⟩ := h
  unfold offs
  split
  · simp
  · have := places_len xs ys o (by omega) g.2.1
    have := g.2.2
    omega
theorem good_of {xs ys : List Int} {o : Int} (h : VV xs ys o) : Odo.Good xs ys o (cnt xs) := by
  obtain ⟨g, l, o0, o1, oy, r⟩ := h
  refine ⟨l, g.1, fun hc => ⟨pos_of_cnt g.2.1 hc, oy, by rw [pr_eq]; exact g.2.2, ?_⟩⟩
  intro x hx
  rw [pl_eq] at hx
  exact r hc x hx
theorem placesOf_eq (xs ys : List Int) (o : Int) : Odo.placesOf xs ys o (cnt xs) = offs xs ys o := by
  unfold Odo.placesOf offs
  rw [pl_eq]
theorem spec_offs {xs ys : List Int} {o : Int} (h : VV xs ys o) (k : Nat) (hk : 100000 ≤ k) : spec_l2Offsets.f k xs ys o = some (offs xs ys o) := by
  obtain ⟨g, l, o0, o1, oy, r⟩ := h
  have h4 := g.1
  unfold spec_l2Offsets.f offs
  rw [(l2count_f k xs (by omega)).1 g]
  simp only [Option.bind_some]
  by_cases hc : cnt xs = 0
  · rw [if_pos hc, if_pos hc]
  · rw [if_neg hc, if_neg hc]
    have hnd := need_le xs g.2.1
    have P := places_f xs ys o xs ys [] [] k o rfl rfl rfl (by omega) (by omega) (by simpa using g.1) g.2.1 (pos_of_cnt g.2.1 hc) oy g.2.2 (by omega) (by omega)
    simp only [List.length_nil, Int.natCast_zero] at P
    rw [P]; rfl
/-- The reference's marks. -/
def mb (m : Nat) (pre : List Int) : List Bool := (List.range m).map fun (i : Nat) => decide ((i : Int) ∈ pre)
theorem mb_nil (m : Nat) : List.replicate m false = mb m [] := by
  apply List.ext_getElem (by simp [mb])
  intro i h1 h2
  simp [mb]
theorem mb_len (m : Nat) (pre : List Int) : (mb m pre).length = m := by simp [mb]
theorem mb_get (m : Nat) (pre : List Int) (q : Nat) (h : q < m) : rdOf false (mb m pre) (q : Int) = decide ((q : Int) ∈ pre) := by
  unfold rdOf mb
  rw [Int.toNat_natCast, List.getD_eq_getElem?_getD]
  simp [h]
theorem mb_set (m : Nat) (pre : List Int) (q : Nat) : (mb m pre).set q true = mb m (pre ++ [(q : Int)]) := by
  apply List.ext_getElem (by simp [mb])
  intro i h1 h2
  simp [mb] at h1 h2
  simp only [mb, List.getElem_set, List.getElem_map, List.getElem_range, List.mem_append, List.mem_singleton]
  by_cases e : q = i
  · subst e; simp
  · have : ¬ (i : Int) = (q : Int) := by omega
    simp [e, this]
theorem snoc_nodup {pre : List Int} {x : Int} : (pre ++ [x]).Nodup ↔ pre.Nodup ∧ x ∉ pre := Odo.nodup_snoc
theorem w_l0 (m : Nat) (hm4 : m = 4096) : ∀ (suf pre : List Int) (k : Nat), suf.length < k → inr (pre ++ suf) → pre.length + suf.length ≤ 4096 → pre.Nodup →
    spec_Writable.l0 k (mb m pre) (pre ++ suf) pre.length = some (decide (pre ++ suf).Nodup)
  | [], pre, k, hk, _, _, hn => by
    obtain ⟨k, rfl⟩ : ∃ m, k = m + 1 := ⟨k - 1, by omega⟩
    rw [spec_Writable.l0, if_neg (by simp), decide_eq_true (by simpa using hn)]
  | x :: suf, pre, k, hk, hi, hl, hn => by
    obtain ⟨k, rfl⟩ : ∃ m, k = m + 1 := ⟨k - 1, by omega⟩
    simp only [List.length_cons] at hk hl
    have hx := hi x (by simp)
    obtain ⟨q, rfl⟩ : ∃ q : Nat, x = (q : Int) := ⟨x.toNat, by omega⟩
    have hlen := len_mid pre suf (q : Int)
    have ih := w_l0 m hm4 suf (pre ++ [(q : Int)]) k (by omega) (by simpa using hi) (by simp; omega)
    rw [spec_Writable.l0, if_pos (by omega), if_pos (by omega), rd_at, if_pos (by omega), if_pos (by rw [mb_len]; omega), mb_get m pre q (by omega)]
    by_cases hm : (q : Int) ∈ pre
    · rw [decide_eq_true hm, if_pos rfl, decide_eq_false]
      intro h
      have h2 : (pre ++ [(q : Int)] ++ suf).Nodup := by simpa using h
      exact (snoc_nodup.1 ((List.nodup_append.1 h2).1)).2 hm
    · rw [decide_eq_false hm, if_neg (by simp), Int.toNat_natCast, mb_set, w_id (by omega) (by omega), next_len pre (q : Int), next_pre pre suf (q : Int)]
      exact ih (snoc_nodup.2 ⟨hn, hm⟩)
theorem w_start (L : List Int) (k : Nat) (hk : L.length < k) (hi : inr L) (hl : L.length ≤ 4096) (m : Nat) (hm4 : m = 4096) : spec_Writable.l0 k (List.replicate m false) L 0 = some (decide L.Nodup) := by
  have W := w_l0 m hm4 L [] k hk hi (by simpa using hl) List.nodup_nil
  rw [mb_nil]
  exact W
theorem offs_inr {xs ys : List Int} {o : Int} (h : VV xs ys o) : inr (offs xs ys o) := by
  obtain ⟨g, l, o0, o1, oy, r⟩ := h
  unfold offs
  split
  · intro x hx; simp at hx
  · rename_i hc; exact r hc
theorem alike (xs ys : List Int) (o : Int) (k : Nat) (hx : xs.length ≤ 1048576) (hy : ys.length ≤ 1048576) (hk : 4000000 < k) :
    ∃ b : Bool, spec_Writable.f k xs ys o = some b ∧ impl_Writable.f k xs ys o = some b := by
  obtain ⟨b, h1, h2, h3⟩ := vv_alike k xs ys o (by omega)
  unfold spec_Writable.f impl_Writable.f
  rw [h1, h2]
  simp only [Option.bind_some]
  cases b with
  | false => exact ⟨false, rfl, rfl⟩
  | true =>
    have v := h3 rfl
    have ln := offs_len v
    have W := w_start (offs xs ys o) k (by omega) (offs_inr v) ln 4096 rfl
    rw [if_pos rfl, if_pos rfl, if_pos (by decide), spec_offs v k (by omega)]
    simp only [Option.bind_some]
    rw [W]
    unfold impl_writable.f
    have h4 := v.1.1
    rw [count_f k xs (by omega) h4 v.1.2.1]
    simp only [Option.bind_some]
    rw [if_pos (good_of v), placesOf_eq]
    exact ⟨_, rfl, rfl⟩
theorem law_true (xs ys : List Int) (o : Int) (k : Nat) (hx : xs.length ≤ 1048576) (hy : ys.length ≤ 1048576) (hk : 8000000 < k) (z : Int) (hz : laws_szView.f xs ys o 1048576 = some z) : laws_FnExactWritable.f k xs ys o = some true := by
  obtain ⟨b, hs1, hi1⟩ := alike xs ys o k hx hy (by omega)
  unfold laws_FnExactWritable.f
  rw [hz]; simp only [Option.bind_some]
  by_cases hz0 : z < 0
  · rw [if_pos hz0]
  rw [if_neg hz0, toV k xs ys o hx hy (by omega)]; simp only [Option.bind_some]
  rw [hs1]; simp only [Option.bind_some]
  rw [hi1]; simp only [Option.bind_some]
  rw [if_neg (by simp), eqV k xs ys o hx hy (by omega)]; simp only [Option.bind_some]
  rw [if_pos trivial]
theorem law_words (xs ys : List Int) (o : Int) (h1 : xs.length ≤ 9223372036854775807) (h2 : ys.length ≤ 9223372036854775807) : ∃ k, laws_FnExactWritable.f k xs ys o = some true := by
  refine ⟨8000001, ?_⟩
  obtain ⟨z, hz, hb⟩ := szView xs ys o h1 h2
  rcases hb with hb | hb
  · unfold laws_FnExactWritable.f
    rw [hz]; simp only [Option.bind_some]
    rw [if_pos hb]
  · exact law_true xs ys o _ hb.1 hb.2 (by omega) z hz
end Go.Proofs.Ytpmdgmnpkdoamaa.DFnExactWritable
