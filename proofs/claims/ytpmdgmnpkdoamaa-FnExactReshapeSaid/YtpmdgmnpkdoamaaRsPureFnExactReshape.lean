/- Proved here: what the words printed for the law on Reshape come to: the law answers true (plain Lean). Conditions: the lists' lengths. -/
import Derived.Test.YtpmdgmnpkdoamaaRsBFnExactReshape
namespace Go.Proofs.Ytpmdgmnpkdoamaa.DFnExactReshape
open Go.RowKit Go.Proofs.YtpmdgmnpkdoamaaW.PrintWords Go.Proofs.YtpmdgmnpkdoamaaW.PrintLast Go.Proofs.YtpmdgmnpkdoamaaW.PrintMore
set_option linter.unusedVariables false
set_option linter.unusedSimpArgs false
theorem pl_eq : ∀ (xs ys : List Int) (o : Int), Odo.places xs ys o = places xs ys o
  | [], ys, o => by simp [places, Odo.places]
  | _ :: _, [], o => by simp [places, Odo.places]
  | n :: ns, s :: ss, o => by
    simp only [places, Odo.places]
    congr 1
    funext i
    exact pl_eq ns ss _
theorem pr_eq : ∀ xs : List Int, Odo.pr xs = cnt xs
  | [] => rfl
  | x :: xs => by simp only [Odo.pr, cnt, pr_eq xs]
/-- What a valid view's places are. -/
def offs (xs ys : List Int) (o : Int) : List Int := if cnt xs = 0 then [] else places xs ys o
theorem offs_len {xs ys : List Int} {o : Int} (h : VV xs ys o) : (offs xs ys o).length ≤ 4096 := by
  obtain ⟨g, l, o0, o1, oy, r⟩ := h
  unfold offs
  split
  · simp
  · have := places_len xs ys o (by omega) g.2.1
    have := g.2.2
    omega
theorem good_of {xs ys : List Int} {o : Int} (h : VV xs ys o) : Odo.Good xs ys o (cnt xs) := by
  obtain ⟨g, l, o0, o1, oy, r⟩ := h
  refine ⟨l, g.1, fun hc => ⟨pos_of_cnt g.2.1 hc, oy, by rw [pr_eq]; exact g.2.2, ?_⟩⟩
  intro x hx
  rw [pl_eq] at hx
  exact r hc x hx
theorem placesOf_eq (xs ys : List Int) (o : Int) : Odo.placesOf xs ys o (cnt xs) = offs xs ys o := by
  unfold Odo.placesOf offs
  rw [pl_eq]
theorem spec_offs {xs ys : List Int} {o : Int} (h : VV xs ys o) (k : Nat) (hk : 100000 ≤ k) : spec_l2Offsets.f k xs ys o = some (offs xs ys o) := by
  obtain ⟨g, l, o0, o1, oy, r⟩ := h
  have h4 := g.1
  unfold spec_l2Offsets.f offs
  rw [(l2count_f k xs (by omega)).1 g]
  simp only [Option.bind_some]
  by_cases hc : cnt xs = 0
  · rw [if_pos hc, if_pos hc]
  · rw [if_neg hc, if_neg hc]
    have hnd := need_le xs g.2.1
    have P := places_f xs ys o xs ys [] [] k o rfl rfl rfl (by omega) (by omega) (by simpa using g.1) g.2.1 (pos_of_cnt g.2.1 hc) oy g.2.2 (by omega) (by omega)
    simp only [List.length_nil, Int.natCast_zero] at P
    rw [P]; rfl
theorem copy_l0 : ∀ (suf pre : List Int) (k : Nat), suf.length < k → pre.length + suf.length ≤ 1048576 → spec_l2CopyList.l0 k (pre ++ suf) pre pre.length = some (pre ++ suf)
  | [], pre, k, hk, hl => by
    obtain ⟨k, rfl⟩ : ∃ m, k = m + 1 := ⟨k - 1, by omega⟩
    rw [spec_l2CopyList.l0, if_neg (by simp)]; simp
  | x :: suf, pre, k, hk, hl => by
    simp only [List.length_cons] at hk hl
    obtain ⟨k, rfl⟩ : ∃ m, k = m + 1 := ⟨k - 1, by omega⟩
    have ih := copy_l0 suf (pre ++ [x]) k (by omega) (by simp; omega)
    rw [spec_l2CopyList.l0, if_pos (by rw [len_mid]; omega), if_pos (by omega), if_pos (by omega), rd_at, w_id (by omega) (by omega), next_len pre x, next_pre]
    exact ih
theorem copy_f (k : Nat) (xs : List Int) (hk : xs.length < k) (hl : xs.length ≤ 1048576) : spec_l2CopyList.f k xs = some xs := by
  have := copy_l0 xs [] k hk (by simpa using hl)
  simpa [spec_l2CopyList.f] using this
/-- Each place is one behind the one ahead: the reference's loop. -/
theorem row_l0 (sh : List Int) (n o : Int) (A B : List Int) : ∀ (suf p : List Int) (z : Int) (k : Nat), suf.length < k → p.length + suf.length ≤ 5000 → Odo.inRow (p ++ [z]) = true →
    (Odo.inRow (p ++ [z] ++ suf) = true ∧ ∃ k', k ≤ k' + suf.length + 1 ∧ k' < k ∧ spec_Reshape.l0 k sh n (p ++ [z] ++ suf) ((p ++ [z]).length : Int) A B o = (spec_l2CopyList.f k' sh).bind fun t => spec_Reshape.l1 k' sh n 0 t [] o) ∨
    (Odo.inRow (p ++ [z] ++ suf) = false ∧ spec_Reshape.l0 k sh n (p ++ [z] ++ suf) ((p ++ [z]).length : Int) A B o = some (13, [], [], 0))
  | [], p, z, k, hk, hl, hr => by
    obtain ⟨k, rfl⟩ : ∃ m, k = m + 1 := ⟨k - 1, by omega⟩
    refine .inl ⟨by simpa using hr, k, by omega, by omega, ?_⟩
    rw [spec_Reshape.l0, if_neg (by simp)]
  | x :: suf, p, z, k, hk, hl, hr => by
    simp only [List.length_cons] at hk hl
    obtain ⟨k, rfl⟩ : ∃ m, k = m + 1 := ⟨k - 1, by omega⟩
    have hlen := len_mid (p ++ [z]) suf x
    have hpz : ((p ++ [z]).length : Int) = p.length + 1 := by simp
    have r1 : rd (p ++ [z] ++ x :: suf) ((p ++ [z]).length : Int) = x := rd_at _ _ _
    have r2 : rd (p ++ [z] ++ x :: suf) (p.length : Int) = z := by rw [List.append_assoc]; exact rd_at p _ z
    have e1 : wrap64 (((p ++ [z]).length : Int) - 1) = (p.length : Int) := by rw [w_id (by omega) (by omega)]; omega
    have e2 : wrap64 (((p ++ [z]).length : Int) + 1) = ((p ++ [z] ++ [x]).length : Int) := by rw [w_id (by omega) (by omega), next_len]
    have sn := Odo.inRow_snoc 0 (p ++ [z]) x
    rw [Odo.nx_snoc, hr] at sn
    rw [spec_Reshape.l0, if_pos (by omega), if_pos (by omega), e1, if_pos (by omega), if_pos (by omega), r1, r2, e2, next_pre (p ++ [z]) suf x]
    by_cases hx : x = wrap64 (z + 1)
    · rw [if_pos hx]
      have hr' : Odo.inRow (p ++ [z] ++ [x]) = true := by rw [sn, decide_eq_true (Or.inr hx)]; rfl
      rcases row_l0 sh n o A B suf (p ++ [z]) x k (by omega) (by simp; omega) hr' with ⟨h1, k', h2, h3, h4⟩ | ⟨h1, h2⟩
      · exact .inl ⟨h1, k', by simp; omega, by omega, h4⟩
      · exact .inr ⟨h1, h2⟩
    · rw [if_neg hx]
      refine .inr ⟨?_, rfl⟩
      have hf : Odo.inRow (p ++ [z] ++ [x]) = false := by rw [sn, decide_eq_false (fun h => h.elim (by simp) hx)]; rfl
      cases hb : Odo.inRow (p ++ [z] ++ [x] ++ suf) with
      | false => rfl
      | true => rw [Odo.inRow_left suf _ hb] at hf; cases hf
theorem row_f (sh : List Int) (n o : Int) (A B L : List Int) (k : Nat) (hk : 5001 < k) (hl : L.length ≤ 4096) :
    (Odo.inRow L = true ∧ ∃ k', k ≤ k' + 4100 ∧ k' < k ∧ spec_Reshape.l0 k sh n L 1 A B o = (spec_l2CopyList.f k' sh).bind fun t => spec_Reshape.l1 k' sh n 0 t [] o) ∨
    (Odo.inRow L = false ∧ spec_Reshape.l0 k sh n L 1 A B o = some (13, [], [], 0)) := by
  cases L with
  | nil =>
    obtain ⟨k, rfl⟩ : ∃ m, k = m + 1 := ⟨k - 1, by omega⟩
    refine .inl ⟨rfl, k, by omega, by omega, ?_⟩
    rw [spec_Reshape.l0, if_neg (by simp)]
  | cons z t =>
    simp only [List.length_cons] at hl
    rcases row_l0 sh n o A B t [] z k (by omega) (by simp; omega) rfl with ⟨h1, k', h2, h3, h4⟩ | ⟨h1, h2⟩
    · exact .inl ⟨h1, k', by omega, by omega, h4⟩
    · exact .inr ⟨h1, h2⟩
/-- The strides of a dense view. -/
def str (n : Int) : List Int → List Int
  | [] => []
  | _ :: t => (if n = 0 then 0 else cnt t) :: str n t
theorem str_len (n : Int) : ∀ sh : List Int, (str n sh).length = sh.length
  | [] => rfl
  | _ :: t => by simp [str, str_len n t]
/-- The product of what follows. -/
theorem prod_l2 (sh : List Int) (n i o : Int) (A B : List Int) (hsl : sh.length ≤ 4) (hB : B.length ≤ 100) (i1 : 0 ≤ i) (i2 : i ≤ 100) : ∀ (suf pre : List Int) (m k : Nat) (p : Int), sh = pre ++ suf → suf.length < k → m + suf.length ≤ 4 → 0 ≤ p → p ≤ 4096 ^ m → ok suf →
    ∃ k', k ≤ k' + suf.length + 1 ∧ k' < k ∧ spec_Reshape.l2 k sh n i p pre.length A B o = spec_Reshape.l1 k' sh n (i + 1) A (B ++ [if n = 0 then 0 else p * cnt suf]) o
  | [], pre, m, k, p, hs, hk, hl, h0, h1, h => by
    obtain ⟨k, rfl⟩ : ∃ m, k = m + 1 := ⟨k - 1, by omega⟩
    refine ⟨k, by simp, by omega, ?_⟩
    rw [spec_Reshape.l2, if_neg (by rw [hs]; simp), w_id (by omega) (by omega)]
    by_cases hn : n = 0
    · rw [if_pos hn, if_pos (by omega), if_pos hn]
    · rw [if_neg hn, if_pos (by omega), if_neg hn]; simp [cnt]
  | x :: suf, pre, m, k, p, hs, hk, hl, h0, h1, h => by
    simp only [List.length_cons] at hk hl
    obtain ⟨k, rfl⟩ : ∃ m, k = m + 1 := ⟨k - 1, by omega⟩
    obtain ⟨hx, ho⟩ := ok_cons.1 h
    have hlen := len_mid pre suf x
    rw [← hs] at hlen
    have hb := mul_bound h0 h1 hx.1 hx.2
    have h4 := pow_le4 (m := m + 1) (by omega)
    have r1 : rd sh (pre.length : Int) = x := by rw [hs, rd_at]
    obtain ⟨k', h2, h3, h5⟩ := prod_l2 sh n i o A B hsl hB i1 i2 suf (pre ++ [x]) (m + 1) k (p * x) (by rw [hs]; simp) (by omega) (by omega) hb.1 hb.2 ho
    refine ⟨k', by simp; omega, by omega, ?_⟩
    rw [spec_Reshape.l2, if_pos (by omega), if_pos (by omega), r1, w_id (by omega) (by omega), w_id (by omega) (by omega), next_len pre x, h5, cnt, Int.mul_assoc]
theorem str_l1 (sh : List Int) (n o : Int) (A : List Int) (hsl : sh.length ≤ 4) : ∀ (suf pre B : List Int) (k : Nat), sh = pre ++ suf → B.length = pre.length → 10 * suf.length + 10 < k → ok suf →
    spec_Reshape.l1 k sh n pre.length A B o = some (0, A, B ++ str n suf, o)
  | [], pre, B, k, hs, hB, hk, h => by
    obtain ⟨k, rfl⟩ : ∃ m, k = m + 1 := ⟨k - 1, by omega⟩
    rw [spec_Reshape.l1, if_neg (by rw [hs]; simp)]
    simp [str]
  | x :: suf, pre, B, k, hs, hB, hk, h => by
    simp only [List.length_cons] at hk
    obtain ⟨k, rfl⟩ : ∃ m, k = m + 1 := ⟨k - 1, by omega⟩
    have hlen := len_mid pre suf x
    rw [← hs] at hlen
    obtain ⟨k', h2, h3, h5⟩ := prod_l2 sh n pre.length o A B hsl (by omega) (by omega) (by omega) suf (pre ++ [x]) 0 k 1 (by rw [hs]; simp) (by omega) (by omega) (by omega) (by simp) (ok_cons.1 h).2
    have ih := str_l1 sh n o A hsl suf (pre ++ [x]) (B ++ [if n = 0 then 0 else 1 * cnt suf]) k' (by rw [hs]; simp) (by simp; omega) (by omega) (ok_cons.1 h).2
    rw [spec_Reshape.l1, if_pos (by omega), w_id (by omega) (by omega), next_len pre x, h5, next_len pre x, ih]
    simp [str]
theorem cnt_pow : ∀ {xs : List Int}, ok xs → cnt xs ≤ 4096 ^ xs.length
  | [], _ => by simp [cnt]
  | x :: xs, h => by
    have := mul_bound (cnt_nonneg (ok_cons.1 h).2) (cnt_pow (ok_cons.1 h).2) (ok_cons.1 h).1.1 (ok_cons.1 h).1.2
    rw [cnt, Int.mul_comm]
    exact this.2
theorem impl_l0 (sh : List Int) (n o : Int) (A : List Int) (hsl : sh.length ≤ 4) (hok : ok sh) : ∀ (m : Nat) (pre suf : List Int) (k : Nat), pre.length = m → sh = pre ++ suf → m < k →
    impl_Reshape.l0 k sh (if n = 0 then 0 else cnt suf) ((m : Int) - 1) A (List.replicate m 0 ++ str n suf) o = some (0, A, str n sh, o) := by
  intro m
  induction m with
  | zero =>
    intro pre suf k hp hs hk
    obtain ⟨k, rfl⟩ : ∃ m, k = m + 1 := ⟨k - 1, by omega⟩
    obtain rfl := List.length_eq_zero_iff.1 hp
    rw [impl_Reshape.l0, if_neg (by simp), hs]
    simp
  | succ m IH =>
    intro pre suf k hp hs hk
    obtain ⟨k, rfl⟩ : ∃ m, k = m + 1 := ⟨k - 1, by omega⟩
    obtain ⟨p, z, rfl⟩ : ∃ p z, pre = p ++ [z] := by
      rcases List.eq_nil_or_concat pre with h | ⟨p, z, h⟩
      · rw [h] at hp; simp at hp
      · exact ⟨p, z, by simpa using h⟩
    have hpm : p.length = m := by simpa using hp
    have hs' : sh = p ++ z :: suf := by rw [hs]; simp
    have hlen := len_mid p suf z
    rw [← hs', hpm] at hlen
    have hz : 0 ≤ z ∧ z ≤ 4096 := hok z (by rw [hs']; simp)
    have hsu : ok suf := fun x hx => hok x (by rw [hs']; simp [hx])
    have hb := mul_bound (cnt_nonneg hsu) (cnt_pow hsu) hz.1 hz.2
    have h4 := pow_le4 (m := suf.length + 1) (by omega)
    have r1 : rd sh (m : Int) = z := by rw [hs', ← hpm, rd_at]
    have e0 : ((m + 1 : Nat) : Int) - 1 = (m : Int) := by omega
    have e1 : wrap64 ((if n = 0 then 0 else cnt suf) * z) = if n = 0 then 0 else cnt (z :: suf) := by
      by_cases hn : n = 0
      · simp only [if_pos hn]; rw [Int.zero_mul]; exact w_id (by omega) (by omega)
      · simp only [if_neg hn]; rw [cnt, Int.mul_comm z]; exact w_id (by omega) (by omega)
    have e2 : (List.replicate (m + 1) 0 ++ str n suf).set (m : Int).toNat (if n = 0 then 0 else cnt suf) = List.replicate m 0 ++ str n (z :: suf) := by
      rw [Int.toNat_natCast, List.replicate_succ', List.append_assoc, List.set_append_right _ _ (by simp)]
      simp [str]
    have ih := IH p (z :: suf) k hpm hs' (by omega)
    rw [e0, impl_Reshape.l0, if_pos (by omega), if_pos (by omega), if_pos (by simp; omega), if_pos (by omega), r1, e1, e2, w_id (by omega) (by omega)]
    exact ih
theorem alike (xs ys shape : List Int) (o : Int) (k : Nat) (hx : xs.length ≤ 1048576) (hy : ys.length ≤ 1048576) (hs : shape.length ≤ 1048576) (hk : 4000000 < k) :
    ∃ c L1 L2 p, L1.length ≤ 1048576 ∧ L2.length ≤ 1048576 ∧ spec_Reshape.f k xs ys o shape = some (c, L1, L2, p) ∧ impl_Reshape.f k xs ys o shape = some (c, L1, L2, p) := by
  obtain ⟨b, h1, h2, h3⟩ := vv_alike k xs ys o (by omega)
  have cs := l2count_f k shape (by omega)
  have gs := goodShape_f k shape (by omega)
  unfold spec_Reshape.f impl_Reshape.f
  rw [h1, h2]
  simp only [Option.bind_some]
  cases b with
  | false => exact ⟨12, [], [], 0, by simp, by simp, rfl, rfl⟩
  | true =>
    have v := h3 rfl
    have gx := v.1
    have x4 := gx.1
    rw [if_pos rfl, if_pos rfl]
    obtain ⟨q, rfl⟩ : ∃ q, k = q + 1 := ⟨k - 1, by omega⟩
    by_cases g : good shape
    · have n1 := cnt_nonneg g.2.1
      have g4 := g.1
      rw [cs.1 g, gs.1 g]
      simp only [Option.bind_some]
      rw [if_neg (by omega), if_pos trivial, (l2count_f (q + 1) xs (by omega)).1 gx, count_f (q + 1) shape (by omega) g4 g.2.1]
      simp only [Option.bind_some]
      rw [count_f (q + 1) xs (by omega) x4 gx.2.1]
      simp only [Option.bind_some]
      by_cases hn : cnt shape = cnt xs
      · rw [if_pos hn, show (cnt shape != cnt xs) = false from bne_eq_false_iff_eq.mpr hn]
        unfold impl_inRow.f
        rw [count_f (q + 1) xs (by omega) x4 gx.2.1]
        simp only [Option.bind_some]
        rw [if_pos (good_of v), placesOf_eq, spec_Reshape.j0, if_neg (by decide), spec_offs v q (by omega)]
        simp only [Option.bind_some]
        rcases row_f shape (cnt shape) o xs ys (offs xs ys o) q (by omega) (offs_len v) with ⟨r1, k', k1, k2, r2⟩ | ⟨r1, r2⟩
        · rw [r1, r2, if_pos rfl, copy_f k' shape (by omega) (by omega)]
          simp only [Option.bind_some]
          have S := str_l1 shape (cnt shape) o shape g4 shape [] [] k' rfl rfl (by omega) g.2.1
          simp only [List.length_nil, Int.natCast_zero, List.nil_append] at S
          rw [S]
          unfold slices_Clone_int64_int64.f
          rw [if_pos (by omega)]
          simp only [Option.bind_some, Int.toNat_natCast]
          rw [if_pos (by omega), if_pos (by omega)]
          have I := fun k hk => impl_l0 shape (cnt shape) o shape g4 g.2.1 shape.length shape [] k rfl (by simp) hk
          have e : wrap64 ((shape.length : Int) - 1) = (shape.length : Int) - 1 := w_id (by omega) (by omega)
          refine ⟨0, shape, str (cnt shape) shape, o, by omega, by rw [str_len]; omega, rfl, ?_⟩
          by_cases h0 : cnt shape = 0
          · rw [if_pos h0, impl_Reshape.j0, e]
            have I1 := I q (by omega)
            rw [if_pos h0] at I1
            simpa [str] using I1
          · rw [if_neg h0, impl_Reshape.j0, e]
            have I1 := I q (by omega)
            rw [if_neg h0] at I1
            simpa [str, cnt] using I1
        · rw [r1, r2, if_neg (by simp)]
          exact ⟨13, [], [], 0, by simp, by simp, rfl, rfl⟩
      · rw [if_neg hn, show (cnt shape != cnt xs) = true from bne_iff_ne.mpr hn, spec_Reshape.j0, if_pos rfl]
        exact ⟨6, [], [], 0, by simp, by simp, rfl, rfl⟩
    · rw [cs.2 g, gs.2 g]
      simp only [Option.bind_some]
      rw [if_pos (by omega), if_neg (by simp), spec_Reshape.j0, if_pos rfl]
      exact ⟨6, [], [], 0, by simp, by simp, rfl, rfl⟩
theorem law_true (xs ys shape : List Int) (o : Int) (k : Nat) (hx : xs.length ≤ 1048576) (hy : ys.length ≤ 1048576) (hs : shape.length ≤ 1048576) (hk : 8000000 < k) (z : Int) (hz : laws_szView.f xs ys o 1048576 = some z) : laws_FnExactReshape.f k xs ys o shape = some true := by
  obtain ⟨c, L1, L2, p, b1, b2, hs1, hi1⟩ := alike xs ys shape o k hx hy hs (by omega)
  have j : laws_FnExactReshape.j0 k shape false xs ys o c L1 L2 p c L1 L2 p = some true := by
    obtain ⟨q, rfl⟩ : ∃ q, k = q + 1 := ⟨k - 1, by omega⟩
    obtain ⟨c', L1', L2', p', b1', b2', hs', hi'⟩ := alike xs ys shape o q hx hy hs (by omega)
    have e1 := spec_Reshape.mono xs ys o shape q _ hs'
    rw [hs1] at e1
    obtain ⟨rfl, rfl, rfl, rfl⟩ : c = c' ∧ L1 = L1' ∧ L2 = L2' ∧ p = p' := by simpa using e1
    simp only [laws_FnExactReshape.j0, Bool.false_eq_true, if_false]
    rw [markVR q c L1 L2 p 1 b1 b2 (by omega) (by omega) (by omega)]; simp only [Option.bind_some]
    rw [heldVR q L1.length L2.length c p 1 b1 b2 (by omega) (by omega) (by omega)]; simp only [Option.bind_some]
    rw [if_neg (by omega), if_pos trivial, toV q xs ys o hx hy (by omega)]; simp only [Option.bind_some]
    rw [to_f q shape (by omega) (by omega)]; simp only [Option.bind_some]
    rw [hi']; simp only [Option.bind_some]
    rw [eqVR q c L1 L2 p b1 b2 (by omega)]; simp only [Option.bind_some]
    rw [if_pos trivial, if_neg (by omega), if_pos trivial]
  unfold laws_FnExactReshape.f
  rw [if_neg (by omega), hz]; simp only [Option.bind_some]
  by_cases hz0 : z < 0
  · rw [if_pos hz0]
  rw [if_neg hz0, toV k xs ys o hx hy (by omega)]; simp only [Option.bind_some]
  rw [to_f k shape (by omega) (by omega)]; simp only [Option.bind_some]
  rw [hs1]; simp only [Option.bind_some]
  rw [hi1]; simp only [Option.bind_some]
  rw [eqVR k c L1 L2 p b1 b2 (by omega)]; simp only [Option.bind_some]
  rw [if_pos trivial, eqV k xs ys o hx hy (by omega)]; simp only [Option.bind_some]
  rw [if_pos trivial, eq_f k shape (by omega) (by omega)]; simp only [Option.bind_some]
  rw [if_pos trivial, markV k xs ys o 1 hx hy (by omega) (by omega) (by omega)]; simp only [Option.bind_some]
  rw [mark_f shape k _ (by omega) (by omega) (by omega) (by omega)]; simp only [Option.bind_some]
  rw [if_neg (by omega)]
  exact j
theorem law_words (xs ys : List Int) (o : Int) (shape : List Int) (h1 : xs.length ≤ 9223372036854775807) (h2 : ys.length ≤ 9223372036854775807) : ∃ k, laws_FnExactReshape.f k xs ys o shape = some true := by
  refine ⟨8000001, ?_⟩
  by_cases hs : (shape.length : Int) > 1048576
  · unfold laws_FnExactReshape.f
    rw [if_pos hs]
  · obtain ⟨z, hz, hb⟩ := szView xs ys o h1 h2
    rcases hb with hb | hb
    · unfold laws_FnExactReshape.f
      rw [if_neg hs, hz]; simp only [Option.bind_some]
      rw [if_pos hb]
    · exact law_true xs ys shape o _ hb.1 hb.2 (by omega) (by omega) z hz
end Go.Proofs.Ytpmdgmnpkdoamaa.DFnExactReshape
