/- Proved here: what the words printed for the law on Broadcast come to: the law answers true (plain Lean). Conditions: the lists' lengths. -/
import Derived.Test.YtpmdgmnpkdoamaaBcBFnExactBroadcast
namespace Go.Proofs.Ytpmdgmnpkdoamaa.DFnExactBroadcast
open Go.RowKit Go.Proofs.YtpmdgmnpkdoamaaW.PrintWords Go.Proofs.YtpmdgmnpkdoamaaW.PrintLast Go.Proofs.YtpmdgmnpkdoamaaW.PrintMore
set_option linter.unusedVariables false
set_option linter.unusedSimpArgs false
def bstr : List Int → List Int → List Int → Option (List Int)
  | s :: ss, x :: xs, y :: ys => if x = s then (bstr ss xs ys).bind fun r => some (y :: r) else if x = 1 then (bstr ss xs ys).bind fun r => some (0 :: r) else none
  | _, _, _ => some []
theorem bstr_len : ∀ (ss xs ys L : List Int), xs.length = ss.length → ys.length = ss.length → bstr ss xs ys = some L → L.length = ss.length
  | [], [], [], L, _, _, h => by simp [bstr] at h; simp [← h]
  | [], _ :: _, _, _, h, _, _ => by simp at h
  | [], [], _ :: _, _, _, h, _ => by simp at h
  | _ :: _, [], _, _, h, _, _ => by simp at h
  | _ :: _, _ :: _, [], _, _, h, _ => by simp at h
  | s :: ss, x :: xs, y :: ys, L, h1, h2, h => by
    simp only [bstr] at h
    split at h
    · obtain ⟨r, hr, h⟩ := Option.bind_eq_some_iff.1 h
      obtain rfl := Option.some.inj h
      simp [bstr_len ss xs ys r (by simpa using h1) (by simpa using h2) hr]
    · split at h
      · obtain ⟨r, hr, h⟩ := Option.bind_eq_some_iff.1 h
        obtain rfl := Option.some.inj h
        simp [bstr_len ss xs ys r (by simpa using h1) (by simpa using h2) hr]
      · cases h
/-- What is answered: the strides so far, and those to come. -/
def bans (shape B : List Int) (o : Int) (s : Option (List Int)) : Option (Int × List Int × List Int × Int) :=
  match s with
  | none => some (6, [], [], 0)
  | some L => some (0, shape, B ++ L, o)
theorem spec_hi (shape xs ys : List Int) (o : Int) (new : Nat) (hn : shape.length ≤ 4) : ∀ (suf xs' ys' pre prex prey B : List Int) (k : Nat), shape = pre ++ suf → xs = prex ++ xs' → ys = prey ++ ys' → suf.length = xs'.length → suf.length = ys'.length →
    pre.length = new + prex.length → prey.length = prex.length → B.length = pre.length → suf.length < k → spec_Broadcast.l0 k shape new pre.length xs ys o pre B o = bans shape B o (bstr suf xs' ys') := by
  intro suf
  induction suf with
  | nil =>
    intro xs' ys' pre prex prey B k hs hx hy l1 l2 l3 l4 l5 hk
    obtain ⟨k, rfl⟩ : ∃ m, k = m + 1 := ⟨k - 1, by omega⟩
    rw [spec_Broadcast.l0, if_neg (by rw [hs]; simp)]
    simp [bstr, bans, hs]
  | cons s suf IH =>
    intro xs' ys' pre prex prey B k hs hx hy l1 l2 l3 l4 l5 hk
    obtain ⟨x, xs', rfl⟩ : ∃ x t, xs' = x :: t := by cases xs' with | nil => simp at l1 | cons a t => exact ⟨a, t, rfl⟩
    obtain ⟨y, ys', rfl⟩ : ∃ y t, ys' = y :: t := by cases ys' with | nil => simp at l2 | cons a t => exact ⟨a, t, rfl⟩
    simp only [List.length_cons] at l1 l2 hk
    obtain ⟨k, rfl⟩ : ∃ m, k = m + 1 := ⟨k - 1, by omega⟩
    have hsl := len_mid pre suf s
    rw [← hs] at hsl
    have hxl := len_mid prex xs' x
    rw [← hx] at hxl
    have hyl := len_mid prey ys' y
    rw [← hy] at hyl
    have r1 : rd shape (pre.length : Int) = s := by rw [hs, rd_at]
    have r2 : rd xs (prex.length : Int) = x := by rw [hx, rd_at]
    have r3 : rd ys (prex.length : Int) = y := by rw [hy, ← l4, rd_at]
    have e1 : wrap64 ((pre.length : Int) - (new : Int)) = (prex.length : Int) := by rw [w_id (by omega) (by omega)]; omega
    have e2 : wrap64 ((pre.length : Int) + 1) = ((pre ++ [s]).length : Int) := by rw [w_id (by omega) (by omega)]; simp
    have ih := fun Q hq => IH xs' ys' (pre ++ [s]) (prex ++ [x]) (prey ++ [y]) (B ++ [Q]) k (by rw [hs]; simp) (by rw [hx]; simp) (by rw [hy]; simp) (by omega) (by omega) (by simp; omega) (by simp; omega) (by simp; omega) hq
    rw [spec_Broadcast.l0, if_pos (by omega), if_pos (by omega), e1, if_pos (by omega), if_pos (by omega), if_pos (by omega), r1, r2, r3, e2]
    simp only [bstr]
    by_cases c1 : x = s
    · rw [if_pos c1, if_pos (by omega), if_pos (by omega), if_pos (by omega), if_pos c1, ih y (by omega)]
      cases bstr suf xs' ys' <;> simp [bans]
    · rw [if_neg c1, if_neg c1]
      by_cases c2 : x = 1
      · rw [if_pos c2, if_pos (by omega), if_pos (by omega), if_pos c2, ih 0 (by omega)]
        cases bstr suf xs' ys' <;> simp [bans]
      · rw [if_neg c2, if_neg c2]; rfl
theorem spec_lo (shape xs ys : List Int) (o : Int) (new : Nat) (hn : shape.length ≤ 4) (hnew : new ≤ shape.length) (K : Nat) (r : Option (Int × List Int × List Int × Int))
    (hr : ∀ k, K ≤ k → spec_Broadcast.l0 k shape new new xs ys o (shape.take new) (List.replicate new 0) o = r) : ∀ (m i k : Nat), i + m = new → K + m ≤ k → spec_Broadcast.l0 k shape new i xs ys o (shape.take i) (List.replicate i 0) o = r := by
  intro m
  induction m with
  | zero => intro i k hi hk; obtain rfl : i = new := by omega
            exact hr k (by omega)
  | succ m IH =>
    intro i k hi hk
    obtain ⟨k, rfl⟩ : ∃ q, k = q + 1 := ⟨k - 1, by omega⟩
    have ih := IH (i + 1) k (by omega) (by omega)
    have e2 : wrap64 ((i : Int) + 1) = ((i + 1 : Nat) : Int) := by rw [w_id (by omega) (by omega)]; rfl
    have r1 : shape.take i ++ [rd shape (i : Int)] = shape.take (i + 1) := by
      rw [List.take_succ_eq_append_getElem (by omega)]
      congr 2
      unfold rd
      rw [Int.toNat_natCast, List.getD_eq_getElem?_getD, List.getElem?_eq_getElem (by omega)]; rfl
    rw [spec_Broadcast.l0, if_pos (by omega), if_neg (by omega), if_pos (by omega), if_pos (by simp; omega), if_pos (by simp; omega), e2, r1, ← List.replicate_succ']
    exact ih
theorem w1 {n : Nat} (h : n ≤ 1000000) : wrap64 ((n : Int) + 1) = ((n + 1 : Nat) : Int) := by rw [w_id (by omega) (by omega)]; rfl
theorem w2 {a b c : Nat} (h : a + b ≤ 1000000) (hc : c = b + a) : wrap64 ((a : Int) + (b : Int)) = (c : Int) := by rw [w_id (by omega) (by omega)]; omega
theorem impl_hi (shape xs ys : List Int) (o : Int) (new : Nat) (hn : shape.length ≤ 4) : ∀ (suf xs' ys' pre prex prey B : List Int) (k : Nat), shape = pre ++ suf → xs = prex ++ xs' → ys = prey ++ ys' → suf.length = xs'.length → suf.length = ys'.length →
    pre.length = new + prex.length → prey.length = prex.length → B.length = pre.length → suf.length < k → impl_Broadcast.l0 k shape new xs xs.length prex.length xs ys o shape (B ++ List.replicate suf.length 0) o = bans shape B o (bstr suf xs' ys') := by
  intro suf
  induction suf with
  | nil =>
    intro xs' ys' pre prex prey B k hs hx hy l1 l2 l3 l4 l5 hk
    obtain ⟨k, rfl⟩ : ∃ m, k = m + 1 := ⟨k - 1, by omega⟩
    obtain rfl : xs' = [] := List.length_eq_zero_iff.1 (by simpa using l1.symm)
    rw [impl_Broadcast.l0, if_neg (by rw [hx]; simp)]
    simp [bstr, bans]
  | cons s suf IH =>
    intro xs' ys' pre prex prey B k hs hx hy l1 l2 l3 l4 l5 hk
    obtain ⟨x, xs', rfl⟩ : ∃ x t, xs' = x :: t := by cases xs' with | nil => simp at l1 | cons a t => exact ⟨a, t, rfl⟩
    obtain ⟨y, ys', rfl⟩ : ∃ y t, ys' = y :: t := by cases ys' with | nil => simp at l2 | cons a t => exact ⟨a, t, rfl⟩
    simp only [List.length_cons] at l1 l2 hk
    obtain ⟨k, rfl⟩ : ∃ m, k = m + 1 := ⟨k - 1, by omega⟩
    have hpl : prex.length + new ≤ 4 := by have q := congrArg List.length hs; simp at q; omega
    have hsl := len_mid pre suf s
    rw [← hs] at hsl
    have hxl := len_mid prex xs' x
    rw [← hx] at hxl
    have hyl := len_mid prey ys' y
    rw [← hy] at hyl
    have z0 : (0 : Int) ≤ (prex.length : Int) := by omega
    have z1 : (prex.length : Int) < (xs.length : Int) := by omega
    have z2 : (0 : Int) ≤ (pre.length : Int) := by omega
    have z3 : (pre.length : Int) < (shape.length : Int) := by omega
    have z4 : (prex.length : Int) < (ys.length : Int) := by omega
    have z5 : (pre.length : Int) < ((B ++ List.replicate (s :: suf).length 0).length : Int) := by simp; omega
    have z6 : suf.length < k := by omega
    have ih := fun Q hq => IH xs' ys' (pre ++ [s]) (prex ++ [x]) (prey ++ [y]) (B ++ [Q]) k (by rw [hs]; simp) (by rw [hx]; simp) (by rw [hy]; simp) (by omega) (by omega) (by simp; omega) (by simp; omega) (by simp; omega) hq
    have e1 : wrap64 ((prex.length : Int) + (new : Int)) = (pre.length : Int) := w2 (Nat.le_trans hpl (by decide)) l3
    have e2 : wrap64 ((prex.length : Int) + 1) = ((prex ++ [x]).length : Int) := by rw [w1 (Nat.le_trans (Nat.le_add_right _ _) (Nat.le_trans hpl (by decide)))]; simp
    have r1 : rd shape (pre.length : Int) = s := by rw [hs, rd_at]
    have r2 : rd xs (prex.length : Int) = x := by rw [hx, rd_at]
    have r3 : rd ys (prex.length : Int) = y := by rw [hy, ← l4, rd_at]
    have put : (B ++ List.replicate (s :: suf).length 0).set (pre.length : Int).toNat y = (B ++ [y]) ++ List.replicate suf.length 0 := by
      rw [Int.toNat_natCast, ← l5]; simp [List.replicate_succ]
    have keep : B ++ List.replicate (s :: suf).length 0 = (B ++ [0]) ++ List.replicate suf.length 0 := by simp [List.replicate_succ]
    rw [impl_Broadcast.l0, if_pos z1, if_pos z0, if_pos z1, e1, if_pos z2, if_pos z3, r1, r2, r3, e2]
    simp only [bstr]
    by_cases c1 : x = s
    · rw [if_pos c1, if_pos z4, if_pos z5, if_pos c1, put, ih y z6]
      cases bstr suf xs' ys' <;> simp [bans]
    · rw [if_neg c1, if_neg c1]
      by_cases c2 : x = 1
      · rw [if_pos c2, if_pos c2, keep, ih 0 z6]
        cases bstr suf xs' ys' <;> simp [bans]
      · rw [if_neg c2, if_neg c2]; rfl
theorem alike (xs ys shape : List Int) (o : Int) (k : Nat) (hx : xs.length ≤ 1048576) (hy : ys.length ≤ 1048576) (hs : shape.length ≤ 1048576) (hk : 4000000 < k) :
    ∃ c L1 L2 p, L1.length ≤ 1048576 ∧ L2.length ≤ 1048576 ∧ spec_Broadcast.f k xs ys o shape = some (c, L1, L2, p) ∧ impl_Broadcast.f k xs ys o shape = some (c, L1, L2, p) := by
  obtain ⟨b, h1, h2, h3⟩ := vv_alike k xs ys o (by omega)
  have cs := l2count_f k shape (by omega)
  have gs := goodShape_f k shape (by omega)
  unfold spec_Broadcast.f impl_Broadcast.f
  rw [h1, h2]
  simp only [Option.bind_some]
  cases b with
  | false => exact ⟨12, [], [], 0, by simp, by simp, rfl, rfl⟩
  | true =>
    obtain ⟨gx, lxy, o0, o1, oy, _⟩ := h3 rfl
    rw [if_pos rfl, if_pos rfl]
    obtain ⟨q, rfl⟩ : ∃ q, k = q + 1 := ⟨k - 1, by omega⟩
    have e0 : wrap64 ((shape.length : Int) - (xs.length : Int)) = (shape.length : Int) - (xs.length : Int) := w_id (by omega) (by omega)
    by_cases g : good shape
    · have n1 := cnt_nonneg g.2.1
      rw [cs.1 g, gs.1 g]
      simp only [Option.bind_some]
      rw [if_neg (by omega), if_pos trivial, e0]
      by_cases hl : (shape.length : Int) < (xs.length : Int)
      · rw [decide_eq_true hl, decide_eq_true (show (shape.length : Int) - (xs.length : Int) < 0 by omega)]
        exact ⟨6, [], [], 0, by simp, by simp, by rw [spec_Broadcast.j0, if_pos rfl], by rw [impl_Broadcast.j0, if_pos rfl]⟩
      · rw [decide_eq_false hl, decide_eq_false (show ¬ (shape.length : Int) - (xs.length : Int) < 0 by omega)]
        have g4 := g.1
        have hnew : (shape.length : Int) - (xs.length : Int) = ((shape.length - xs.length : Nat) : Int) := by omega
        rw [spec_Broadcast.j0, impl_Broadcast.j0, if_neg (by decide), if_neg (by decide), e0, hnew]
        generalize hN : shape.length - xs.length = new at *
        have S1 := fun k (hk : 10 ≤ k) => spec_hi shape xs ys o new g4 (shape.drop new) xs ys (shape.take new) [] [] (List.replicate new 0) k (by simp) rfl rfl (by simp; omega) (by simp; omega) (by simp; omega) rfl (by simp; omega) (by simp; omega)
        have htl : (shape.take new).length = new := by simp; omega
        rw [htl] at S1
        have S := spec_lo shape xs ys o new g4 (by omega) 10 _ S1 new 0 q (by omega) (by omega)
        have I := impl_hi shape xs ys o new g4 (shape.drop new) xs ys (shape.take new) [] [] (List.replicate new 0) q (by simp) rfl rfl (by simp; omega) (by simp; omega) (by simp; omega) rfl (by simp; omega) (by simp; omega)
        have hrep : List.replicate new (0 : Int) ++ List.replicate (shape.drop new).length 0 = List.replicate shape.length 0 := by rw [List.replicate_append_replicate]; congr 1; simp; omega
        rw [hrep] at I
        simp only [List.take_zero, List.replicate_zero, Int.natCast_zero] at S
        simp only [List.length_nil, Int.natCast_zero] at I
        unfold slices_Clone_int64_int64.f
        rw [if_pos (by omega)]
        simp only [Option.bind_some, Int.toNat_natCast]
        rw [if_pos (by omega), if_pos (by omega), S, I]
        cases hb : bstr (shape.drop new) xs ys with
        | none => exact ⟨6, [], [], 0, by simp, by simp, rfl, rfl⟩
        | some L =>
          have := bstr_len _ _ _ _ (by simp; omega) (by simp; omega) hb
          exact ⟨0, shape, List.replicate new 0 ++ L, o, by omega, by simp at this ⊢; omega, rfl, rfl⟩
    · rw [cs.2 g, gs.2 g]
      simp only [Option.bind_some]
      rw [if_pos (by omega), if_neg (by simp)]
      exact ⟨6, [], [], 0, by simp, by simp, by rw [spec_Broadcast.j0, if_pos rfl], by rw [impl_Broadcast.j0, if_pos rfl]⟩
theorem law_true (xs ys shape : List Int) (o : Int) (k : Nat) (hx : xs.length ≤ 1048576) (hy : ys.length ≤ 1048576) (hs : shape.length ≤ 1048576) (hk : 8000000 < k) (z : Int) (hz : laws_szView.f xs ys o 1048576 = some z) : laws_FnExactBroadcast.f k xs ys o shape = some true := by
  obtain ⟨c, L1, L2, p, b1, b2, hs1, hi1⟩ := alike xs ys shape o k hx hy hs (by omega)
  have j : laws_FnExactBroadcast.j0 k shape false xs ys o c L1 L2 p c L1 L2 p = some true := by
    obtain ⟨q, rfl⟩ : ∃ q, k = q + 1 := ⟨k - 1, by omega⟩
    obtain ⟨c', L1', L2', p', b1', b2', hs', hi'⟩ := alike xs ys shape o q hx hy hs (by omega)
    have e1 := spec_Broadcast.mono xs ys o shape q _ hs'
    rw [hs1] at e1
    obtain ⟨rfl, rfl, rfl, rfl⟩ : c = c' ∧ L1 = L1' ∧ L2 = L2' ∧ p = p' := by simpa using e1
    simp only [laws_FnExactBroadcast.j0, Bool.false_eq_true, if_false]
    rw [markVR q c L1 L2 p 1 b1 b2 (by omega) (by omega) (by omega)]; simp only [Option.bind_some]
    rw [heldVR q L1.length L2.length c p 1 b1 b2 (by omega) (by omega) (by omega)]; simp only [Option.bind_some]
    rw [if_neg (by omega), if_pos trivial, toV q xs ys o hx hy (by omega)]; simp only [Option.bind_some]
    rw [to_f q shape (by omega) (by omega)]; simp only [Option.bind_some]
    rw [hi']; simp only [Option.bind_some]
    rw [eqVR q c L1 L2 p b1 b2 (by omega)]; simp only [Option.bind_some]
    rw [if_pos trivial, if_neg (by omega), if_pos trivial]
  unfold laws_FnExactBroadcast.f
  rw [if_neg (by omega), hz]; simp only [Option.bind_some]
  by_cases hz0 : z < 0
  · rw [if_pos hz0]
  rw [if_neg hz0, toV k xs ys o hx hy (by omega)]; simp only [Option.bind_some]
  rw [to_f k shape (by omega) (by omega)]; simp only [Option.bind_some]
  rw [hs1]; simp only [Option.bind_some]
  rw [hi1]; simp only [Option.bind_some]
  rw [eqVR k c L1 L2 p b1 b2 (by omega)]; simp only [Option.bind_some]
  rw [if_pos trivial, eqV k xs ys o hx hy (by omega)]; simp only [Option.bind_some]
  rw [if_pos trivial, eq_f k shape (by omega) (by omega)]; simp only [Option.bind_some]
  rw [if_pos trivial, markV k xs ys o 1 hx hy (by omega) (by omega) (by omega)]; simp only [Option.bind_some]
  rw [mark_f shape k _ (by omega) (by omega) (by omega) (by omega)]; simp only [Option.bind_some]
  rw [if_neg (by omega)]
  exact j
theorem law_words (xs ys : List Int) (o : Int) (shape : List Int) (h1 : xs.length ≤ 9223372036854775807) (h2 : ys.length ≤ 9223372036854775807) : ∃ k, laws_FnExactBroadcast.f k xs ys o shape = some true := by
  refine ⟨8000001, ?_⟩
  by_cases hs : (shape.length : Int) > 1048576
  · unfold laws_FnExactBroadcast.f
    rw [if_pos hs]
  · obtain ⟨z, hz, hb⟩ := szView xs ys o h1 h2
    rcases hb with hb | hb
    · unfold laws_FnExactBroadcast.f
      rw [if_neg hs, hz]; simp only [Option.bind_some]
      rw [if_pos hb]
    · exact law_true xs ys shape o _ hb.1 hb.2 (by omega) (by omega) z hz
end Go.Proofs.Ytpmdgmnpkdoamaa.DFnExactBroadcast
