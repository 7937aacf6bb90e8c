/- Proved here: what the words printed for the law on BroadcastShape come to: the law answers true (plain Lean). Conditions: those of the printed statement. -/
import Derived.Test.YtpmdgmnpkdoamaaBFnExactBroadcastShape
namespace Go.Proofs.Ytpmdgmnpkdoamaa.DFnExactBroadcastShape
open Go.RowKit Go.Proofs.YtpmdgmnpkdoamaaW.PrintWords Go.Proofs.YtpmdgmnpkdoamaaW.PrintLast Go.Proofs.YtpmdgmnpkdoamaaW.PrintMore
set_option linter.unusedVariables false
set_option linter.unusedSimpArgs false
def comb (x y : Int) : Option Int := if x = y ∨ x = 1 ∨ y = 1 then some (if x = 1 then y else x) else none
def zc : List Int → List Int → Option (List Int)
  | x :: xs, y :: ys => (comb x y).bind fun z => (zc xs ys).bind fun zs => some (z :: zs)
  | _, _ => some []
theorem comb_comm (x y : Int) : comb x y = comb y x := by unfold comb; grind
theorem zc_comm : ∀ xs ys : List Int, zc xs ys = zc ys xs
  | [], [] => rfl
  | [], _ :: _ => rfl
  | _ :: _, [] => rfl
  | x :: xs, y :: ys => by simp only [zc]; rw [comb_comm, zc_comm xs ys]
theorem zc_len : ∀ (xs ys zs : List Int), xs.length = ys.length → zc xs ys = some zs → zs.length = xs.length
  | [], [], zs, _, h => by simp [zc] at h; simp [← h]
  | [], _ :: _, _, h, _ => by simp at h
  | _ :: _, [], _, h, _ => by simp at h
  | x :: xs, y :: ys, zs, hl, h => by
    simp only [zc] at h
    obtain ⟨z, _, h⟩ := Option.bind_eq_some_iff.1 h
    obtain ⟨t, h1, h⟩ := Option.bind_eq_some_iff.1 h
    obtain rfl := Option.some.inj h
    simp [zc_len xs ys t (by simpa using hl) h1]
/-- What is answered, given the lengths side by side. -/
def ans (pre : List Int) (o : Option (List Int)) (r : Option (Int × List Int)) : Prop :=
  match o with
  | none => r = some (6, [])
  | some L => (good (pre ++ L) → r = some (0, pre ++ L)) ∧ (¬ good (pre ++ L) → r = some (6, []))
theorem spec_end (k : Nat) (a b out : List Int) (i : Int) (hi : i < 0) (hk : out.length + 1 < k) : ans out (some []) (spec_BroadcastShape.l0 k a b out i) := by
  obtain ⟨k, rfl⟩ : ∃ m, k = m + 1 := ⟨k - 1, by omega⟩
  have hc := l2count_f k out (by omega)
  simp only [ans, List.append_nil, spec_BroadcastShape.l0]
  rw [if_neg (by omega)]
  refine ⟨fun h => ?_, fun h => ?_⟩
  · have h0 := cnt_nonneg h.2.1
    rw [hc.1 h]; simp only [Option.bind_some]; rw [if_neg (by omega)]
  · rw [hc.2 h]; simp only [Option.bind_some]; rw [if_pos (by omega)]
def pad (a : List Int) (n : Nat) : List Int := List.replicate (n - a.length) 1 ++ a
theorem pad_len (a : List Int) (n : Nat) (h : a.length ≤ n) : (pad a n).length = n := by simp [pad]; omega
theorem len_f (a : List Int) (n i : Nat) (hn : n ≤ 1048576) (ha : a.length ≤ n) (hi : i < n) : spec_l2Length.f a i = some ((pad a n).getD (n - 1 - i) 0) := by
  unfold spec_l2Length.f
  by_cases h : (i : Int) ≥ (a.length : Int)
  · rw [if_pos h]
    congr 1
    unfold pad
    rw [List.getD_eq_getElem?_getD, List.getElem?_append_left (by simp; omega), List.getElem?_replicate, if_pos (by omega)]
    rfl
  · rw [if_neg h]
    have e : wrap64 (wrap64 ((a.length : Int) - 1) - (i : Int)) = ((a.length - 1 - i : Nat) : Int) := by
      rw [w_id (n := (a.length : Int) - 1) (by omega) (by omega), w_id (by omega) (by omega)]; omega
    rw [e, if_pos (by omega), if_pos (by omega)]
    congr 1
    unfold rd pad
    rw [Int.toNat_natCast, List.getD_eq_getElem?_getD, List.getD_eq_getElem?_getD, List.getElem?_append_right (by simp; omega)]
    congr 2
    simp
    omega
theorem spec_loop (a b : List Int) (n : Nat) (hn : n ≤ 4) (ha : a.length ≤ n) (hb : b.length ≤ n) : ∀ (m : Nat) (out : List Int) (k : Nat), m ≤ n → 3 * m + 20 < k → out.length + m ≤ 4 →
    ans out (zc ((pad a n).drop (n - m)) ((pad b n).drop (n - m))) (spec_BroadcastShape.l0 k a b out ((m : Int) - 1))
  | 0, out, k, _, hk, ho => by
    rw [List.drop_of_length_le (by rw [pad_len a n ha]; omega)]
    exact spec_end k a b out _ (by omega) (by omega)
  | m + 1, out, k, hm, hk, ho => by
    obtain ⟨k, rfl⟩ : ∃ q, k = q + 2 := ⟨k - 2, by omega⟩
    have d1 : (pad a n).drop (n - (m + 1)) = (pad a n).getD (n - 1 - m) 0 :: (pad a n).drop (n - m) := by
      rw [List.drop_eq_getElem_cons (by rw [pad_len a n ha]; omega), show n - (m + 1) + 1 = n - m by omega]
      congr 1
      rw [List.getD_eq_getElem?_getD, List.getElem?_eq_getElem (by rw [pad_len a n ha]; omega)]
      simp only [Option.getD_some]
      congr 1
      omega
    have d2 : (pad b n).drop (n - (m + 1)) = (pad b n).getD (n - 1 - m) 0 :: (pad b n).drop (n - m) := by
      rw [List.drop_eq_getElem_cons (by rw [pad_len b n hb]; omega), show n - (m + 1) + 1 = n - m by omega]
      congr 1
      rw [List.getD_eq_getElem?_getD, List.getElem?_eq_getElem (by rw [pad_len b n hb]; omega)]
      simp only [Option.getD_some]
      congr 1
      omega
    rw [d1, d2]
    have f1 := len_f a n m (by omega) ha (by omega)
    have f2 := len_f b n m (by omega) hb (by omega)
    generalize (pad a n).getD (n - 1 - m) 0 = x at *
    generalize (pad b n).getD (n - 1 - m) 0 = y at *
    have e1 : (((m + 1 : Nat) : Int) - 1) = (m : Int) := by omega
    rw [e1]
    have j : ∀ (k' : Nat) (bo : Bool), spec_BroadcastShape.j3 (k' + 1) a b out m x y bo = if bo = true then some (6, []) else if x = 1 then spec_BroadcastShape.l0 k' a b (out ++ [y]) ((m : Int) - 1) else spec_BroadcastShape.l0 k' a b (out ++ [x]) ((m : Int) - 1) := by
      intro k' bo
      simp only [spec_BroadcastShape.j3]
      rw [w_id (n := (m : Int) - 1) (by omega) (by omega)]
      split
      · rfl
      · split <;> rw [if_pos (by omega)]
    have step : spec_BroadcastShape.l0 (k + 2) a b out m = if x = y ∨ x = 1 ∨ y = 1 then spec_BroadcastShape.l0 k a b (out ++ [if x = 1 then y else x]) ((m : Int) - 1) else some (6, []) := by
      conv => lhs; unfold spec_BroadcastShape.l0
      rw [if_pos (by omega), f1, f2]
      simp only [Option.bind_some]
      rw [j, j]
      by_cases h1 : x = y
      · rw [if_pos h1, if_neg (by simp), if_pos (Or.inl h1)]
        by_cases h2 : x = 1
        · rw [if_pos h2, if_pos h2]
        · rw [if_neg h2, if_neg h2]
      · by_cases h2 : x = 1
        · rw [if_neg h1, if_pos h2, if_neg (by simp), if_pos (Or.inr (Or.inl h2)), if_pos h2, if_pos h2]
        · rw [if_neg h1, if_neg h2]
          by_cases h3 : y = 1
          · rw [if_neg (by simp [h3]), if_pos (Or.inr (Or.inr h3)), if_neg h2, if_neg h2]
          · rw [if_pos (by simp [h3]), if_neg (by grind)]
    rw [step]
    simp only [zc, comb]
    by_cases hc : x = y ∨ x = 1 ∨ y = 1
    · rw [if_pos hc, if_pos hc]
      have ih := spec_loop a b n hn ha hb m (out ++ [if x = 1 then y else x]) k (by omega) (by omega) (by simp; omega)
      generalize (if x = 1 then y else x) = z at *
      simp only [Option.bind_some]
      cases hz : zc ((pad a n).drop (n - m)) ((pad b n).drop (n - m)) with
      | none => rw [hz] at ih; simpa [ans] using ih
      | some L => rw [hz] at ih; simpa [ans] using ih
    · rw [if_neg hc, if_neg hc]; rfl
theorem impl_end (k : Nat) (a out b : List Int) (more n i : Int) (hi : ¬ i < n) (hk : out.length + 6 < k) : ans out (some []) (impl_BroadcastShape.l0 k a out more b n i) := by
  obtain ⟨k, rfl⟩ : ∃ m, k = m + 1 := ⟨k - 1, by omega⟩
  have hc := goodShape_f k out (by omega)
  simp only [ans, List.append_nil, impl_BroadcastShape.l0]
  rw [if_neg hi]
  refine ⟨fun h => ?_, fun h => ?_⟩
  · rw [hc.1 h]; simp
  · rw [hc.2 h]; simp
theorem impl_loop (a b : List Int) (more : Nat) (hn : a.length ≤ 4) : ∀ (suf sufa pre prea P : List Int) (k : Nat), b = pre ++ suf → a = prea ++ sufa → prea.length = more + pre.length → sufa.length = suf.length → P.length = prea.length →
    suf.length + 20 < k → ans P (zc sufa suf) (impl_BroadcastShape.l0 k a (P ++ sufa) more b b.length pre.length)
  | [], [], pre, prea, P, k, hb, ha, hl, hs, hp, hk => by
    have : P.length ≤ 4 := by rw [ha] at hn; simp at hn; omega
    simp only [List.append_nil, zc]
    exact impl_end k a P b _ _ _ (by rw [hb]; simp) (by omega)
  | [], _ :: _, _, _, _, _, _, _, _, hs, _, _ => by simp at hs
  | _ :: _, [], _, _, _, _, _, _, _, hs, _, _ => by simp at hs
  | y :: suf, x :: sufa, pre, prea, P, k, hb, ha, hl, hs, hp, hk => by
    simp only [List.length_cons] at hs hk
    obtain ⟨k, rfl⟩ : ∃ m, k = m + 1 := ⟨k - 1, by omega⟩
    have hla : prea.length + 1 + sufa.length ≤ 4 := by rw [ha] at hn; simp at hn; omega
    have ih := fun Q : List Int => fun hq : Q.length = (prea ++ [x]).length => impl_loop a b more hn suf sufa (pre ++ [y]) (prea ++ [x]) Q k (by rw [hb]; simp) (by rw [ha]; simp) (by simp; omega) (by omega) hq (by omega)
    have e1 : wrap64 ((pre.length : Int) + (more : Int)) = (prea.length : Int) := by rw [w_id (by omega) (by omega)]; omega
    have e2 : wrap64 ((pre.length : Int) + 1) = ((pre ++ [y]).length : Int) := by rw [w_id (by omega) (by omega)]; simp
    have hbl : (pre.length : Int) < (b.length : Int) := by rw [hb, len_mid]; omega
    have hal : (prea.length : Int) < (a.length : Int) := by rw [ha, len_mid]; omega
    have r1 : rd b (pre.length : Int) = y := by rw [hb, rd_at]
    have r2 : rd a (prea.length : Int) = x := by rw [ha, rd_at]
    have keep : P ++ x :: sufa = (P ++ [x]) ++ sufa := by simp
    have put : (P ++ x :: sufa).set (prea.length : Int).toNat y = (P ++ [y]) ++ sufa := by
      rw [Int.toNat_natCast, ← hp]; simp
    have step : impl_BroadcastShape.l0 (k + 1) a (P ++ x :: sufa) more b b.length pre.length = if x = y ∨ x = 1 ∨ y = 1 then impl_BroadcastShape.l0 k a ((P ++ [if x = 1 then y else x]) ++ sufa) more b b.length (pre ++ [y]).length else some (6, []) := by
      conv => lhs; unfold impl_BroadcastShape.l0
      rw [if_pos hbl, if_pos (by omega), if_pos hbl, e1, if_pos (by omega), if_pos hal, r1, r2, e2, put]
      by_cases h2 : x = 1
      · rw [if_pos h2, if_pos (by rw [List.length_append, List.length_cons]; omega), if_pos (Or.inr (Or.inl h2)), if_pos h2]
      · rw [if_neg h2]
        by_cases h1 : y = x
        · rw [if_pos h1, if_pos (Or.inl h1.symm), if_neg h2, keep]
        · rw [if_neg h1]
          by_cases h3 : y = 1
          · rw [if_pos h3, if_pos (Or.inr (Or.inr h3)), if_neg h2, keep]
          · rw [if_neg h3, if_neg (by grind)]
    rw [step]
    simp only [zc, comb]
    by_cases hc : x = y ∨ x = 1 ∨ y = 1
    · rw [if_pos hc, if_pos hc]
      have ih := ih (P ++ [if x = 1 then y else x]) (by simp; omega)
      generalize (if x = 1 then y else x) = z at *
      simp only [Option.bind_some]
      cases hz : zc sufa suf with
      | none => rw [hz] at ih; simpa [ans] using ih
      | some L => rw [hz] at ih; simpa [ans] using ih
    · rw [if_neg hc, if_neg hc]; rfl
theorem zc_ones : ∀ (xs : List Int), zc xs (List.replicate xs.length 1) = some xs
  | [] => rfl
  | x :: xs => by
    simp only [List.length_cons, List.replicate_succ, zc]
    rw [zc_ones xs]
    have : comb x 1 = some x := by unfold comb; grind
    rw [this]; rfl
theorem zc_append : ∀ (a b c d : List Int), a.length = b.length → zc (a ++ c) (b ++ d) = (zc a b).bind fun l => (zc c d).bind fun r => some (l ++ r)
  | [], [], c, d, _ => by simp [zc]
  | [], _ :: _, _, _, h => by simp at h
  | _ :: _, [], _, _, h => by simp at h
  | x :: a, y :: b, c, d, h => by
    simp only [List.cons_append, zc]
    rw [zc_append a b c d (by simpa using h)]
    cases comb x y with
    | none => rfl
    | some z =>
      simp only [Option.bind_some]
      cases zc a b with
      | none => rfl
      | some l =>
        simp only [Option.bind_some]
        cases zc c d <;> simp
theorem zc_pad (a b : List Int) (h : b.length ≤ a.length) : zc (pad a a.length) (pad b a.length) = (zc (a.drop (a.length - b.length)) b).bind fun r => some (a.take (a.length - b.length) ++ r) := by
  have e : pad a a.length = a.take (a.length - b.length) ++ a.drop (a.length - b.length) := by simp [pad]
  rw [e]
  unfold pad
  rw [zc_append _ _ _ _ (by simp)]
  have h1 : List.replicate (a.length - b.length) (1 : Int) = List.replicate (a.take (a.length - b.length)).length 1 := by simp
  rw [h1, zc_ones]
  simp
theorem impl_j1 (a b : List Int) (k : Nat) (ha : a.length ≤ 4) (h : b.length ≤ a.length) (hk : 100 < k) : ans [] (zc (pad a a.length) (pad b a.length)) (impl_BroadcastShape.j1 k a b) := by
  obtain ⟨k, rfl⟩ : ∃ m, k = m + 1 := ⟨k - 1, by omega⟩
  simp only [impl_BroadcastShape.j1, slices_Clone_int64_int64.f]
  rw [if_pos (by omega)]
  simp only [Option.bind_some]
  rw [w_id (by omega) (by omega)]
  have := impl_loop a b (a.length - b.length) ha b (a.drop (a.length - b.length)) [] (a.take (a.length - b.length)) (a.take (a.length - b.length)) k rfl (by simp) (by simp) (by simp; omega) rfl (by omega)
  rw [List.take_append_drop] at this
  rw [show (a.length : Int) - (b.length : Int) = ((a.length - b.length : Nat) : Int) by omega]
  rw [zc_pad a b h]
  revert this
  cases zc (a.drop (a.length - b.length)) b with
  | none => intro this; simpa [ans] using this
  | some L => intro this; simpa [ans] using this
theorem alike (a b : List Int) (k : Nat) (ha : a.length ≤ 1048576) (hb : b.length ≤ 1048576) (hk : a.length + b.length + 1000 < k) : ∃ c L, L.length ≤ 4 ∧ spec_BroadcastShape.f k a b = some (c, L) ∧ impl_BroadcastShape.f k a b = some (c, L) := by
  have ca := l2count_f k a (by omega)
  have cb := l2count_f k b (by omega)
  have ga := goodShape_f k a (by omega)
  have gb := goodShape_f k b (by omega)
  obtain ⟨q, rfl⟩ : ∃ q, k = q + 1 := ⟨k - 1, by omega⟩
  have bad : spec_BroadcastShape.j0 (q + 1) a b true = some (6, []) ∧ impl_BroadcastShape.j0 (q + 1) a b true = some (6, []) := by simp [spec_BroadcastShape.j0, impl_BroadcastShape.j0]
  unfold spec_BroadcastShape.f impl_BroadcastShape.f
  by_cases h1 : good a
  · have n1 := cnt_nonneg h1.2.1
    rw [ca.1 h1, ga.1 h1]
    simp only [Option.bind_some]
    rw [if_neg (by omega), if_pos trivial]
    by_cases h2 : good b
    · have n2 := cnt_nonneg h2.2.1
      rw [cb.1 h2, gb.1 h2]
      simp only [Option.bind_some, Bool.not_true]
      rw [decide_eq_false (by omega)]
      simp only [spec_BroadcastShape.j0, impl_BroadcastShape.j0, Bool.false_eq_true, if_false]
      obtain ⟨p, rfl⟩ : ∃ p, q = p + 1 := ⟨q - 1, by omega⟩
      have fin : ∀ (s i : Option (Int × List Int)) (o : Option (List Int)) (hL : ∀ L, o = some L → L.length ≤ 4), ans [] o s → ans [] o i → ∃ c L, List.length L ≤ 4 ∧ s = some (c, L) ∧ i = some (c, L) := by
        intro s i o hL hs hi
        cases o with
        | none => exact ⟨6, [], by simp, hs, hi⟩
        | some L =>
          simp only [ans, List.nil_append] at hs hi
          by_cases g : good L
          · exact ⟨0, L, g.1, hs.1 g, hi.1 g⟩
          · exact ⟨6, [], by simp, hs.2 g, hi.2 g⟩
      have a4 := h1.1
      have b4 := h2.1
      by_cases hc : (b.length : Int) > (a.length : Int)
      · rw [if_pos hc, if_pos hc]
        have s := spec_loop a b b.length b4 (by omega) (by omega) b.length [] p (by omega) (by omega) (by simp; omega)
        have i := impl_j1 b a (p + 1) b4 (by omega) (by omega)
        simp only [Nat.sub_self, List.drop_zero] at s
        rw [zc_comm] at i
        have hs1 : spec_BroadcastShape.j1 (p + 1) a b b.length = spec_BroadcastShape.l0 p a b [] ((b.length : Int) - 1) := by
          simp only [spec_BroadcastShape.j1]; rw [w_id (by omega) (by omega)]
        rw [hs1]
        exact fin _ _ _ (fun L hL => by rw [zc_len _ _ _ (by rw [pad_len a _ (by omega), pad_len b _ (by omega)]) hL, pad_len a _ (by omega)]; exact b4) s i
      · rw [if_neg hc, if_neg hc]
        have s := spec_loop a b a.length a4 (by omega) (by omega) a.length [] p (by omega) (by omega) (by simp; omega)
        have i := impl_j1 a b (p + 1) a4 (by omega) (by omega)
        simp only [Nat.sub_self, List.drop_zero] at s
        have hs1 : spec_BroadcastShape.j1 (p + 1) a b a.length = spec_BroadcastShape.l0 p a b [] ((a.length : Int) - 1) := by
          simp only [spec_BroadcastShape.j1]; rw [w_id (by omega) (by omega)]
        rw [hs1]
        exact fin _ _ _ (fun L hL => by rw [zc_len _ _ _ (by rw [pad_len a _ (by omega), pad_len b _ (by omega)]) hL, pad_len a _ (by omega)]; exact a4) s i
    · rw [cb.2 h2, gb.2 h2]
      simp only [Option.bind_some, Bool.not_false]
      rw [decide_eq_true (by omega)]
      exact ⟨6, [], by simp, bad.1, bad.2⟩
  · rw [ca.2 h1, ga.2 h1]
    simp only [Option.bind_some]
    rw [if_pos (by omega), if_neg (by simp)]
    exact ⟨6, [], by simp, bad.1, bad.2⟩
theorem eqSR (k : Nat) (c : Int) (L : List Int) (hl : L.length ≤ 1048576) (hk : L.length < k) : laws_eqShapeResult.f k c L c L = some true := by
  unfold laws_eqShapeResult.f
  rw [if_pos rfl, eq_f k L (by omega) hk]
  rfl
theorem law_true (a b : List Int) (ha : a.length ≤ 1048576) (hb : b.length ≤ 1048576) (k : Nat) (hk : 4000000 < k) : laws_FnExactBroadcastShape.f k a b = some true := by
  obtain ⟨c, L, hL, hs, hi⟩ := alike a b k ha hb (by omega)
  have ta := to_f k a (by omega) (by omega)
  have tb := to_f k b (by omega) (by omega)
  have j : laws_FnExactBroadcastShape.j0 k a b false c L c L = some true := by
    obtain ⟨q, rfl⟩ : ∃ q, k = q + 1 := ⟨k - 1, by omega⟩
    obtain ⟨c', L', hL', hs', hi'⟩ := alike a b q ha hb (by omega)
    have e1 := spec_BroadcastShape.mono a b q _ hs'
    rw [hs] at e1
    obtain ⟨rfl, rfl⟩ : c = c' ∧ L = L' := by simpa using e1
    simp only [laws_FnExactBroadcastShape.j0, Bool.false_eq_true, if_false]
    have hm := mark_f L q 1 (by omega) (by omega) (by omega) (by omega)
    have hh := held_f L.length q 1 (by omega) (by omega) (by omega) (by omega)
    unfold laws_markShapeResult.f laws_heldShapeResult.f
    rw [hm]; simp only [Option.bind_some]
    rw [hh]; simp only [Option.bind_some]
    rw [if_neg (by omega)]; simp only [Option.bind_some]
    rw [if_neg (by omega), if_pos trivial, to_f q a (by omega) (by omega)]; simp only [Option.bind_some]
    rw [to_f q b (by omega) (by omega)]; simp only [Option.bind_some]
    rw [hi']; simp only [Option.bind_some]
    rw [eqSR q c L (by omega) (by omega)]; simp only [Option.bind_some]
    rw [if_pos trivial, if_neg (by omega), if_pos trivial]
  unfold laws_FnExactBroadcastShape.f
  rw [if_neg (by omega), if_neg (by omega), ta]; simp only [Option.bind_some]
  rw [tb]; simp only [Option.bind_some]
  rw [hs]; simp only [Option.bind_some]
  rw [hi]; simp only [Option.bind_some]
  rw [eqSR k c L (by omega) (by omega)]; simp only [Option.bind_some]
  rw [if_pos trivial, eq_f k a (by omega) (by omega)]; simp only [Option.bind_some]
  rw [if_pos trivial, eq_f k b (by omega) (by omega)]; simp only [Option.bind_some]
  rw [if_pos trivial, mark_f a k 1 (by omega) (by omega) (by omega) (by omega)]; simp only [Option.bind_some]
  rw [mark_f b k _ (by omega) (by omega) (by omega) (by omega)]; simp only [Option.bind_some]
  rw [if_neg (by omega)]
  exact j
end Go.Proofs.Ytpmdgmnpkdoamaa.DFnExactBroadcastShape
namespace Go.Proofs.Ytpmdgmnpkdoamaa.Pure
open Go.RowKit Go.Proofs.Ytpmdgmnpkdoamaa.DFnExactBroadcastShape
theorem FnExactBroadcastShape : laws_FnExactBroadcastShape.Pure := by
  intro a b _ _ _ _ _ _
  by_cases h1 : (a.length : Int) > 1048576
  · exact ⟨0, by unfold laws_FnExactBroadcastShape.f; rw [if_pos h1]⟩
  · by_cases h2 : (b.length : Int) > 1048576
    · exact ⟨0, by unfold laws_FnExactBroadcastShape.f; rw [if_neg h1, if_pos h2]⟩
    · exact ⟨4000001, law_true a b (by omega) (by omega) _ (by omega)⟩
end Go.Proofs.Ytpmdgmnpkdoamaa.Pure
