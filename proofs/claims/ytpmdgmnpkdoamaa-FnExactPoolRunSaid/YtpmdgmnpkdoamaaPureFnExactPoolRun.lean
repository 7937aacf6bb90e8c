/- Proved here: what the words printed for the law on PoolRun come to: the law answers true (plain Lean). Condition: the operations' number. -/
import Derived.Test.YtpmdgmnpkdoamaaDFnExactPoolRunx
namespace Go.Proofs.Ytpmdgmnpkdoamaa.DFnExactPoolRun
open Go.RowKit Go.Proofs.YtpmdgmnpkdoamaaW.PrintWords Go.Proofs.YtpmdgmnpkdoamaaW.PrintLast Go.Proofs.YtpmdgmnpkdoamaaW.PrintMore
set_option linter.unusedVariables false
set_option linter.unusedSimpArgs false
theorem w_id {n : Int} (h : -9223372036854775808 ≤ n) (h2 : n < 9223372036854775808) : wrap64 n = n := by unfold wrap64; omega
theorem len_m {α : Type} (pre suf : List α) (x : α) : ((pre ++ x :: suf).length : Int) = pre.length + 1 + suf.length := by simp; omega
theorem nx_m {α : Type} (pre suf : List α) (x : α) : pre ++ x :: suf = (pre ++ [x]) ++ suf := by simp
theorem at_m {α : Type} (d : α) (pre suf : List α) (x : α) : (pre ++ x :: suf).getD (pre.length : Int).toNat d = x := by simp
theorem ix_m {α : Type} (pre : List α) (x : α) (h : pre.length < 1099511627776) : wrap64 ((pre.length : Int) + 1) = ((pre ++ [x]).length : Int) := by rw [w_id (by omega) (by omega)]; simp
theorem set_m {α : Type} (pre suf : List α) (x y : α) : (pre ++ x :: suf).set (pre.length : Int).toNat y = (pre ++ [y]) ++ suf := by simp
/-! ### the harness -/
def ov (c : S131) : S67 := ⟨c.f0, c.f1, c.f2⟩
theorem toO_l0 : ∀ (suf pre : List S131) (k : Nat), suf.length < k → pre.length + suf.length < 1099511627776 → laws_toPoolOpS.l0 k (pre ++ suf) (pre.map ov ++ List.replicate suf.length z67) pre.length = some ((pre ++ suf).map ov)
  | [], pre, k, hk, _ => by
    obtain ⟨k, rfl⟩ : ∃ m, k = m + 1 := ⟨k - 1, by omega⟩
    rw [laws_toPoolOpS.l0, if_neg (by simp)]
    simp
  | c :: suf, pre, k, hk, hl => by
    simp only [List.length_cons] at hk hl
    obtain ⟨k, rfl⟩ : ∃ m, k = m + 1 := ⟨k - 1, by omega⟩
    have ih := toO_l0 suf (pre ++ [c]) k (by omega) (by simp; omega)
    rw [laws_toPoolOpS.l0, if_pos (by rw [len_m]; omega), if_pos (by omega)]
    unfold rd_T131
    rw [at_m]
    unfold laws_toPoolOp.f
    simp only [Option.bind_some]
    have e : (pre.map ov ++ List.replicate (c :: suf).length z67).set (pre.length : Int).toNat (ov c) = (pre ++ [c]).map ov ++ List.replicate suf.length z67 := by
      rw [List.length_cons, List.replicate_succ]
      have := set_m (pre.map ov) (List.replicate suf.length z67) z67 (ov c)
      rw [List.length_map] at this
      rw [this]
      simp
    rw [if_pos (by simp; omega), ix_m pre c (by omega), nx_m pre suf c]
    have e' := e
    unfold ov at e'
    rw [show ((⟨c.f0, c.f1, c.f2⟩ : S67)) = ov c from rfl, e]
    exact ih
theorem toO (xs : List S131) (k : Nat) (hk : xs.length < k) (hl : xs.length ≤ 1048576) : laws_toPoolOpS.f k xs = some (xs.map ov) := by
  unfold laws_toPoolOpS.f
  rw [if_pos (by omega), if_pos (by omega)]
  have := toO_l0 xs [] k hk (by simp; omega)
  simpa using this
theorem eqO_l0 : ∀ (suf pre : List S67) (k : Nat), suf.length < k → pre.length + suf.length < 1099511627776 → laws_eqPoolOpS.l0 k (pre ++ suf) (pre ++ suf) pre.length = some true
  | [], pre, k, hk, _ => by
    obtain ⟨k, rfl⟩ : ∃ m, k = m + 1 := ⟨k - 1, by omega⟩
    rw [laws_eqPoolOpS.l0, if_neg (by simp)]
  | c :: suf, pre, k, hk, hl => by
    simp only [List.length_cons] at hk hl
    obtain ⟨k, rfl⟩ : ∃ m, k = m + 1 := ⟨k - 1, by omega⟩
    have ih := eqO_l0 suf (pre ++ [c]) k (by omega) (by simp; omega)
    rw [laws_eqPoolOpS.l0, if_pos (by rw [len_m]; omega), if_pos (by omega), if_pos (by rw [len_m]; omega)]
    unfold rd_T67
    rw [at_m]
    unfold laws_eqPoolOp.f
    rw [if_pos rfl, if_pos rfl, if_pos rfl]
    simp only [Option.bind_some]
    rw [if_pos trivial, ix_m pre c (by omega), nx_m pre suf c, ih]
theorem eqA_l0 : ∀ (suf pre : List S65) (k : Nat), suf.length < k → pre.length + suf.length < 1099511627776 → laws_eqPoolAnswerS.l0 k (pre ++ suf) (pre ++ suf) pre.length = some true
  | [], pre, k, hk, _ => by
    obtain ⟨k, rfl⟩ : ∃ m, k = m + 1 := ⟨k - 1, by omega⟩
    rw [laws_eqPoolAnswerS.l0, if_neg (by simp)]
  | c :: suf, pre, k, hk, hl => by
    simp only [List.length_cons] at hk hl
    obtain ⟨k, rfl⟩ : ∃ m, k = m + 1 := ⟨k - 1, by omega⟩
    have ih := eqA_l0 suf (pre ++ [c]) k (by omega) (by simp; omega)
    rw [laws_eqPoolAnswerS.l0, if_pos (by rw [len_m]; omega), if_pos (by omega), if_pos (by rw [len_m]; omega)]
    unfold rd_T65
    rw [at_m]
    unfold laws_eqPoolAnswer.f
    rw [if_pos rfl, if_pos rfl, if_pos rfl]
    simp only [Option.bind_some]
    rw [if_pos trivial, ix_m pre c (by omega), nx_m pre suf c, ih]
theorem eqO (k : Nat) (xs : List S67) (hk : xs.length < k) (hl : xs.length ≤ 1048576) : laws_eqPoolOpS.f k xs xs = some true := by
  unfold laws_eqPoolOpS.f
  rw [if_pos rfl]
  have := eqO_l0 xs [] k hk (by simp; omega)
  simpa using this
theorem eqA (k : Nat) (xs : List S65) (hk : xs.length < k) (hl : xs.length ≤ 1048576) : laws_eqPoolAnswerS.f k xs xs = some true := by
  unfold laws_eqPoolAnswerS.f
  rw [if_pos rfl]
  have := eqA_l0 xs [] k hk (by simp; omega)
  simpa using this
def omk : Nat → Int → List S67
  | 0, _ => []
  | n + 1, a => ⟨a, a + 1, a + 1 + 1⟩ :: omk n (a + 1 + 1 + 1)
theorem omk_len : ∀ (n : Nat) (a : Int), (omk n a).length = n
  | 0, _ => rfl
  | n + 1, a => by simp only [omk, List.length_cons, omk_len n]
theorem omark_l0 : ∀ (suf pre : List S67) (k : Nat) (a : Int), suf.length < k → pre.length + suf.length < 1099511627776 → 0 ≤ a → a + 3 * (suf.length : Int) < 1099511627776 →
    laws_markPoolOpS.l0 k (pre ++ suf) a pre.length = some (a + 3 * (suf.length : Int), pre ++ omk suf.length a)
  | [], pre, k, a, hk, _, _, _ => by
    obtain ⟨k, rfl⟩ : ∃ m, k = m + 1 := ⟨k - 1, by omega⟩
    rw [laws_markPoolOpS.l0, if_neg (by simp)]
    simp [omk]
  | c :: suf, pre, k, a, hk, hl, h0, h1 => by
    simp only [List.length_cons] at hk hl h1 ⊢
    obtain ⟨k, rfl⟩ : ∃ m, k = m + 1 := ⟨k - 1, by omega⟩
    have w1 : wrap64 (a + 1) = a + 1 := w_id (by omega) (by omega)
    have w2 : wrap64 (a + 1 + 1) = a + 1 + 1 := w_id (by omega) (by omega)
    have w3 : wrap64 (a + 1 + 1 + 1) = a + 1 + 1 + 1 := w_id (by omega) (by omega)
    have ih := omark_l0 suf (pre ++ [⟨a, a + 1, a + 1 + 1⟩]) k (a + 1 + 1 + 1) (by omega) (by simp; omega) (by omega) (by omega)
    have s1 : ∀ x y : S67, (pre ++ x :: suf).set (pre.length : Int).toNat y = pre ++ y :: suf := fun x y => by simp
    have r1 : ∀ x : S67, rd_T67 (pre ++ x :: suf) (pre.length : Int) = x := fun x => at_m _ _ _ _
    rw [laws_markPoolOpS.l0, if_pos (by rw [len_m]; omega), if_pos (by omega), w1, w2, w3]
    simp only [Option.bind_some, s1, r1]
    rw [ix_m pre _ (by omega), nx_m pre suf, ih]
    simp only [omk, List.append_assoc, List.singleton_append]
    congr 2
    omega
def amk : Nat → Int → List S65
  | 0, _ => []
  | n + 1, a => ⟨a, a + 1, a + 1 + 1⟩ :: amk n (a + 1 + 1 + 1)
theorem amk_len : ∀ (n : Nat) (a : Int), (amk n a).length = n
  | 0, _ => rfl
  | n + 1, a => by simp only [amk, List.length_cons, amk_len n]
theorem amark_l0 : ∀ (suf pre : List S65) (k : Nat) (a : Int), suf.length < k → pre.length + suf.length < 1099511627776 → 0 ≤ a → a + 3 * (suf.length : Int) < 1099511627776 →
    laws_markPoolAnswerS.l0 k (pre ++ suf) a pre.length = some (a + 3 * (suf.length : Int), pre ++ amk suf.length a)
  | [], pre, k, a, hk, _, _, _ => by
    obtain ⟨k, rfl⟩ : ∃ m, k = m + 1 := ⟨k - 1, by omega⟩
    rw [laws_markPoolAnswerS.l0, if_neg (by simp)]
    simp [amk]
  | c :: suf, pre, k, a, hk, hl, h0, h1 => by
    simp only [List.length_cons] at hk hl h1 ⊢
    obtain ⟨k, rfl⟩ : ∃ m, k = m + 1 := ⟨k - 1, by omega⟩
    have w1 : wrap64 (a + 1) = a + 1 := w_id (by omega) (by omega)
    have w2 : wrap64 (a + 1 + 1) = a + 1 + 1 := w_id (by omega) (by omega)
    have w3 : wrap64 (a + 1 + 1 + 1) = a + 1 + 1 + 1 := w_id (by omega) (by omega)
    have ih := amark_l0 suf (pre ++ [⟨a, a + 1, a + 1 + 1⟩]) k (a + 1 + 1 + 1) (by omega) (by simp; omega) (by omega) (by omega)
    have s1 : ∀ x y : S65, (pre ++ x :: suf).set (pre.length : Int).toNat y = pre ++ y :: suf := fun x y => by simp
    have r1 : ∀ x : S65, rd_T65 (pre ++ x :: suf) (pre.length : Int) = x := fun x => at_m _ _ _ _
    rw [laws_markPoolAnswerS.l0, if_pos (by rw [len_m]; omega), if_pos (by omega), w1, w2, w3]
    simp only [Option.bind_some, s1, r1]
    rw [ix_m pre _ (by omega), nx_m pre suf, ih]
    simp only [amk, List.append_assoc, List.singleton_append]
    congr 2
    omega
theorem aheld_l0 : ∀ (n : Nat) (pre : List S65) (k : Nat) (a : Int), n < k → pre.length + n < 1099511627776 → 0 ≤ a → a + 3 * (n : Int) < 1099511627776 →
    laws_heldPoolAnswerS.l0 k (pre ++ amk n a) a pre.length = some (a + 3 * (n : Int))
  | 0, pre, k, a, hk, _, _, _ => by
    obtain ⟨k, rfl⟩ : ∃ m, k = m + 1 := ⟨k - 1, by omega⟩
    rw [laws_heldPoolAnswerS.l0, if_neg (by simp [amk])]
    simp
  | n + 1, pre, k, a, hk, hl, h0, h1 => by
    obtain ⟨k, rfl⟩ : ∃ m, k = m + 1 := ⟨k - 1, by omega⟩
    have w1 : wrap64 (a + 1) = a + 1 := w_id (by omega) (by omega)
    have w2 : wrap64 (a + 1 + 1) = a + 1 + 1 := w_id (by omega) (by omega)
    have w3 : wrap64 (a + 1 + 1 + 1) = a + 1 + 1 + 1 := w_id (by omega) (by omega)
    have ih := aheld_l0 n (pre ++ [⟨a, a + 1, a + 1 + 1⟩]) k (a + 1 + 1 + 1) (by omega) (by simp; omega) (by omega) (by omega)
    have r1 : ∀ x : S65, rd_T65 (pre ++ x :: amk n (a + 1 + 1 + 1)) (pre.length : Int) = x := fun x => at_m _ _ _ _
    simp only [amk]
    rw [laws_heldPoolAnswerS.l0, if_pos (by rw [len_m]; omega), if_pos (by omega), w1, w2, w3]
    simp only [r1]
    rw [if_pos trivial, if_pos trivial, if_pos trivial, ix_m pre _ (by omega), nx_m pre, ih]
    congr 1
    omega
/-! ### the pool -/
def toS (bs : List (Nat × Bool)) : List S118 := bs.map fun b => ⟨(b.1 : Int), b.2⟩
def Good (bs : List (Nat × Bool)) : Prop := ∀ b ∈ bs, b.1 ≤ 65536
theorem toS_len (bs : List (Nat × Bool)) : (toS bs).length = bs.length := by simp [toS]
theorem toS_at (bs : List (Nat × Bool)) (j : Nat) (b : Nat × Bool) (h : bs[j]? = some b) : rd_T118 (toS bs) (j : Int) = ⟨(b.1 : Int), b.2⟩ := by
  unfold rd_T118
  rw [Int.toNat_natCast, List.getD_eq_getElem?_getD, toS, List.getElem?_map, h]; rfl
theorem toS_set (bs : List (Nat × Bool)) (j : Nat) (b : Nat × Bool) : (toS bs).set j ⟨(b.1 : Int), b.2⟩ = toS (bs.set j b) := by simp [toS, List.map_set]
theorem live_cons (b : Nat × Bool) (bs : List (Nat × Bool)) : Pl.liveOf (b :: bs) = (if b.2 = true then (b.1 : Int) else 0) + Pl.liveOf bs := by simp [Pl.liveOf]
theorem live_l0 : ∀ (suf pre : List (Nat × Bool)) (acc : Int) (k : Nat), suf.length < k → pre.length + suf.length ≤ 2000 → Good suf → 0 ≤ acc → acc ≤ 65536 * (pre.length : Int) → spec_l3Live.l0 k (toS (pre ++ suf)) acc pre.length = some (acc + Pl.liveOf suf)
  | [], pre, acc, k, hk, _, _, _, _ => by
    obtain ⟨k, rfl⟩ : ∃ m, k = m + 1 := ⟨k - 1, by omega⟩
    rw [spec_l3Live.l0, if_neg (by rw [toS_len]; simp)]
    simp [Pl.liveOf]
  | b :: suf, pre, acc, k, hk, hl, hg, h0, h1 => by
    simp only [List.length_cons] at hk hl
    obtain ⟨k, rfl⟩ : ∃ m, k = m + 1 := ⟨k - 1, by omega⟩
    have hb := hg b (by simp)
    have hat := toS_at (pre ++ b :: suf) pre.length b (by simp)
    have ih := fun acc' h0' h1' => live_l0 suf (pre ++ [b]) acc' k (by omega) (by simp; omega) (fun x hx => hg x (by simp [hx])) h0' h1'
    rw [live_cons, spec_l3Live.l0, if_pos (by rw [toS_len]; simp; omega), if_pos (by omega), hat]
    dsimp only
    rw [ix_m pre b (by omega), nx_m]
    cases hl2 : b.2 with
    | true =>
      rw [if_pos rfl, if_pos rfl, w_id (by omega) (by omega), ih _ (by omega) (by simp; omega)]
      congr 1
      omega
    | false =>
      rw [if_neg (by decide), if_neg (by decide), ih _ h0 (by simp; omega)]
      congr 1
      omega
theorem live_f (k : Nat) (bs : List (Nat × Bool)) (hk : 2000 < k) (hl : bs.length ≤ 2000) (hg : Good bs) : spec_l3Live.f k (toS bs) = some (Pl.liveOf bs) := by
  have := live_l0 bs [] 0 k (by omega) (by simpa using hl) hg (by omega) (by simp)
  unfold spec_l3Live.f
  simpa using this
theorem live_b (bs : List (Nat × Bool)) (hl : bs.length ≤ 2000) (hg : Good bs) : 0 ≤ Pl.liveOf bs ∧ Pl.liveOf bs ≤ 131072000 := by
  have h1 := Pl.live_nonneg bs
  have h2 := Pl.live_le bs hg
  omega
theorem take_walk (bs : List (Nat × Bool)) (R : Nat) (hl : bs.length ≤ 2000) : ∀ (d m k : Nat), m + d ≤ bs.length → (∀ j, m ≤ j → j < m + d → bs[j]? ≠ some (R, false)) → spec_l3Take.l0 (k + d) (toS bs) R m = spec_l3Take.l0 k (toS bs) R ((m + d : Nat) : Int)
  | 0, m, k, _, _ => rfl
  | d + 1, m, k, h, hn => by
    obtain ⟨b, hb⟩ : ∃ b, bs[m]? = some b := ⟨_, List.getElem?_eq_getElem (by omega)⟩
    have hat := toS_at bs m b hb
    have ih := take_walk bs R hl d (m + 1) k (by omega) (fun j h1 h2 => hn j (by omega) (by omega))
    have hne : b ≠ (R, false) := fun e => hn m (Nat.le_refl _) (by omega) (by rw [hb, e])
    have hi : wrap64 ((m : Int) + 1) = ((m + 1 : Nat) : Int) := by rw [w_id (by omega) (by omega)]; rfl
    rw [show k + (d + 1) = (k + d) + 1 by omega, spec_l3Take.l0, if_pos (by rw [toS_len]; omega), if_pos (by omega), hat]
    dsimp only
    rw [hi, ih, show m + 1 + d = m + (d + 1) by omega]
    cases hb2 : b.2 with
    | true => rw [if_pos rfl]
    | false =>
      rw [if_neg (by decide), if_neg]
      intro e
      exact hne (by rw [← hb2]; ext <;> simp; omega)
theorem take_f (k : Nat) (bs : List (Nat × Bool)) (bud : Int) (R : Nat) (hk : 5000 < k) (hl : bs.length ≤ 2000) (hg : Good bs) (h1 : R ≤ 65536) :
    spec_l3Take.f k (toS bs) bud R = some (toS (Pl.takeF bs bud R).1, (Pl.takeF bs bud R).2.1) ∧ (Pl.takeF bs bud R).2.2 = (if (Pl.takeF bs bud R).2.1 < 0 then 17 else 0) := by
  have hb := live_b bs hl hg
  unfold spec_l3Take.f Pl.takeF
  rw [live_f k bs (by omega) hl hg]
  simp only [Option.bind_some]
  rw [w_id (by omega) (by omega), if_neg (show ¬ (R : Int) < 0 by omega)]
  by_cases c : bud < Pl.liveOf bs + R
  · rw [if_pos c, if_pos c]
    exact ⟨rfl, rfl⟩
  · rw [if_neg c, if_neg c, Int.toNat_natCast]
    cases hfi : bs.findIdx? (fun b => b == (R, false)) with
    | none =>
      have hno : ∀ i : Nat, bs[i]? ≠ some (R, false) := by
        intro i hi
        have := List.findIdx?_eq_none_iff.1 hfi (R, false) (List.mem_of_getElem? hi)
        simp at this
      have := take_walk bs R hl bs.length 0 (k - bs.length) (by omega) (fun j _ _ => hno j)
      rw [show k - bs.length + bs.length = k by omega] at this
      obtain ⟨q, hq⟩ : ∃ q, k - bs.length = q + 1 := ⟨k - bs.length - 1, by omega⟩
      rw [hq, spec_l3Take.l0, if_neg (by rw [toS_len]; omega), toS_len, if_pos (by omega)] at this
      dsimp only
      refine ⟨?_, by rw [if_neg (by omega)]⟩
      rw [show ((0 : Nat) : Int) = 0 from rfl] at this
      rw [this]
      simp [toS]
    | some n =>
      obtain ⟨hnl, hnp, hnf⟩ := List.findIdx?_eq_some_iff_getElem.1 hfi
      have hn : bs[n]? = some (R, false) := by
        rw [List.getElem?_eq_getElem hnl]
        exact congrArg some (by simpa using hnp)
      have := take_walk bs R hl n 0 (k - n) (by omega) (fun j _ hj e => by
        have hj' : j < n := by omega
        have := hnf j hj'
        rw [List.getElem?_eq_getElem (by omega)] at e
        rw [Option.some.inj e] at this
        simp at this)
      rw [show k - n + n = k by omega] at this
      obtain ⟨q, hq⟩ : ∃ q, k - n = q + 1 := ⟨k - n - 1, by omega⟩
      rw [Nat.zero_add, hq, spec_l3Take.l0, if_pos (by rw [toS_len]; omega), if_pos (by omega), toS_at bs n _ hn] at this
      dsimp only at this
      rw [if_neg (by decide), if_pos rfl, Int.toNat_natCast] at this
      dsimp only
      refine ⟨?_, by rw [if_neg (by omega)]⟩
      rw [show ((0 : Nat) : Int) = 0 from rfl] at this
      rw [this, toS_set bs n (R, true)]
theorem rb_l0 : ∀ (d k : Nat) (n x : Int), 0 < x → x ≤ 65536 → x * ((2 ^ d : Nat) : Int) = 65536 → d < k → n ≤ 65536 → ∃ v, spec_RoundBytes.l0 k n x = some v ∧ x ≤ v ∧ v ≤ 65536
  | 0, k, n, x, h0, h1, h2, hk, hn => by
    obtain ⟨k, rfl⟩ : ∃ m, k = m + 1 := ⟨k - 1, by omega⟩
    have : x = 65536 := by simpa using h2
    rw [spec_RoundBytes.l0, if_neg (by omega)]
    exact ⟨x, rfl, Int.le_refl _, h1⟩
  | d + 1, k, n, x, h0, h1, h2, hk, hn => by
    obtain ⟨k, rfl⟩ : ∃ m, k = m + 1 := ⟨k - 1, by omega⟩
    rw [spec_RoundBytes.l0]
    by_cases c : x < n
    · rw [if_pos c, w_id (by omega) (by omega)]
      have e : x * 2 * ((2 ^ d : Nat) : Int) = 65536 := by
        rw [← h2, Nat.pow_succ, Nat.mul_comm, Int.natCast_mul, Int.mul_assoc]; rfl
      have hp : (1 : Int) ≤ ((2 ^ d : Nat) : Int) := by have := Nat.two_pow_pos d; omega
      have hx : x * 2 ≤ 65536 := by
        have := Int.mul_le_mul_of_nonneg_left hp (show 0 ≤ x * 2 by omega)
        omega
      obtain ⟨v, h3, h4, h5⟩ := rb_l0 d k n (x * 2) (by omega) hx e (by omega) hn
      exact ⟨v, h3, by omega, h5⟩
    · rw [if_neg c]
      exact ⟨x, rfl, Int.le_refl _, h1⟩
theorem rb_f (k : Nat) (n : Int) (hk : 20 < k) : ∃ v, spec_RoundBytes.f k n = some v ∧ (v < 0 ∨ (16 ≤ v ∧ v ≤ 65536)) := by
  obtain ⟨k, rfl⟩ : ∃ m, k = m + 1 := ⟨k - 1, by omega⟩
  unfold spec_RoundBytes.f
  by_cases c : n < 0
  · rw [if_pos c, spec_RoundBytes.j0, if_pos rfl]
    exact ⟨-1, rfl, .inl (by omega)⟩
  · rw [if_neg c, spec_RoundBytes.j0]
    by_cases c2 : n > 65536
    · rw [decide_eq_true c2, if_pos rfl]
      exact ⟨-1, rfl, .inl (by omega)⟩
    · rw [decide_eq_false c2, if_neg (by decide)]
      obtain ⟨v, h1, h2, h3⟩ := rb_l0 12 k n 16 (by omega) (by omega) (by decide) (by omega) (by omega)
      exact ⟨v, h1, .inr ⟨h2, h3⟩⟩
theorem rb_up (n : Int) (v : Int) (k : Nat) (h : spec_RoundBytes.f k n = some v) : ∀ d, spec_RoundBytes.f (k + d) n = some v
  | 0 => h
  | d + 1 => spec_RoundBytes.mono n (k + d) _ (rb_up n v k h d)
theorem takeF_good (bs : List (Nat × Bool)) (bud r : Int) (hg : Good bs) (h : r < 0 ∨ (16 ≤ r ∧ r ≤ 65536)) : Good (Pl.takeF bs bud r).1 ∧ (Pl.takeF bs bud r).1.length ≤ bs.length + 1 := by
  unfold Pl.takeF
  split
  · exact ⟨hg, by simp⟩
  · split
    · exact ⟨hg, by simp⟩
    · split
      · refine ⟨fun b hb => ?_, by simp⟩
        rcases List.mem_or_eq_of_mem_set hb with hb | rfl
        · exact hg b hb
        · dsimp only; omega
      · refine ⟨fun b hb => ?_, by simp⟩
        rcases List.mem_append.1 hb with hb | hb
        · exact hg b hb
        · obtain rfl := List.mem_singleton.1 hb
          dsimp only; omega
theorem giveF_good (bs : List (Nat × Bool)) (n : Int) (hg : Good bs) : Good (Pl.giveF bs n).1 ∧ (Pl.giveF bs n).1.length = bs.length := by
  unfold Pl.giveF
  split
  · exact ⟨hg, rfl⟩
  · split
    · rename_i r hr
      refine ⟨fun b hb => ?_, by simp⟩
      rcases List.mem_or_eq_of_mem_set hb with hb | rfl
      · exact hg b hb
      · exact hg (r, true) (List.mem_of_getElem? hr)
    · exact ⟨hg, rfl⟩
theorem run_alike (a0 : Int) : ∀ (ops pre : List S67) (bs : List (Nat × Bool)) (out : List S65) (k K : Nat), ops.length + 6000 < k → 8000 < K → pre.length + ops.length ≤ 2000 → bs.length ≤ pre.length → Good bs → out.length = pre.length →
    ∃ res, spec_PoolRun.l0 k a0 (pre ++ ops) out (toS bs) pre.length = some res ∧ impl_PoolRun.run K a0 ops bs out = some res ∧ res.length = pre.length + ops.length
  | [], pre, bs, out, k, K, hk, hK, hl, hb, hg, ho => by
    obtain ⟨k, rfl⟩ : ∃ m, k = m + 1 := ⟨k - 1, by omega⟩
    rw [spec_PoolRun.l0, if_neg (by simp), impl_PoolRun.run]
    exact ⟨out, rfl, rfl, by simpa using ho⟩
  | o :: ops, pre, bs, out, k, K, hk, hK, hl, hb, hg, ho => by
    simp only [List.length_cons] at hk hl
    obtain ⟨k, rfl⟩ : ∃ m, k = m + 1 := ⟨k - 1, by omega⟩
    have ih : ∀ (bs' : List (Nat × Bool)) (out' : List S65), bs'.length ≤ pre.length + 1 → Good bs' → out'.length = pre.length + 1 → ∃ res, spec_PoolRun.l0 k a0 ((pre ++ [o]) ++ ops) out' (toS bs') ((pre ++ [o]).length : Int) = some res ∧ impl_PoolRun.run K a0 ops bs' out' = some res ∧ res.length = (pre ++ [o]).length + ops.length :=
      fun bs' out' hb' hg' ho' => run_alike a0 ops (pre ++ [o]) bs' out' k K (by omega) hK (by simp; omega) (by simp; omega) hg' (by simp; omega)
    have hrd : rd_T67 (pre ++ o :: ops) (pre.length : Int) = o := at_m _ _ _ _
    have hlv := live_f k bs (by omega) (by omega) hg
    rw [spec_PoolRun.l0, if_pos (by rw [len_m]; omega), if_pos (by omega), hrd, ix_m pre o (by omega), nx_m, impl_PoolRun.run]
    unfold impl_PoolRun.step
    have fin : ∀ (bs' : List (Nat × Bool)) (x : S65), bs'.length ≤ bs.length + 1 → Good bs' → ∃ res, spec_PoolRun.l0 k a0 ((pre ++ [o]) ++ ops) (out ++ [x]) (toS bs') ((pre ++ [o]).length : Int) = some res ∧ impl_PoolRun.run K a0 ops bs' (out ++ [x]) = some res ∧ res.length = pre.length + (ops.length + 1) := by
      intro bs' x h1 h2
      obtain ⟨res, r1, r2, r3⟩ := ih bs' (out ++ [x]) (by omega) h2 (by simp; omega)
      exact ⟨res, r1, r2, by rw [r3]; simp; omega⟩
    simp only [List.length_cons]
    by_cases k1 : o.f0 = 1
    · rw [if_pos k1, if_pos k1]
      obtain ⟨v, hv, hv2⟩ := rb_f 30 o.f1 (by omega)
      have e1 := rb_up o.f1 v 30 hv (k - 30)
      have e2 := rb_up o.f1 v 30 hv (K - 30)
      rw [show 30 + (k - 30) = k by omega] at e1
      rw [show 30 + (K - 30) = K by omega] at e2
      rw [e1, e2]
      simp only [Option.bind_some]
      rw [if_pos hv2]
      simp only [Option.bind_some]
      obtain ⟨g1, g2⟩ := takeF_good bs a0 v hg hv2
      by_cases c : v < 0
      · have ht : Pl.takeF bs a0 v = (bs, -1, 16) := by unfold Pl.takeF; rw [if_pos c]
        rw [if_pos c, hlv, ht]
        simp only [Option.bind_some]
        rw [if_pos (by omega)]
        exact fin bs _ (by omega) hg
      · rw [if_neg c]
        obtain ⟨R, rfl⟩ : ∃ R : Nat, v = R := ⟨v.toNat, by omega⟩
        obtain ⟨t1, t2⟩ := take_f k bs a0 R (by omega) (by omega) hg (by omega)
        have hlv2 := live_f k (Pl.takeF bs a0 R).1 (by omega) (by omega) g1
        rw [t1]
        simp only [Option.bind_some]
        by_cases c2 : (Pl.takeF bs a0 R).2.1 < 0
        · rw [if_pos c2] at t2 ⊢
          rw [hlv2, t2]
          simp only [Option.bind_some]
          rw [if_pos (by omega)]
          exact fin _ _ g2 g1
        · rw [if_neg c2] at t2 ⊢
          rw [hlv2, t2]
          simp only [Option.bind_some]
          rw [if_pos (by omega)]
          exact fin _ _ g2 g1
    · rw [if_neg k1, if_neg k1]
      by_cases k2 : o.f0 = 2
      · rw [if_pos k2, if_pos k2]
        simp only [Option.bind_some]
        obtain ⟨g1, g2⟩ := giveF_good bs o.f2 hg
        have hlv2 := live_f k (Pl.giveF bs o.f2).1 (by omega) (by omega) g1
        have miss : Pl.giveF bs o.f2 = (bs, -1, 15) → ∃ res, ((spec_l3Live.f k (toS bs)).bind fun t => if out.length < 5864062014805 then spec_PoolRun.l0 k a0 (pre ++ [o] ++ ops) (out ++ [(⟨15, -1, t⟩ : S65)]) (toS bs) ((pre ++ [o]).length : Int) else none) = some res ∧
            impl_PoolRun.run K a0 ops (Pl.giveF bs o.f2).1 (out ++ [(⟨(Pl.giveF bs o.f2).2.2, (Pl.giveF bs o.f2).2.1, Pl.liveOf (Pl.giveF bs o.f2).1⟩ : S65)]) = some res ∧ res.length = pre.length + (ops.length + 1) := by
          intro hf
          rw [hf, hlv]
          simp only [Option.bind_some]
          rw [if_pos (by omega)]
          exact fin bs _ (by omega) hg
        by_cases c1 : o.f2 < 0
        · rw [if_pos c1]
          exact miss (by unfold Pl.giveF; rw [if_pos c1])
        · rw [if_neg c1, toS_len]
          by_cases c2 : o.f2 ≥ (bs.length : Int)
          · rw [if_pos c2]
            exact miss (by unfold Pl.giveF; rw [if_neg c1, List.getElem?_eq_none (by omega)])
          · rw [if_neg c2, if_pos (by omega), if_pos (by omega)]
            obtain ⟨⟨sz, l⟩, hn⟩ : ∃ b, bs[o.f2.toNat]? = some b := ⟨_, List.getElem?_eq_getElem (by omega)⟩
            have hat := toS_at bs o.f2.toNat _ hn
            rw [Int.toNat_of_nonneg (by omega)] at hat
            rw [hat]
            dsimp only
            cases l with
            | true =>
              have hf : Pl.giveF bs o.f2 = (bs.set o.f2.toNat (sz, false), o.f2, 0) := by unfold Pl.giveF; rw [if_neg c1, hn]
              rw [if_pos rfl]
              rw [hf] at hlv2 g1 ⊢
              simp only [Option.bind_some]
              rw [toS_set bs o.f2.toNat (sz, false), hlv2]
              simp only [Option.bind_some]
              rw [if_pos (by omega)]
              exact fin _ _ (by simp) g1
            | false =>
              rw [if_neg (by decide)]
              exact miss (by unfold Pl.giveF; rw [if_neg c1, hn])
      · rw [if_neg k2, if_neg k2, hlv]
        simp only [Option.bind_some]
        rw [if_pos (by omega)]
        exact fin bs _ (by omega) hg
theorem pool_alike (a0 : Int) (ops : List S67) (k K : Nat) (hk : 8000 < k) (hK : 8000 < K) : ∃ res, spec_PoolRun.f k a0 ops = some res ∧ impl_PoolRun.f K a0 ops = some res ∧ res.length ≤ 2000 := by
  unfold spec_PoolRun.f impl_PoolRun.f
  simp only [Option.bind_some]
  by_cases c : (ops.length : Int) > 2000
  · rw [if_pos c, if_pos c]
    exact ⟨[], rfl, rfl, by simp⟩
  · rw [if_neg c, if_neg c]
    obtain ⟨res, h1, h2, h3⟩ := run_alike a0 ops [] [] [] k K (by omega) hK (by simp; omega) (by simp) (fun b hb => by cases hb) rfl
    refine ⟨res, by simpa [toS] using h1, h2, ?_⟩
    rw [h3]; simp; omega
theorem law_words (a0 : Int) (xs : List S131) (h : xs.length ≤ 9223372036854775807) : ∃ k, laws_FnExactPoolRun.f k a0 xs = some true := by
  refine ⟨4000001, ?_⟩
  unfold laws_FnExactPoolRun.f laws_szPoolOpS.f
  have e : wrap64 (1048576 - (xs.length : Int)) = 1048576 - (xs.length : Int) := w_id (by omega) (by omega)
  rw [e]
  by_cases c : 1048576 - (xs.length : Int) < 0
  · rw [if_pos c]; rfl
  · rw [if_neg c]
    simp only [Option.bind_some]
    rw [if_neg c, toO xs _ (by omega) (by omega)]
    simp only [Option.bind_some]
    obtain ⟨res, h1, h2, h3⟩ := pool_alike a0 (xs.map ov) 4000001 4000001 (by omega) (by omega)
    obtain ⟨res', h1', h2', h3'⟩ := pool_alike a0 (xs.map ov) 4000001 4000000 (by omega) (by omega)
    obtain rfl : res = res' := Option.some.inj (h1.symm.trans h1')
    have EA : ∀ k, 3000 ≤ k → laws_eqPoolAnswerS.f k res res = some true := fun k hk => eqA k res (by omega) (by omega)
    rw [h1]; simp only [Option.bind_some]
    rw [h2]; simp only [Option.bind_some]
    rw [EA _ (by omega)]; simp only [Option.bind_some]
    rw [if_pos trivial, eqO _ (xs.map ov) (by simp; omega) (by simp; omega)]; simp only [Option.bind_some]
    have MO : laws_markPoolOpS.f 4000001 (xs.map ov) 1 = some (1 + 3 * ((xs.map ov).length : Int), omk (xs.map ov).length 1) := by
      have := omark_l0 (xs.map ov) [] 4000001 1 (by simp; omega) (by simp; omega) (by omega) (by simp; omega)
      simpa [laws_markPoolOpS.f] using this
    rw [if_pos trivial, MO]; simp only [Option.bind_some]
    rw [if_neg (by simp; omega), laws_FnExactPoolRun.j0, if_neg (by decide)]
    have MA : laws_markPoolAnswerS.f 4000000 res 1 = some (1 + 3 * (res.length : Int), amk res.length 1) := by
      have := amark_l0 res [] 4000000 1 (by omega) (by simp; omega) (by omega) (by omega)
      simpa [laws_markPoolAnswerS.f] using this
    have HA : laws_heldPoolAnswerS.f 4000000 (amk res.length 1) 1 = some (1 + 3 * (res.length : Int)) := by
      have := aheld_l0 res.length [] 4000000 1 (by omega) (by simp; omega) (by omega) (by omega)
      simpa [laws_heldPoolAnswerS.f] using this
    rw [MA]; simp only [Option.bind_some]
    rw [HA]; simp only [Option.bind_some]
    rw [if_neg (by omega), if_pos trivial, toO xs _ (by omega) (by omega)]; simp only [Option.bind_some]
    rw [h2']; simp only [Option.bind_some]
    rw [EA _ (by omega)]; simp only [Option.bind_some]
    rw [if_pos trivial, if_neg (by omega), if_pos trivial]
end Go.Proofs.Ytpmdgmnpkdoamaa.DFnExactPoolRun
