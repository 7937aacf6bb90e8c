/- Proved here: what the words printed for the law on the pool's draws come to: the law answers true (plain Lean). -/
import Derived.Test.YtpmdgmnpkdoamaaDFnPoolx4
namespace Go.Proofs.Ytpmdgmnpkdoamaa.DFnPool
open Go.RowKit Go.Proofs.YtpmdgmnpkdoamaaW.PrintWords Go.Proofs.YtpmdgmnpkdoamaaW.PrintLast Go.Proofs.YtpmdgmnpkdoamaaW.PrintMore
set_option linter.unusedVariables false
set_option linter.unusedSimpArgs false
theorem w_id {n : Int} (h : -9223372036854775808 ≤ n) (h2 : n < 9223372036854775808) : wrap64 n = n := by unfold wrap64; omega
theorem len_m {α : Type} (pre suf : List α) (x : α) : ((pre ++ x :: suf).length : Int) = pre.length + 1 + suf.length := by simp; omega
theorem nx_m {α : Type} (pre suf : List α) (x : α) : pre ++ x :: suf = (pre ++ [x]) ++ suf := by simp
theorem at_m {α : Type} (d : α) (pre suf : List α) (x : α) : (pre ++ x :: suf).getD (pre.length : Int).toNat d = x := by simp
theorem ix_m {α : Type} (pre : List α) (x : α) (h : pre.length < 1099511627776) : wrap64 ((pre.length : Int) + 1) = ((pre ++ [x]).length : Int) := by rw [w_id (by omega) (by omega)]; simp
theorem set_m {α : Type} (pre suf : List α) (x y : α) : (pre ++ x :: suf).set (pre.length : Int).toNat y = (pre ++ [y]) ++ suf := by simp
/-! ### the drawing's source -/
theorem up_of {α : Type} {F : Nat → Option α} (hm : ∀ k, LeO (F k) (F (k + 1))) {k : Nat} {r : α} (h : F k = some r) : ∀ d, F (k + d) = some r
  | 0 => h
  | d + 1 => hm (k + d) r (up_of hm h d)
theorem up_to {α : Type} {F : Nat → Option α} (hm : ∀ k, LeO (F k) (F (k + 1))) {k m : Nat} {r : α} (h : F k = some r) (hk : k ≤ m) : F m = some r := by
  have := up_of hm h (m - k)
  rwa [show k + (m - k) = m by omega] at this
theorem rd_mem (C : List Int) (i : Int) (h0 : 0 ≤ i) (h1 : i < (C.length : Int)) : rd C i ∈ C := by
  unfold rd
  rw [List.getD_eq_getElem?_getD, List.getElem?_eq_getElem (by omega)]
  exact List.getElem_mem _
/-- what a source may hold -/
def St (C : List Int) (a m z : Int) : Prop := C.length ≤ 4000 ∧ (∀ x ∈ C, 0 ≤ x ∧ x < 256) ∧ 0 ≤ a ∧ a ≤ 4000 ∧ 0 ≤ m ∧ m < 1000003 ∧ 1 ≤ z ∧ z ≤ 7
theorem tm_b (x n : Int) (hx : 0 ≤ x) (hn : 0 < n) : 0 ≤ Int.tmod x n ∧ Int.tmod x n < n := by
  rw [Int.tmod_eq_emod_of_nonneg hx]
  exact ⟨Int.emod_nonneg _ (by omega), Int.emod_lt_of_pos _ hn⟩
theorem next_ok {C : List Int} {a m z : Int} (h : St C a m z) (n : Int) : ∃ r a' m', spec_l1Next.f C a m z n = some (r, a', m', z) ∧ St C a' m' z ∧ 0 ≤ r ∧ (r < n ∨ r = 0) := by
  obtain ⟨h1, h2, h3, h4, h5, h6, h7, h8⟩ := h
  unfold spec_l1Next.f
  by_cases c1 : n ≤ 1
  · rw [if_pos c1]
    exact ⟨0, a, m, rfl, ⟨h1, h2, h3, h4, h5, h6, h7, h8⟩, by omega, .inr rfl⟩
  · rw [if_neg c1]
    have e1 : wrap64 (m * 1103) = m * 1103 := w_id (by omega) (by omega)
    have e2 : wrap64 (m * 1103 + 12347) = m * 1103 + 12347 := w_id (by omega) (by omega)
    obtain ⟨m0, m1⟩ := tm_b (m * 1103 + 12347) 1000003 (by omega) (by omega)
    have mix : ∃ r a' m', (some (Int.tmod (wrap64 (Int.tdiv (Int.tmod (wrap64 ((wrap64 (m * 1103)) + 12347)) 1000003) 3)) n, a, Int.tmod (wrap64 ((wrap64 (m * 1103)) + 12347)) 1000003, z) : Option (Int × Int × Int × Int)) = some (r, a', m', z) ∧ St C a' m' z ∧ 0 ≤ r ∧ (r < n ∨ r = 0) := by
      rw [e1, e2]
      generalize Int.tmod (m * 1103 + 12347) 1000003 = M at m0 m1 ⊢
      have d0 : 0 ≤ Int.tdiv M 3 ∧ Int.tdiv M 3 ≤ M := by rw [Int.tdiv_eq_ediv_of_nonneg m0]; omega
      rw [w_id (by omega) (by omega)]
      obtain ⟨q0, q1⟩ := tm_b (Int.tdiv M 3) n d0.1 (by omega)
      exact ⟨_, _, _, rfl, ⟨h1, h2, h3, h4, m0, m1, h7, h8⟩, q0, .inl q1⟩
    by_cases c2 : a < (C.length : Int)
    · rw [if_pos c2]
      by_cases c3 : n ≤ 256
      · rw [if_pos c3, if_pos h3, if_neg (by omega)]
        obtain ⟨b0, b1⟩ := h2 _ (rd_mem C a h3 c2)
        rw [w_id (by omega) (by omega), w_id (n := a + 1) (by omega) (by omega)]
        obtain ⟨q0, q1⟩ := tm_b (rd C a) n b0 (by omega)
        exact ⟨_, _, _, rfl, ⟨h1, h2, by omega, by omega, h5, h6, h7, h8⟩, q0, .inl q1⟩
      · rw [if_neg c3, if_neg (by omega)]
        exact mix
    · rw [if_neg c2, if_neg (by omega)]
      exact mix
theorem src_l1 (C : List Int) (h1 : C.length ≤ 4000) (h2 : ∀ x ∈ C, 0 ≤ x ∧ x < 256) (z0 : Int) : ∀ (d : Nat) (i m : Int), (C.length : Int) - i = d → 0 ≤ i → 0 ≤ m → m < 1000003 → ∃ k m' z, spec_l1Source.l1 k i C 0 m z0 = some (C, 0, m', z) ∧ St C 0 m' z
  | 0, i, m, hd, hi, m0, m1 => by
    refine ⟨1, ?_⟩
    rw [spec_l1Source.l1, if_neg (by omega)]
    have d0 : 0 ≤ (C.length : Int) / 50 ∧ (C.length : Int) / 50 ≤ 4000 := by omega
    rw [w_id (n := (C.length : Int) / 50) (by omega) (by omega), w_id (by omega) (by omega)]
    by_cases c : 1 + (C.length : Int) / 50 > 7
    · rw [if_pos c]
      exact ⟨m, 7, rfl, h1, h2, by omega, by omega, m0, m1, by omega, by omega⟩
    · rw [if_neg c]
      exact ⟨m, _, rfl, h1, h2, by omega, by omega, m0, m1, by omega, by omega⟩
  | d + 1, i, m, hd, hi, m0, m1 => by
    obtain ⟨b0, b1⟩ := h2 _ (rd_mem C i hi (by omega))
    obtain ⟨q0, q1⟩ := tm_b (m * 257 + rd C i + 1) 1000003 (by omega) (by omega)
    obtain ⟨k, m', z, h3, h4⟩ := src_l1 C h1 h2 z0 d (i + 1) (Int.tmod (m * 257 + rd C i + 1) 1000003) (by omega) (by omega) q0 q1
    refine ⟨k + 1, m', z, ?_, h4⟩
    rw [spec_l1Source.l1, if_pos (by omega), if_pos hi, w_id (n := m * 257) (by omega) (by omega), w_id (n := rd C i) (by omega) (by omega), w_id (n := m * 257 + rd C i) (by omega) (by omega), w_id (n := m * 257 + rd C i + 1) (by omega) (by omega), w_id (n := i + 1) (by omega) (by omega), h3]
theorem src_j1 (l C : List Int) (h1 : C.length ≤ 4000) (h2 : ∀ x ∈ C, 0 ≤ x ∧ x < 256) : ∃ k m z, spec_l1Source.j1 k l C 0 0 0 = some (C, 0, m, z) ∧ St C 0 m z := by
  obtain ⟨k, m, z, h3, h4⟩ := src_l1 C h1 h2 0 C.length 0 (((l.length : Int) % 1000) + 41) (by omega) (by omega) (by omega) (by omega)
  exact ⟨k + 1, m, z, by rw [spec_l1Source.j1, h3], h4⟩
theorem src_l0 (l : List Int) (hl : ∀ x ∈ l, 0 ≤ x ∧ x < 256) : ∀ (d : Nat) (C : List Int), (l.length : Int) - C.length = d → C.length ≤ 4000 → (∀ x ∈ C, 0 ≤ x ∧ x < 256) → ∃ k C' m z, spec_l1Source.l0 k l (C.length : Int) C 0 0 0 = some (C', 0, m, z) ∧ St C' 0 m z
  | 0, C, hd, h1, h2 => by
    obtain ⟨k, m, z, h3, h4⟩ := src_j1 l C h1 h2
    refine ⟨k + 1, C, m, z, ?_, h4⟩
    rw [spec_l1Source.l0, if_neg (by omega), h3]
  | d + 1, C, hd, h1, h2 => by
    by_cases c : (C.length : Int) < 4000
    · have hb := hl _ (rd_mem l C.length (by omega) (by omega))
      obtain ⟨k, C', m, z, h3, h4⟩ := src_l0 l hl d (C ++ [rd l C.length]) (by simp; omega) (by simp; omega) (fun x hx => by
        rcases List.mem_append.1 hx with hx | hx
        · exact h2 x hx
        · obtain rfl := List.mem_singleton.1 hx; exact hb)
      refine ⟨k + 1, C', m, z, ?_, h4⟩
      rw [spec_l1Source.l0, if_pos (by omega), if_pos c, if_pos (by omega), if_pos (by omega), w_id (n := (C.length : Int) + 1) (by omega) (by omega)]
      simpa using h3
    · obtain ⟨k, m, z, h3, h4⟩ := src_j1 l C h1 h2
      refine ⟨k + 1, C, m, z, ?_, h4⟩
      rw [spec_l1Source.l0, if_pos (by omega), if_neg c, h3]
theorem src_ok (l : List Int) (hl : ∀ x ∈ l, (Lit.int .u8 x).wf = true) : ∃ k C m z, spec_l1Source.f k l = some (C, 0, m, z) ∧ St C 0 m z := by
  have hl' : ∀ x ∈ l, 0 ≤ x ∧ x < 256 := fun x hx => by
    have := hl x hx
    simp [Lit.wf] at this
    have e1 : IntKind.u8.min = 0 := rfl
    have e2 : IntKind.u8.max = 255 := rfl
    omega
  obtain ⟨k, C', m, z, h3, h4⟩ := src_l0 l hl' l.length [] (by simp) (by simp) (fun x hx => by cases hx)
  exact ⟨k, C', m, z, by simpa [spec_l1Source.f] using h3, h4⟩
/-! ### the pool -/
def toS (bs : List (Nat × Bool)) : List S118 := bs.map fun b => ⟨(b.1 : Int), b.2⟩
def Good (bs : List (Nat × Bool)) : Prop := ∀ b ∈ bs, b.1 ≤ 65536
theorem toS_len (bs : List (Nat × Bool)) : (toS bs).length = bs.length := by simp [toS]
theorem toS_at (bs : List (Nat × Bool)) (j : Nat) (b : Nat × Bool) (h : bs[j]? = some b) : rd_T118 (toS bs) (j : Int) = ⟨(b.1 : Int), b.2⟩ := by
  unfold rd_T118
  rw [Int.toNat_natCast, List.getD_eq_getElem?_getD, toS, List.getElem?_map, h]; rfl
theorem toS_set (bs : List (Nat × Bool)) (j : Nat) (b : Nat × Bool) : (toS bs).set j ⟨(b.1 : Int), b.2⟩ = toS (bs.set j b) := by simp [toS, List.map_set]
theorem live_cons (b : Nat × Bool) (bs : List (Nat × Bool)) : Pl.liveOf (b :: bs) = (if b.2 = true then (b.1 : Int) else 0) + Pl.liveOf bs := by simp [Pl.liveOf]
theorem live_l0 : ∀ (suf pre : List (Nat × Bool)) (acc : Int) (k : Nat), suf.length < k → pre.length + suf.length ≤ 2000 → Good suf → 0 ≤ acc → acc ≤ 65536 * (pre.length : Int) → spec_l3Live.l0 k (toS (pre ++ suf)) acc pre.length = some (acc + Pl.liveOf suf)
  | [], pre, acc, k, hk, _, _, _, _ => by
    obtain ⟨k, rfl⟩ : ∃ m, k = m + 1 := ⟨k - 1, by omega⟩
    rw [spec_l3Live.l0, if_neg (by rw [toS_len]; simp)]
    simp [Pl.liveOf]
  | b :: suf, pre, acc, k, hk, hl, hg, h0, h1 => by
    simp only [List.length_cons] at hk hl
    obtain ⟨k, rfl⟩ : ∃ m, k = m + 1 := ⟨k - 1, by omega⟩
    have hb := hg b (by simp)
    have hat := toS_at (pre ++ b :: suf) pre.length b (by simp)
    have ih := fun acc' h0' h1' => live_l0 suf (pre ++ [b]) acc' k (by omega) (by simp; omega) (fun x hx => hg x (by simp [hx])) h0' h1'
    rw [live_cons, spec_l3Live.l0, if_pos (by rw [toS_len]; simp; omega), if_pos (by omega), hat]
    dsimp only
    rw [ix_m pre b (by omega), nx_m]
    cases hl2 : b.2 with
    | true =>
      rw [if_pos rfl, if_pos rfl, w_id (by omega) (by omega), ih _ (by omega) (by simp; omega)]
      congr 1
      omega
    | false =>
      rw [if_neg (by decide), if_neg (by decide), ih _ h0 (by simp; omega)]
      congr 1
      omega
theorem live_f (k : Nat) (bs : List (Nat × Bool)) (hk : 2000 < k) (hl : bs.length ≤ 2000) (hg : Good bs) : spec_l3Live.f k (toS bs) = some (Pl.liveOf bs) := by
  have := live_l0 bs [] 0 k (by omega) (by simpa using hl) hg (by omega) (by simp)
  unfold spec_l3Live.f
  simpa using this
theorem live_b (bs : List (Nat × Bool)) (hl : bs.length ≤ 2000) (hg : Good bs) : 0 ≤ Pl.liveOf bs ∧ Pl.liveOf bs ≤ 131072000 := by
  have h1 := Pl.live_nonneg bs
  have h2 := Pl.live_le bs hg
  omega
theorem take_walk (bs : List (Nat × Bool)) (R : Nat) (hl : bs.length ≤ 2000) : ∀ (d m k : Nat), m + d ≤ bs.length → (∀ j, m ≤ j → j < m + d → bs[j]? ≠ some (R, false)) → spec_l3Take.l0 (k + d) (toS bs) R m = spec_l3Take.l0 k (toS bs) R ((m + d : Nat) : Int)
  | 0, m, k, _, _ => rfl
  | d + 1, m, k, h, hn => by
    obtain ⟨b, hb⟩ : ∃ b, bs[m]? = some b := ⟨_, List.getElem?_eq_getElem (by omega)⟩
    have hat := toS_at bs m b hb
    have ih := take_walk bs R hl d (m + 1) k (by omega) (fun j h1 h2 => hn j (by omega) (by omega))
    have hne : b ≠ (R, false) := fun e => hn m (Nat.le_refl _) (by omega) (by rw [hb, e])
    have hi : wrap64 ((m : Int) + 1) = ((m + 1 : Nat) : Int) := by rw [w_id (by omega) (by omega)]; rfl
    rw [show k + (d + 1) = (k + d) + 1 by omega, spec_l3Take.l0, if_pos (by rw [toS_len]; omega), if_pos (by omega), hat]
    dsimp only
    rw [hi, ih, show m + 1 + d = m + (d + 1) by omega]
    cases hb2 : b.2 with
    | true => rw [if_pos rfl]
    | false =>
      rw [if_neg (by decide), if_neg]
      intro e
      exact hne (by rw [← hb2]; ext <;> simp; omega)
theorem take_f (k : Nat) (bs : List (Nat × Bool)) (bud : Int) (R : Nat) (hk : 5000 < k) (hl : bs.length ≤ 2000) (hg : Good bs) (h1 : R ≤ 65536) :
    spec_l3Take.f k (toS bs) bud R = some (toS (Pl.takeF bs bud R).1, (Pl.takeF bs bud R).2.1) ∧ (Pl.takeF bs bud R).2.2 = (if (Pl.takeF bs bud R).2.1 < 0 then 17 else 0) := by
  have hb := live_b bs hl hg
  unfold spec_l3Take.f Pl.takeF
  rw [live_f k bs (by omega) hl hg]
  simp only [Option.bind_some]
  rw [w_id (by omega) (by omega), if_neg (show ¬ (R : Int) < 0 by omega)]
  by_cases c : bud < Pl.liveOf bs + R
  · rw [if_pos c, if_pos c]
    exact ⟨rfl, rfl⟩
  · rw [if_neg c, if_neg c, Int.toNat_natCast]
    cases hfi : bs.findIdx? (fun b => b == (R, false)) with
    | none =>
      have hno : ∀ i : Nat, bs[i]? ≠ some (R, false) := by
        intro i hi
        have := List.findIdx?_eq_none_iff.1 hfi (R, false) (List.mem_of_getElem? hi)
        simp at this
      have := take_walk bs R hl bs.length 0 (k - bs.length) (by omega) (fun j _ _ => hno j)
      rw [show k - bs.length + bs.length = k by omega] at this
      obtain ⟨q, hq⟩ : ∃ q, k - bs.length = q + 1 := ⟨k - bs.length - 1, by omega⟩
      rw [hq, spec_l3Take.l0, if_neg (by rw [toS_len]; omega), toS_len, if_pos (by omega)] at this
      dsimp only
      refine ⟨?_, by rw [if_neg (by omega)]⟩
      rw [show ((0 : Nat) : Int) = 0 from rfl] at this
      rw [this]
      simp [toS]
    | some n =>
      obtain ⟨hnl, hnp, hnf⟩ := List.findIdx?_eq_some_iff_getElem.1 hfi
      have hn : bs[n]? = some (R, false) := by
        rw [List.getElem?_eq_getElem hnl]
        exact congrArg some (by simpa using hnp)
      have := take_walk bs R hl n 0 (k - n) (by omega) (fun j _ hj e => by
        have hj' : j < n := by omega
        have := hnf j hj'
        rw [List.getElem?_eq_getElem (by omega)] at e
        rw [Option.some.inj e] at this
        simp at this)
      rw [show k - n + n = k by omega] at this
      obtain ⟨q, hq⟩ : ∃ q, k - n = q + 1 := ⟨k - n - 1, by omega⟩
      rw [Nat.zero_add, hq, spec_l3Take.l0, if_pos (by rw [toS_len]; omega), if_pos (by omega), toS_at bs n _ hn] at this
      dsimp only at this
      rw [if_neg (by decide), if_pos rfl, Int.toNat_natCast] at this
      dsimp only
      refine ⟨?_, by rw [if_neg (by omega)]⟩
      rw [show ((0 : Nat) : Int) = 0 from rfl] at this
      rw [this, toS_set bs n (R, true)]
theorem rb_l0 : ∀ (d k : Nat) (n x : Int), 0 < x → x ≤ 65536 → x * ((2 ^ d : Nat) : Int) = 65536 → d < k → n ≤ 65536 → ∃ v, spec_RoundBytes.l0 k n x = some v ∧ x ≤ v ∧ v ≤ 65536
  | 0, k, n, x, h0, h1, h2, hk, hn => by
    obtain ⟨k, rfl⟩ : ∃ m, k = m + 1 := ⟨k - 1, by omega⟩
    have : x = 65536 := by simpa using h2
    rw [spec_RoundBytes.l0, if_neg (by omega)]
    exact ⟨x, rfl, Int.le_refl _, h1⟩
  | d + 1, k, n, x, h0, h1, h2, hk, hn => by
    obtain ⟨k, rfl⟩ : ∃ m, k = m + 1 := ⟨k - 1, by omega⟩
    rw [spec_RoundBytes.l0]
    by_cases c : x < n
    · rw [if_pos c, w_id (by omega) (by omega)]
      have e : x * 2 * ((2 ^ d : Nat) : Int) = 65536 := by
        rw [← h2, Nat.pow_succ, Nat.mul_comm, Int.natCast_mul, Int.mul_assoc]; rfl
      have hp : (1 : Int) ≤ ((2 ^ d : Nat) : Int) := by have := Nat.two_pow_pos d; omega
      have hx : x * 2 ≤ 65536 := by
        have := Int.mul_le_mul_of_nonneg_left hp (show 0 ≤ x * 2 by omega)
        omega
      obtain ⟨v, h3, h4, h5⟩ := rb_l0 d k n (x * 2) (by omega) hx e (by omega) hn
      exact ⟨v, h3, by omega, h5⟩
    · rw [if_neg c]
      exact ⟨x, rfl, Int.le_refl _, h1⟩
theorem rb_f (k : Nat) (n : Int) (hk : 20 < k) : ∃ v, spec_RoundBytes.f k n = some v ∧ (v < 0 ∨ (16 ≤ v ∧ v ≤ 65536)) := by
  obtain ⟨k, rfl⟩ : ∃ m, k = m + 1 := ⟨k - 1, by omega⟩
  unfold spec_RoundBytes.f
  by_cases c : n < 0
  · rw [if_pos c, spec_RoundBytes.j0, if_pos rfl]
    exact ⟨-1, rfl, .inl (by omega)⟩
  · rw [if_neg c, spec_RoundBytes.j0]
    by_cases c2 : n > 65536
    · rw [decide_eq_true c2, if_pos rfl]
      exact ⟨-1, rfl, .inl (by omega)⟩
    · rw [decide_eq_false c2, if_neg (by decide)]
      obtain ⟨v, h1, h2, h3⟩ := rb_l0 12 k n 16 (by omega) (by omega) (by decide) (by omega) (by omega)
      exact ⟨v, h1, .inr ⟨h2, h3⟩⟩
theorem rb_up (n : Int) (v : Int) (k : Nat) (h : spec_RoundBytes.f k n = some v) : ∀ d, spec_RoundBytes.f (k + d) n = some v
  | 0 => h
  | d + 1 => spec_RoundBytes.mono n (k + d) _ (rb_up n v k h d)
theorem takeF_good (bs : List (Nat × Bool)) (bud r : Int) (hg : Good bs) (h : r < 0 ∨ (16 ≤ r ∧ r ≤ 65536)) : Good (Pl.takeF bs bud r).1 ∧ (Pl.takeF bs bud r).1.length ≤ bs.length + 1 := by
  unfold Pl.takeF
  split
  · exact ⟨hg, by simp⟩
  · split
    · exact ⟨hg, by simp⟩
    · split
      · refine ⟨fun b hb => ?_, by simp⟩
        rcases List.mem_or_eq_of_mem_set hb with hb | rfl
        · exact hg b hb
        · dsimp only; omega
      · refine ⟨fun b hb => ?_, by simp⟩
        rcases List.mem_append.1 hb with hb | hb
        · exact hg b hb
        · obtain rfl := List.mem_singleton.1 hb
          dsimp only; omega
theorem giveF_good (bs : List (Nat × Bool)) (n : Int) (hg : Good bs) : Good (Pl.giveF bs n).1 ∧ (Pl.giveF bs n).1.length = bs.length := by
  unfold Pl.giveF
  split
  · exact ⟨hg, rfl⟩
  · split
    · rename_i r hr
      refine ⟨fun b hb => ?_, by simp⟩
      rcases List.mem_or_eq_of_mem_set hb with hb | rfl
      · exact hg b hb
      · exact hg (r, true) (List.mem_of_getElem? hr)
    · exact ⟨hg, rfl⟩
theorem run_alike (a0 : Int) : ∀ (ops pre : List S67) (bs : List (Nat × Bool)) (out : List S65) (k K : Nat), ops.length + 6000 < k → 8000 < K → pre.length + ops.length ≤ 2000 → bs.length ≤ pre.length → Good bs → out.length = pre.length →
    ∃ res, spec_PoolRun.l0 k a0 (pre ++ ops) out (toS bs) pre.length = some res ∧ impl_PoolRun.run K a0 ops bs out = some res ∧ res.length = pre.length + ops.length
  | [], pre, bs, out, k, K, hk, hK, hl, hb, hg, ho => by
    obtain ⟨k, rfl⟩ : ∃ m, k = m + 1 := ⟨k - 1, by omega⟩
    rw [spec_PoolRun.l0, if_neg (by simp), impl_PoolRun.run]
    exact ⟨out, rfl, rfl, by simpa using ho⟩
  | o :: ops, pre, bs, out, k, K, hk, hK, hl, hb, hg, ho => by
    simp only [List.length_cons] at hk hl
    obtain ⟨k, rfl⟩ : ∃ m, k = m + 1 := ⟨k - 1, by omega⟩
    have ih : ∀ (bs' : List (Nat × Bool)) (out' : List S65), bs'.length ≤ pre.length + 1 → Good bs' → out'.length = pre.length + 1 → ∃ res, spec_PoolRun.l0 k a0 ((pre ++ [o]) ++ ops) out' (toS bs') ((pre ++ [o]).length : Int) = some res ∧ impl_PoolRun.run K a0 ops bs' out' = some res ∧ res.length = (pre ++ [o]).length + ops.length :=
      fun bs' out' hb' hg' ho' => run_alike a0 ops (pre ++ [o]) bs' out' k K (by omega) hK (by simp; omega) (by simp; omega) hg' (by simp; omega)
    have hrd : rd_T67 (pre ++ o :: ops) (pre.length : Int) = o := at_m _ _ _ _
    have hlv := live_f k bs (by omega) (by omega) hg
    rw [spec_PoolRun.l0, if_pos (by rw [len_m]; omega), if_pos (by omega), hrd, ix_m pre o (by omega), nx_m, impl_PoolRun.run]
    unfold impl_PoolRun.step
    have fin : ∀ (bs' : List (Nat × Bool)) (x : S65), bs'.length ≤ bs.length + 1 → Good bs' → ∃ res, spec_PoolRun.l0 k a0 ((pre ++ [o]) ++ ops) (out ++ [x]) (toS bs') ((pre ++ [o]).length : Int) = some res ∧ impl_PoolRun.run K a0 ops bs' (out ++ [x]) = some res ∧ res.length = pre.length + (ops.length + 1) := by
      intro bs' x h1 h2
      obtain ⟨res, r1, r2, r3⟩ := ih bs' (out ++ [x]) (by omega) h2 (by simp; omega)
      exact ⟨res, r1, r2, by rw [r3]; simp; omega⟩
    simp only [List.length_cons]
    by_cases k1 : o.f0 = 1
    · rw [if_pos k1, if_pos k1]
      obtain ⟨v, hv, hv2⟩ := rb_f 30 o.f1 (by omega)
      have e1 := rb_up o.f1 v 30 hv (k - 30)
      have e2 := rb_up o.f1 v 30 hv (K - 30)
      rw [show 30 + (k - 30) = k by omega] at e1
      rw [show 30 + (K - 30) = K by omega] at e2
      rw [e1, e2]
      simp only [Option.bind_some]
      rw [if_pos hv2]
      simp only [Option.bind_some]
      obtain ⟨g1, g2⟩ := takeF_good bs a0 v hg hv2
      by_cases c : v < 0
      · have ht : Pl.takeF bs a0 v = (bs, -1, 16) := by unfold Pl.takeF; rw [if_pos c]
        rw [if_pos c, hlv, ht]
        simp only [Option.bind_some]
        rw [if_pos (by omega)]
        exact fin bs _ (by omega) hg
      · rw [if_neg c]
        obtain ⟨R, rfl⟩ : ∃ R : Nat, v = R := ⟨v.toNat, by omega⟩
        obtain ⟨t1, t2⟩ := take_f k bs a0 R (by omega) (by omega) hg (by omega)
        have hlv2 := live_f k (Pl.takeF bs a0 R).1 (by omega) (by omega) g1
        rw [t1]
        simp only [Option.bind_some]
        by_cases c2 : (Pl.takeF bs a0 R).2.1 < 0
        · rw [if_pos c2] at t2 ⊢
          rw [hlv2, t2]
          simp only [Option.bind_some]
          rw [if_pos (by omega)]
          exact fin _ _ g2 g1
        · rw [if_neg c2] at t2 ⊢
          rw [hlv2, t2]
          simp only [Option.bind_some]
          rw [if_pos (by omega)]
          exact fin _ _ g2 g1
    · rw [if_neg k1, if_neg k1]
      by_cases k2 : o.f0 = 2
      · rw [if_pos k2, if_pos k2]
        simp only [Option.bind_some]
        obtain ⟨g1, g2⟩ := giveF_good bs o.f2 hg
        have hlv2 := live_f k (Pl.giveF bs o.f2).1 (by omega) (by omega) g1
        have miss : Pl.giveF bs o.f2 = (bs, -1, 15) → ∃ res, ((spec_l3Live.f k (toS bs)).bind fun t => if out.length < 5864062014805 then spec_PoolRun.l0 k a0 (pre ++ [o] ++ ops) (out ++ [(⟨15, -1, t⟩ : S65)]) (toS bs) ((pre ++ [o]).length : Int) else none) = some res ∧
            impl_PoolRun.run K a0 ops (Pl.giveF bs o.f2).1 (out ++ [(⟨(Pl.giveF bs o.f2).2.2, (Pl.giveF bs o.f2).2.1, Pl.liveOf (Pl.giveF bs o.f2).1⟩ : S65)]) = some res ∧ res.length = pre.length + (ops.length + 1) := by
          intro hf
          rw [hf, hlv]
          simp only [Option.bind_some]
          rw [if_pos (by omega)]
          exact fin bs _ (by omega) hg
        by_cases c1 : o.f2 < 0
        · rw [if_pos c1]
          exact miss (by unfold Pl.giveF; rw [if_pos c1])
        · rw [if_neg c1, toS_len]
          by_cases c2 : o.f2 ≥ (bs.length : Int)
          · rw [if_pos c2]
            exact miss (by unfold Pl.giveF; rw [if_neg c1, List.getElem?_eq_none (by omega)])
          · rw [if_neg c2, if_pos (by omega), if_pos (by omega)]
            obtain ⟨⟨sz, l⟩, hn⟩ : ∃ b, bs[o.f2.toNat]? = some b := ⟨_, List.getElem?_eq_getElem (by omega)⟩
            have hat := toS_at bs o.f2.toNat _ hn
            rw [Int.toNat_of_nonneg (by omega)] at hat
            rw [hat]
            dsimp only
            cases l with
            | true =>
              have hf : Pl.giveF bs o.f2 = (bs.set o.f2.toNat (sz, false), o.f2, 0) := by unfold Pl.giveF; rw [if_neg c1, hn]
              rw [if_pos rfl]
              rw [hf] at hlv2 g1 ⊢
              simp only [Option.bind_some]
              rw [toS_set bs o.f2.toNat (sz, false), hlv2]
              simp only [Option.bind_some]
              rw [if_pos (by omega)]
              exact fin _ _ (by simp) g1
            | false =>
              rw [if_neg (by decide)]
              exact miss (by unfold Pl.giveF; rw [if_neg c1, hn])
      · rw [if_neg k2, if_neg k2, hlv]
        simp only [Option.bind_some]
        rw [if_pos (by omega)]
        exact fin bs _ (by omega) hg
theorem pool_alike (a0 : Int) (ops : List S67) (k K : Nat) (hk : 8000 < k) (hK : 8000 < K) : ∃ res, spec_PoolRun.f k a0 ops = some res ∧ impl_PoolRun.f K a0 ops = some res ∧ res.length ≤ 2000 := by
  unfold spec_PoolRun.f impl_PoolRun.f
  simp only [Option.bind_some]
  by_cases c : (ops.length : Int) > 2000
  · rw [if_pos c, if_pos c]
    exact ⟨[], rfl, rfl, by simp⟩
  · rw [if_neg c, if_neg c]
    obtain ⟨res, h1, h2, h3⟩ := run_alike a0 ops [] [] [] k K (by omega) hK (by simp; omega) (by simp) (fun b hb => by cases hb) rfl
    refine ⟨res, by simpa [toS] using h1, h2, ?_⟩
    rw [h3]; simp; omega
/-! ### the drawing -/
theorem draw_l1 (b : Int) : ∀ (d : Nat) (ops : List S67) (n : Int), n - (ops.length : Int) ≤ d → n ≤ 2001 → ops.length ≤ 3000 → ∃ k o, spec_DrawPoolRun.l1 k b ops n = some (b, o)
  | 0, ops, n, h, _, _ => ⟨1, ops, by rw [spec_DrawPoolRun.l1, if_neg (by omega)]⟩
  | d + 1, ops, n, h, hn, hl => by
    by_cases c : (ops.length : Int) < n
    · obtain ⟨k, o, h1⟩ := draw_l1 b d (ops ++ [⟨2, 0, (ops.length : Int) % 5⟩]) n (by simp; omega) hn (by simp; omega)
      exact ⟨k + 1, o, by rw [spec_DrawPoolRun.l1, if_pos c, if_pos (by omega), h1]⟩
    · exact ⟨1, ops, by rw [spec_DrawPoolRun.l1, if_neg c]⟩
theorem draw_l0 (b : Int) {C : List Int} {z : Int} : ∀ (d : Nat) (ops : List S67) (i a m : Int), i ≤ d → i + (ops.length : Int) ≤ 100 → St C a m z → -5 ≤ i → ops.length ≤ 200 → ∃ k o, spec_DrawPoolRun.l0 k b ops i C a m z = some (b, o)
  | 0, ops, i, a, m, h, hl, hS, hi, hl2 => by
    obtain ⟨r, a1, m1, e1, S1, b1, _⟩ := next_ok hS 60
    by_cases c : r = 0
    · obtain ⟨r2, a2, m2, e2, S2, b2, b2'⟩ := next_ok S1 2
      obtain ⟨k, o, hk⟩ := draw_l1 b 3000 ops (2000 + r2) (by omega) (by omega) (by omega)
      refine ⟨k + 1, o, ?_⟩
      rw [spec_DrawPoolRun.l0, if_neg (by omega), e1]
      simp only [Option.bind_some]
      rw [if_pos c, e2]
      simp only [Option.bind_some]
      rw [w_id (by omega) (by omega), hk]
    · refine ⟨1, ops, ?_⟩
      rw [spec_DrawPoolRun.l0, if_neg (by omega), e1]
      simp only [Option.bind_some]
      rw [if_neg c]
  | d + 1, ops, i, a, m, h, hl, hS, hi, hl2 => by
    by_cases c : i > 0
    · have ih : ∀ (x : S67) (a' m' : Int), St C a' m' z → ∃ k o, spec_DrawPoolRun.l0 k b (ops ++ [x]) (wrap64 (i - 1)) C a' m' z = some (b, o) := fun x a' m' S' => by
        rw [w_id (by omega) (by omega)]
        exact draw_l0 b d (ops ++ [x]) (i - 1) a' m' (by omega) (by simp; omega) S' (by omega) (by simp; omega)
      have j3 : ∀ (k8 a' m' x0 x1 x2 : Int), St C a' m' z → ∃ k o, spec_DrawPoolRun.j3 k b ops i k8 C a' m' z x0 x1 x2 = some (b, o) := fun k8 a' m' x0 x1 x2 S' => by
        by_cases c9 : k8 = 9
        · obtain ⟨r, a1, m1, e1, S1, _⟩ := next_ok S' 2
          by_cases c10 : k8 = 10
          · omega
          · obtain ⟨k, o, hk⟩ := ih ⟨wrap64 (r * 3), x1, x2⟩ a1 m1 S1
            refine ⟨k + 1, o, ?_⟩
            rw [spec_DrawPoolRun.j3, if_pos c9, e1]
            simp only [Option.bind_some]
            rw [if_neg c10, if_pos (by omega), hk]
        · by_cases c10 : k8 = 10
          · obtain ⟨k, o, hk⟩ := ih ⟨x0, -1, x2⟩ a' m' S'
            refine ⟨k + 1, o, ?_⟩
            rw [spec_DrawPoolRun.j3, if_neg c9, if_pos c10, if_pos (by omega), hk]
          · obtain ⟨k, o, hk⟩ := ih ⟨x0, x1, x2⟩ a' m' S'
            refine ⟨k + 1, o, ?_⟩
            rw [spec_DrawPoolRun.j3, if_neg c9, if_neg c10, if_pos (by omega), hk]
      have j2 : ∀ (k8 a' m' x0 x1 x2 : Int), St C a' m' z → ∃ k o, spec_DrawPoolRun.j2 k b ops i k8 C a' m' z x0 x1 x2 = some (b, o) := fun k8 a' m' x0 x1 x2 S' => by
        by_cases c8 : k8 = 8
        · obtain ⟨r, a1, m1, e1, S1, _⟩ := next_ok S' 2
          obtain ⟨k, o, hk⟩ := j3 k8 a1 m1 x0 (wrap64 (65536 + r)) x2 S1
          refine ⟨k + 1, o, ?_⟩
          rw [spec_DrawPoolRun.j2, if_pos c8, e1]
          simp only [Option.bind_some]
          rw [hk]
        · obtain ⟨k, o, hk⟩ := j3 k8 a' m' x0 x1 x2 S'
          refine ⟨k + 1, o, ?_⟩
          rw [spec_DrawPoolRun.j2, if_neg c8, hk]
      obtain ⟨r, a1, m1, e1, S1, _⟩ := next_ok hS 20
      obtain ⟨r2, a2, m2, e2, S2, _⟩ := next_ok S1 130
      by_cases c8 : r < 8
      · obtain ⟨r3, a3, m3, e3, S3, _⟩ := next_ok S2 7
        obtain ⟨k, o, hk⟩ := j2 r a3 m3 2 0 r3 S3
        refine ⟨k + 1, o, ?_⟩
        rw [spec_DrawPoolRun.l0, if_pos c, e1]
        simp only [Option.bind_some]
        rw [e2]
        simp only [Option.bind_some]
        rw [if_pos c8, e3]
        simp only [Option.bind_some]
        rw [hk]
      · obtain ⟨k, o, hk⟩ := j2 r a2 m2 1 r2 0 S2
        refine ⟨k + 1, o, ?_⟩
        rw [spec_DrawPoolRun.l0, if_pos c, e1]
        simp only [Option.bind_some]
        rw [e2]
        simp only [Option.bind_some]
        rw [if_neg c8, hk]
    · exact draw_l0 b 0 ops i a m (by omega) hl hS hi hl2
theorem draw_j0 (b : Int) {C : List Int} {a m z : Int} (hS : St C a m z) : ∃ k o, spec_DrawPoolRun.j0 k b C a m z = some (b, o) := by
  obtain ⟨r, a1, m1, e1, S1, b1, b1'⟩ := next_ok hS (8 + 6 * z)
  obtain ⟨_, _, _, _, _, _, z1, z7⟩ := id hS
  obtain ⟨k, o, hk⟩ := draw_l0 b 100 [] (2 + r) a1 m1 (by omega) (by simp; omega) S1 (by omega) (by simp)
  refine ⟨k + 1, o, ?_⟩
  rw [spec_DrawPoolRun.j0, w_id (n := 6 * z) (by omega) (by omega), w_id (by omega) (by omega), e1]
  simp only [Option.bind_some]
  rw [w_id (by omega) (by omega), hk]
theorem draw_ok (l : List Int) (hl : ∀ x ∈ l, (Lit.int .u8 x).wf = true) : ∃ k b o, spec_DrawPoolRun.f k l = some (b, o) := by
  obtain ⟨k1, C, m, z, e, S⟩ := src_ok l hl
  obtain ⟨r1, a1, m1, e1, S1, _⟩ := next_ok S 60
  obtain ⟨r2, a2, m2, e2, S2, _⟩ := next_ok S1 16
  have M : ∀ (b a m : Int) k, LeO (spec_DrawPoolRun.j0 k b C a m z) (spec_DrawPoolRun.j0 (k + 1) b C a m z) := fun b a m k => (spec_DrawPoolRun.mono_l k).1 _ _ _ _ _
  by_cases c : r2 = 0
  · obtain ⟨r3, a3, m3, e3, S3, _⟩ := next_ok S2 2
    obtain ⟨k2, o, hk⟩ := draw_j0 (wrap64 ((wrap64 (r3 * 9223372036854775807)) - 1)) S3
    refine ⟨k1 + k2, wrap64 ((wrap64 (r3 * 9223372036854775807)) - 1), o, ?_⟩
    unfold spec_DrawPoolRun.f
    rw [up_to (fun k => spec_l1Source.mono l k) e (show k1 ≤ k1 + k2 by omega)]
    simp only [Option.bind_some]
    rw [e1]
    simp only [Option.bind_some]
    rw [e2]
    simp only [Option.bind_some]
    rw [if_pos c, e3]
    simp only [Option.bind_some]
    exact up_to (M _ _ _) hk (by omega)
  · obtain ⟨k2, o, hk⟩ := draw_j0 (wrap64 (100 + (wrap64 (r1 * 16)))) S2
    refine ⟨k1 + k2, wrap64 (100 + (wrap64 (r1 * 16))), o, ?_⟩
    unfold spec_DrawPoolRun.f
    rw [up_to (fun k => spec_l1Source.mono l k) e (show k1 ≤ k1 + k2 by omega)]
    simp only [Option.bind_some]
    rw [e1]
    simp only [Option.bind_some]
    rw [e2]
    simp only [Option.bind_some]
    rw [if_neg c]
    exact up_to (M _ _ _) hk (by omega)
/-! ### what is held -/
def used : Nat → List (Nat × Bool) → List (Int × Int)
  | _, [] => []
  | i, b :: bs => if b.2 = true then ((i : Int), (b.1 : Int)) :: used (i + 1) bs else used (i + 1) bs
theorem used_mem : ∀ (bs : List (Nat × Bool)) (i : Nat) (q : Int × Int), q ∈ used i bs → ∃ j n : Nat, bs[j]? = some (n, true) ∧ q = (((i + j : Nat) : Int), (n : Int))
  | [], _, _, h => by cases h
  | (n, l) :: bs, i, q, h => by
    have rest : q ∈ used (i + 1) bs → ∃ j n' : Nat, ((n, l) :: bs)[j]? = some (n', true) ∧ q = (((i + j : Nat) : Int), (n' : Int)) := fun h => by
      obtain ⟨j, n', h1, h2⟩ := used_mem bs (i + 1) q h
      exact ⟨j + 1, n', by simpa using h1, by rw [h2, show i + 1 + j = i + (j + 1) by omega]⟩
    unfold used at h
    cases l with
    | true =>
      rw [if_pos rfl] at h
      rcases List.mem_cons.1 h with rfl | h
      · exact ⟨0, n, rfl, rfl⟩
      · exact rest h
    | false =>
      rw [if_neg (by simp)] at h
      exact rest h
theorem used_app : ∀ (bs cs : List (Nat × Bool)) (i : Nat), used i (bs ++ cs) = used i bs ++ used (i + bs.length) cs
  | [], cs, i => by simp [used]
  | b :: bs, cs, i => by
    have ih := used_app bs cs (i + 1)
    rw [List.cons_append, used, used, ih, List.length_cons, show i + 1 + bs.length = i + (bs.length + 1) by omega]
    split
    · rfl
    · rfl
def tot : List (Int × Int) → Int
  | [] => 0
  | q :: l => q.2 + tot l
theorem tot_app : ∀ (a b : List (Int × Int)), tot (a ++ b) = tot a + tot b
  | [], b => by simp [tot]
  | q :: a, b => by rw [List.cons_append, tot, tot, tot_app a b]; omega
theorem tot_perm {a b : List (Int × Int)} (h : a.Perm b) : tot a = tot b := by
  induction h with
  | nil => rfl
  | cons x _ ih => simp only [tot]; omega
  | swap x y l => simp only [tot]; omega
  | trans _ _ ih1 ih2 => omega
theorem tot_used : ∀ (bs : List (Nat × Bool)) (i : Nat), tot (used i bs) = Pl.liveOf bs
  | [], i => by simp [used, tot, Pl.liveOf]
  | b :: bs, i => by
    rw [live_cons, used, ← tot_used bs (i + 1)]
    split
    · simp [tot]
    · simp
theorem tot_filter : ∀ (Q : List (Int × Int)), (∀ q ∈ Q, q.1 = -2 → q.2 = 0) → tot Q = tot (Q.filter fun q => decide (q.1 ≠ -2))
  | [], _ => rfl
  | q :: Q, h => by
    have ih := tot_filter Q (fun x hx => h x (by simp [hx]))
    have hq := h q (by simp)
    by_cases c : q.1 = -2
    · rw [List.filter_cons_of_neg (by simp [c]), tot, ih, hq c]; omega
    · rw [List.filter_cons_of_pos (by simp [c]), tot, tot, ih]
def Inv (bs : List (Nat × Bool)) (Q : List (Int × Int)) : Prop := (Q.filter fun q => decide (q.1 ≠ -2)).Perm (used 0 bs) ∧ ∀ q ∈ Q, q.1 = -2 → q.2 = 0
theorem inv_tot {bs : List (Nat × Bool)} {Q : List (Int × Int)} (h : Inv bs Q) : tot Q = Pl.liveOf bs := by
  rw [tot_filter Q h.2, tot_perm h.1, tot_used]
theorem inv_mem {bs : List (Nat × Bool)} {Q : List (Int × Int)} (h : Inv bs Q) {q : Int × Int} (hq : q ∈ Q) : q.1 = -2 ∧ q.2 = 0 ∨ ∃ j n : Nat, bs[j]? = some (n, true) ∧ q = ((j : Int), (n : Int)) := by
  by_cases c : q.1 = -2
  · exact .inl ⟨c, h.2 q hq c⟩
  · obtain ⟨j, n, h1, h2⟩ := used_mem bs 0 q (h.1.mem_iff.1 (List.mem_filter.2 ⟨hq, by simpa using c⟩))
    exact .inr ⟨j, n, h1, by simpa using h2⟩
theorem split_at {bs : List (Nat × Bool)} {n : Nat} {b : Nat × Bool} (h : bs[n]? = some b) : ∃ p s, bs = p ++ b :: s ∧ p.length = n ∧ ∀ c, bs.set n c = p ++ c :: s := by
  obtain ⟨hn, hb⟩ := List.getElem?_eq_some_iff.1 h
  refine ⟨bs.take n, bs.drop (n + 1), ?_, by simp; omega, fun c => ?_⟩
  · rw [← hb, List.getElem_cons_drop, List.take_append_drop]
  · rw [List.set_eq_take_append_cons_drop, if_pos hn]
theorem inv_take {bs : List (Nat × Bool)} {Q : List (Int × Int)} (h : Inv bs Q) {n R : Nat} (hn : bs[n]? = some (R, false)) : Inv (bs.set n (R, true)) (Q ++ [((n : Int), (R : Int))]) := by
  obtain ⟨p, s, rfl, hp, hs⟩ := split_at hn
  refine ⟨?_, fun q hq e => ?_⟩
  · rw [hs, List.filter_append, List.filter_cons_of_pos (by simp), List.filter_nil]
    have e : used 0 (p ++ (R, true) :: s) = used 0 p ++ ((n : Int), (R : Int)) :: used (0 + p.length + 1) s := by rw [used_app, used, if_pos rfl, ← hp]; simp
    have e0 : used 0 (p ++ (R, false) :: s) = used 0 p ++ used (0 + p.length + 1) s := by rw [used_app, used, if_neg (by simp)]
    have h1 := h.1
    rw [e0] at h1
    rw [e]
    exact (h1.append_right _).trans ((List.perm_append_singleton _ _).trans List.perm_middle.symm)
  · rcases List.mem_append.1 hq with hq | hq
    · exact h.2 q hq e
    · obtain rfl := List.mem_singleton.1 hq
      dsimp only at e; omega
theorem inv_new {bs : List (Nat × Bool)} {Q : List (Int × Int)} (h : Inv bs Q) {R : Nat} : Inv (bs ++ [(R, true)]) (Q ++ [((bs.length : Int), (R : Int))]) := by
  refine ⟨?_, fun q hq e => ?_⟩
  · rw [List.filter_append, List.filter_cons_of_pos (by simp), List.filter_nil, used_app, used, if_pos rfl, used, Nat.zero_add]
    exact h.1.append_right _
  · rcases List.mem_append.1 hq with hq | hq
    · exact h.2 q hq e
    · obtain rfl := List.mem_singleton.1 hq
      dsimp only at e; omega
def offQ (n : Int) (q : Int × Int) : Int × Int := if q.1 = n then (-2, 0) else q
theorem off_filter (n : Int) (hn : n ≠ -2) : ∀ (Q : List (Int × Int)), (Q.map (offQ n)).filter (fun q => decide (q.1 ≠ -2)) = (Q.filter fun q => decide (q.1 ≠ -2)).filter fun q => decide (q.1 ≠ n)
  | [] => rfl
  | q :: Q => by
    have ih := off_filter n hn Q
    unfold offQ at ih ⊢
    by_cases c : q.1 = n
    · rw [List.map_cons, if_pos c, List.filter_cons_of_neg (by simp), ih, List.filter_cons_of_pos (by simp [c, hn]), List.filter_cons_of_neg (by simp [c])]
    · by_cases c2 : q.1 = -2
      · rw [List.map_cons, if_neg c, List.filter_cons_of_neg (by simp [c2]), ih, List.filter_cons_of_neg (by simp [c2])]
      · rw [List.map_cons, if_neg c, List.filter_cons_of_pos (by simp [c2]), ih, List.filter_cons_of_pos (by simp [c2]), List.filter_cons_of_pos (by simp [c])]
theorem inv_give {bs : List (Nat × Bool)} {Q : List (Int × Int)} (h : Inv bs Q) {n sz : Nat} (hn : bs[n]? = some (sz, true)) : Inv (bs.set n (sz, false)) (Q.map (offQ (n : Int))) := by
  obtain ⟨p, s, rfl, hp, hs⟩ := split_at hn
  refine ⟨?_, fun q hq e => ?_⟩
  · rw [hs, off_filter _ (by omega)]
    have h1 := (h.1.filter fun q => decide (q.1 ≠ (n : Int)))
    have e : (used 0 (p ++ (sz, true) :: s)).filter (fun q => decide (q.1 ≠ (n : Int))) = used 0 (p ++ (sz, false) :: s) := by
      rw [used_app, used_app, used, used, if_pos rfl, if_neg (by simp), List.filter_append, List.filter_cons_of_neg (by simp [hp])]
      congr 1
      · refine List.filter_eq_self.2 fun q hq => ?_
        obtain ⟨j, m, hj, rfl⟩ := used_mem p 0 q hq
        have := (List.getElem?_eq_some_iff.1 hj).1
        simp; omega
      · refine List.filter_eq_self.2 fun q hq => ?_
        obtain ⟨j, m, hj, rfl⟩ := used_mem s _ q hq
        simp; omega
    rw [e] at h1
    exact h1
  · obtain ⟨q0, h0, rfl⟩ := List.mem_map.1 hq
    unfold offQ at e ⊢
    split
    · rfl
    · rename_i c
      rw [if_neg c] at e
      exact h.2 q0 h0 e
/-! ### the law's loops -/
theorem run_ext (K : Nat) (bud : Int) : ∀ (ops : List S67) (bs : List (Nat × Bool)) (out res : List S65), impl_PoolRun.run K bud ops bs out = some res → ∃ xs, res = out ++ xs ∧ xs.length = ops.length
  | [], bs, out, res, h => by
    rw [impl_PoolRun.run] at h
    obtain rfl := Option.some.inj h
    exact ⟨[], by simp, rfl⟩
  | o :: ops, bs, out, res, h => by
    rw [impl_PoolRun.run] at h
    obtain ⟨x, _, h2⟩ := Option.bind_eq_some_iff.1 h
    obtain ⟨xs, h3, h4⟩ := run_ext K bud ops _ _ res h2
    exact ⟨x.2 :: xs, by rw [h3]; simp, by simp [h4]⟩
def La (Q : List (Int × Int)) : List Int := Q.map Prod.fst
def Za (Q : List (Int × Int)) : List Int := Q.map Prod.snd
theorem rdL (p s : List (Int × Int)) (q : Int × Int) : rd (La (p ++ q :: s)) (p.length : Int) = q.1 := by
  unfold rd La
  rw [List.map_append, List.map_cons]
  have := at_m (0 : Int) (p.map Prod.fst) (s.map Prod.fst) q.1
  rwa [List.length_map] at this
theorem rdZ (p s : List (Int × Int)) (q : Int × Int) : rd (Za (p ++ q :: s)) (p.length : Int) = q.2 := by
  unfold rd Za
  rw [List.map_append, List.map_cons]
  have := at_m (0 : Int) (p.map Prod.snd) (s.map Prod.snd) q.2
  rwa [List.length_map] at this
theorem setL (p s : List (Int × Int)) (q c : Int × Int) : (La (p ++ q :: s)).set (p.length : Int).toNat c.1 = La (p ++ c :: s) := by simp [La]
theorem setZ (p s : List (Int × Int)) (q c : Int × Int) : (Za (p ++ q :: s)).set (p.length : Int).toNat c.2 = Za (p ++ c :: s) := by simp [Za]
theorem lenL (Q : List (Int × Int)) : (La Q).length = Q.length := by simp [La]
theorem lenZ (Q : List (Int × Int)) : (Za Q).length = Q.length := by simp [Za]
section
variable {bud : Int} {ops : List S67} {R : List S65} {i : Nat} {x : S65} {o : S67} (hi : i < R.length) (hio : i < ops.length) (hx : rd_T65 R (i : Int) = x) (ho : rd_T67 ops (i : Int) = o)
theorem law_l2 (L : List Int) : ∀ (suf pre : List (Int × Int)) (acc : Int), (∀ q ∈ suf, 0 ≤ q.2 ∧ q.2 ≤ 65536) → 0 ≤ acc → acc + 65536 * (suf.length : Int) ≤ 1099511627776 → pre.length + suf.length ≤ 100000 →
    (∃ k, laws_FnPool.l2 k bud ops R R L (Za (pre ++ suf)) i (acc + tot suf) ((pre ++ suf).length : Int) = some true) → ∃ k, laws_FnPool.l2 k bud ops R R L (Za (pre ++ suf)) i acc (pre.length : Int) = some true
  | [], pre, acc, _, _, _, _, h => by simpa [tot] using h
  | q :: suf, pre, acc, hq, h0, h1, hl, h => by
    simp only [List.length_cons] at h1 hl
    have hb := hq q (by simp)
    obtain ⟨k, hk⟩ := law_l2 L suf (pre ++ [q]) (acc + q.2) (fun y hy => hq y (by simp [hy])) (by omega) (by omega) (by simp; omega) (by
      obtain ⟨k, hk⟩ := h
      refine ⟨k, ?_⟩
      rw [← nx_m]
      rw [tot, show acc + (q.2 + tot suf) = acc + q.2 + tot suf by omega] at hk
      exact hk)
    refine ⟨k + 1, ?_⟩
    rw [laws_FnPool.l2, if_pos (by rw [lenZ, len_m]; omega), if_pos (by omega), rdZ, w_id (n := acc + q.2) (by omega) (by omega), ix_m pre q (by omega), nx_m]
    exact hk
def gQ (x : S65) (q : Int × Int) : Int × Int := if x.f0 = 0 ∧ q.1 = x.f1 then (-2, 0) else q
include hi hio hx ho
theorem law_l1 (acc : Int) : ∀ (suf pre : List (Int × Int)), (∀ q ∈ suf, x.f0 = 0 → q.1 = x.f1 → o.f0 ≠ 1) → pre.length + suf.length ≤ 100000 →
    (∃ k, laws_FnPool.l1 k bud ops R R (La (pre ++ suf.map (gQ x))) (Za (pre ++ suf.map (gQ x))) i acc ((pre ++ suf).length : Int) = some true) → ∃ k, laws_FnPool.l1 k bud ops R R (La (pre ++ suf)) (Za (pre ++ suf)) i acc (pre.length : Int) = some true
  | [], pre, _, _, h => by simpa using h
  | q :: suf, pre, hq, hl, h => by
    simp only [List.length_cons] at hl
    have hb := hq q (by simp)
    have ih : ∃ k, laws_FnPool.l1 k bud ops R R (La (pre ++ (gQ x q) :: suf)) (Za (pre ++ (gQ x q) :: suf)) i acc ((pre.length : Int) + 1) = some true := by
      have := law_l1 acc suf (pre ++ [gQ x q]) (fun y hy => hq y (by simp [hy])) (by simp; omega) (by simpa using h)
      simpa using this
    obtain ⟨k, hk⟩ := ih
    by_cases c : x.f0 = 0
    · by_cases c2 : q.1 = x.f1
      · have e : gQ x q = (-2, 0) := by unfold gQ; rw [if_pos ⟨c, c2⟩]
        rw [e] at hk
        refine ⟨k + 2, ?_⟩
        rw [laws_FnPool.l1, if_pos (by rw [lenL, len_m]; omega), if_pos (by omega), if_pos (by omega), hx, if_pos c, if_pos (by omega), if_pos (by omega), rdL, laws_FnPool.j2, if_pos (by simpa using c2), if_pos (by omega), if_pos (by omega), ho, if_neg (hb c c2), if_pos (by omega), if_pos (by rw [lenZ, len_m]; omega), if_pos (by rw [lenL, len_m]; omega), w_id (by omega) (by omega)]
        have e1 := setL pre suf q (-2, 0)
        have e2 := setZ pre suf q (-2, 0)
        dsimp only at e1 e2
        rw [e1, e2]
        exact hk
      · have e : gQ x q = q := by unfold gQ; rw [if_neg (fun h => c2 h.2)]
        rw [e] at hk
        refine ⟨k + 2, ?_⟩
        rw [laws_FnPool.l1, if_pos (by rw [lenL, len_m]; omega), if_pos (by omega), if_pos (by omega), hx, if_pos c, if_pos (by omega), if_pos (by omega), rdL, laws_FnPool.j2, if_neg (by simpa using c2), w_id (by omega) (by omega)]
        exact hk
    · have e : gQ x q = q := by unfold gQ; rw [if_neg (fun h => c h.1)]
      rw [e] at hk
      refine ⟨k + 2, ?_⟩
      rw [laws_FnPool.l1, if_pos (by rw [lenL, len_m]; omega), if_pos (by omega), if_pos (by omega), hx, if_neg c, laws_FnPool.j2, if_neg (by decide), w_id (by omega) (by omega)]
      exact hk
end
theorem rb_same : ∀ (k : Nat) (n y : Int), impl_RoundBytes.l0 k n y = spec_RoundBytes.l0 k n y
  | 0, _, _ => rfl
  | k + 1, n, y => by rw [impl_RoundBytes.l0, spec_RoundBytes.l0, rb_same k]
theorem rb_same_j : ∀ (k : Nat) (n : Int) (b : Bool), impl_RoundBytes.j0 k n b = spec_RoundBytes.j0 k n b
  | 0, _, _ => rfl
  | k + 1, n, b => by rw [impl_RoundBytes.j0, spec_RoundBytes.j0, rb_same k]
theorem rb_same_f (k : Nat) (n : Int) : impl_RoundBytes.f k n = spec_RoundBytes.f k n := by
  unfold impl_RoundBytes.f spec_RoundBytes.f
  rw [rb_same_j, rb_same_j]
theorem inv_bound {bs : List (Nat × Bool)} {Q : List (Int × Int)} (h : Inv bs Q) (hg : Good bs) : ∀ q ∈ Q, 0 ≤ q.2 ∧ q.2 ≤ 65536 := fun q hq => by
  rcases inv_mem h hq with ⟨_, h2⟩ | ⟨j, n, hj, rfl⟩
  · omega
  · have := hg _ (List.mem_of_getElem? hj)
    dsimp only at this ⊢
    omega
theorem M_l0 (k : Nat) (a b c d e f g) : LeO (laws_FnPool.l0 k a b c d e f g) (laws_FnPool.l0 (k + 1) a b c d e f g) := (laws_FnPool.mono_l k).1 _ _ _ _ _ _ _
theorem M_j4 (k : Nat) (a b c d e f g h) : LeO (laws_FnPool.j4 k a b c d e f g h) (laws_FnPool.j4 (k + 1) a b c d e f g h) := (laws_FnPool.mono_l k).2.2.2.2.1 _ _ _ _ _ _ _ _
theorem law_step {bud : Int} {ops : List S67} {R : List S65} {i : Nat} {x : S65} {o : S67} {Q Q2 : List (Int × Int)} {bs' : List (Nat × Bool)} (hi : i < R.length) (hio : i < ops.length) (hx : rd_T65 R (i : Int) = x) (ho : rd_T67 ops (i : Int) = o)
    (hi2 : i ≤ 2000) (hQ : Q.length ≤ 2000) (hA : ∀ q ∈ Q, x.f0 = 0 → q.1 = x.f1 → o.f0 ≠ 1)
    (hB : (x.f0 = 0 ∧ o.f0 = 1 ∧ ∃ v, (∃ k, spec_RoundBytes.f k o.f1 = some v) ∧ Q2 = Q.map (gQ x) ++ [(x.f1, v)]) ∨ (¬(x.f0 = 0 ∧ o.f0 = 1) ∧ Q2 = Q.map (gQ x)))
    (hI : Inv bs' Q2) (hG : Good bs') (hL : x.f2 = Pl.liveOf bs') (hbud : x.f0 = 0 → o.f0 = 1 → x.f2 ≤ bud)
    (hn : ∃ k, laws_FnPool.l0 k bud ops R R (La Q2) (Za Q2) ((i : Int) + 1) = some true) : ∃ k, laws_FnPool.l0 k bud ops R R (La Q) (Za Q) (i : Int) = some true := by
  have hQ2 : Q2.length ≤ 2001 := by
    rcases hB with ⟨_, _, v, _, rfl⟩ | ⟨_, rfl⟩
    · simp; omega
    · simp; omega
  have h4 : ∃ k, laws_FnPool.j4 k bud ops R R (La Q2) (Za Q2) i 0 = some true := by
    obtain ⟨k, hk⟩ := hn
    obtain ⟨k2, hk2⟩ := law_l2 (bud := bud) (ops := ops) (R := R) (i := i) (La Q2) Q2 [] 0 (inv_bound hI hG) (by omega) (by omega) (by simp; omega) (by
      refine ⟨k + 1, ?_⟩
      rw [laws_FnPool.l2, if_neg (by rw [lenZ]; simp), if_pos (by omega), if_pos (by omega), hx, List.nil_append, Int.zero_add, inv_tot hI, if_pos hL, if_pos (by omega), w_id (by omega) (by omega)]
      by_cases c : x.f0 = 0
      · rw [if_pos c, if_pos (by omega), ho]
        by_cases c2 : o.f0 = 1
        · rw [if_pos c2, if_neg (by have := hbud c c2; omega)]
          exact hk
        · rw [if_neg c2]
          exact hk
      · rw [if_neg c]
        exact hk)
    exact ⟨k2 + 1, by rw [laws_FnPool.j4]; simpa using hk2⟩
  have h1 : ∃ k, laws_FnPool.l1 k bud ops R R (La (Q.map (gQ x))) (Za (Q.map (gQ x))) i 0 (Q.length : Int) = some true := by
    rcases hB with ⟨c1, c2, v, ⟨k0, hv⟩, rfl⟩ | ⟨c, rfl⟩
    · obtain ⟨k, hk⟩ := h4
      rw [← rb_same_f] at hv
      refine ⟨(k0 + k) + 2, ?_⟩
      rw [laws_FnPool.l1, if_neg (by rw [lenL]; simp), if_pos (by omega), if_pos (by omega), hx, if_pos c1, if_pos (by omega), ho, laws_FnPool.j3, if_pos (by simpa using c2), if_pos (by omega), if_pos (by omega), if_pos (by rw [lenL]; simp; omega), if_pos (by omega), ho, up_to (fun k => impl_RoundBytes.mono _ k) hv (show k0 ≤ k0 + k by omega)]
      simp only [Option.bind_some]
      rw [if_pos (by rw [lenZ]; simp; omega), hx]
      have e1 : La (Q.map (gQ x)) ++ [x.f1] = La (Q.map (gQ x) ++ [(x.f1, v)]) := by simp [La]
      have e2 : Za (Q.map (gQ x)) ++ [v] = Za (Q.map (gQ x) ++ [(x.f1, v)]) := by simp [Za]
      rw [e1, e2]
      exact up_to (fun k => M_j4 k _ _ _ _ _ _ _ _) hk (by omega)
    · obtain ⟨k, hk⟩ := h4
      refine ⟨k + 2, ?_⟩
      rw [laws_FnPool.l1, if_neg (by rw [lenL]; simp), if_pos (by omega), if_pos (by omega), hx]
      by_cases c1 : x.f0 = 0
      · rw [if_pos c1, if_pos (by omega), ho, laws_FnPool.j3, if_neg (by simpa using fun h => c ⟨c1, h⟩)]
        exact hk
      · rw [if_neg c1, laws_FnPool.j3, if_neg (by decide)]
        exact hk
  obtain ⟨k, hk⟩ := law_l1 hi hio hx ho 0 Q [] hA (by simp; omega) (by simpa using h1)
  refine ⟨k + 1, ?_⟩
  rw [laws_FnPool.l0, if_pos (by omega), if_pos (by omega), if_pos (by omega), if_pos rfl]
  simpa using hk
theorem g_id {x : S65} {Q : List (Int × Int)} (h : x.f0 = 0 → ∀ q ∈ Q, q.1 ≠ x.f1) : Q.map (gQ x) = Q := by
  refine (List.map_congr_left fun q hq => ?_).trans (List.map_id _)
  unfold gQ
  rw [if_neg (fun c => h c.1 q hq c.2)]
  rfl
theorem law_l0 (K : Nat) (bud : Int) : ∀ (os P : List S67) (bs : List (Nat × Bool)) (out : List S65) (Q : List (Int × Int)) (res : List S65), impl_PoolRun.run K bud os bs out = some res → out.length = P.length → P.length + os.length ≤ 2000 → Good bs → Q.length ≤ P.length → Inv bs Q →
    ∃ k, laws_FnPool.l0 k bud (P ++ os) res res (La Q) (Za Q) (P.length : Int) = some true
  | [], P, bs, out, Q, res, hr, ho, hl, hg, hQ, hI => by
    rw [impl_PoolRun.run] at hr
    obtain rfl := Option.some.inj hr
    exact ⟨1, by rw [laws_FnPool.l0, if_neg (by omega)]⟩
  | o :: os, P, bs, out, Q, res, hr, ho, hl, hg, hQ, hI => by
    simp only [List.length_cons] at hl
    rw [impl_PoolRun.run] at hr
    obtain ⟨⟨bs', x⟩, hstep, hrun⟩ := Option.bind_eq_some_iff.1 hr
    dsimp only at hrun
    obtain ⟨xs, hres, hxs⟩ := run_ext K bud os bs' (out ++ [x]) res hrun
    have hx : rd_T65 res (P.length : Int) = x := by
      rw [hres, ← ho, List.append_assoc, List.singleton_append]
      exact at_m _ _ _ _
    have ho' : rd_T67 (P ++ o :: os) (P.length : Int) = o := at_m _ _ _ _
    have hi : P.length < res.length := by rw [hres]; simp; omega
    have next : ∀ Q2 : List (Int × Int), Q2.length ≤ P.length + 1 → Good bs' → Inv bs' Q2 → ∃ k, laws_FnPool.l0 k bud (P ++ o :: os) res res (La Q2) (Za Q2) ((P.length : Int) + 1) = some true := fun Q2 h1 h2 h3 => by
      have := law_l0 K bud os (P ++ [o]) bs' (out ++ [x]) Q2 res hrun (by simp; omega) (by simp; omega) h2 (by simpa using h1) h3
      simpa using this
    have fin : ∀ Q2 : List (Int × Int), (∀ q ∈ Q, x.f0 = 0 → q.1 = x.f1 → o.f0 ≠ 1) → ((x.f0 = 0 ∧ o.f0 = 1 ∧ ∃ v, (∃ k, spec_RoundBytes.f k o.f1 = some v) ∧ Q2 = Q.map (gQ x) ++ [(x.f1, v)]) ∨ (¬(x.f0 = 0 ∧ o.f0 = 1) ∧ Q2 = Q.map (gQ x))) → Good bs' → Inv bs' Q2 → x.f2 = Pl.liveOf bs' → (x.f0 = 0 → o.f0 = 1 → x.f2 ≤ bud) →
        ∃ k, laws_FnPool.l0 k bud (P ++ o :: os) res res (La Q) (Za Q) (P.length : Int) = some true := fun Q2 hA hB hG hI2 hL hbud =>
      law_step hi (by simp) hx ho' (by omega) (by omega) hA hB hI2 hG hL hbud (next Q2 (by
        rcases hB with ⟨_, _, v, _, rfl⟩ | ⟨_, rfl⟩
        · simp; omega
        · simp; omega) hG hI2)
    have miss : x.f0 ≠ 0 → bs' = bs → x.f2 = Pl.liveOf bs → ∃ k, laws_FnPool.l0 k bud (P ++ o :: os) res res (La Q) (Za Q) (P.length : Int) = some true := fun c e hL => by
      subst e
      have hid : Q.map (gQ x) = Q := g_id (fun h => absurd h c)
      exact fin Q (fun q _ h => absurd h c) (.inr ⟨fun h => c h.1, hid.symm⟩) hg hI hL (fun h => absurd h c)
    unfold impl_PoolRun.step at hstep
    by_cases k1 : o.f0 = 1
    · rw [if_pos k1] at hstep
      obtain ⟨v, hv, hs2⟩ := Option.bind_eq_some_iff.1 hstep
      by_cases hv2 : v < 0 ∨ (16 ≤ v ∧ v ≤ 65536)
      · rw [if_pos hv2] at hs2
        obtain ⟨g1, _⟩ := takeF_good bs bud v hg hv2
        have hs3 := Option.some.inj hs2
        simp only [Prod.mk.injEq] at hs3
        obtain ⟨e1, e2⟩ := hs3
        unfold Pl.takeF at e1 e2 g1
        by_cases c : v < 0
        · rw [if_pos c] at e1 e2
          exact miss (by rw [← e2]; simp) e1.symm (by rw [← e2])
        · rw [if_neg c] at e1 e2 g1
          by_cases c2 : bud < Pl.liveOf bs + v
          · rw [if_pos c2] at e1 e2
            exact miss (by rw [← e2]; simp) e1.symm (by rw [← e2])
          · rw [if_neg c2] at e1 e2 g1
            have vn : ((v.toNat : Nat) : Int) = v := Int.toNat_of_nonneg (by omega)
            have done : ∀ n : Nat, x = ⟨0, (n : Int), Pl.liveOf bs'⟩ → (∀ m, bs[n]? ≠ some (m, true)) → Good bs' → Inv bs' (Q ++ [((n : Int), ((v.toNat : Nat) : Int))]) → ∃ k, laws_FnPool.l0 k bud (P ++ o :: os) res res (La Q) (Za Q) (P.length : Int) = some true := fun n hxe hno hG hI2 => by
              have hne : ∀ q ∈ Q, q.1 ≠ (n : Int) := fun q hq e => by
                rcases inv_mem hI hq with ⟨h1, _⟩ | ⟨j, m, hj, rfl⟩
                · omega
                · dsimp only at e
                  obtain rfl : j = n := by omega
                  exact hno m hj
              have f0 : x.f0 = 0 := by rw [hxe]
              have f1 : x.f1 = (n : Int) := by rw [hxe]
              have f2 : x.f2 = Pl.liveOf bs' := by rw [hxe]
              have hid : Q.map (gQ x) = Q := g_id (fun _ => by rw [f1]; exact hne)
              refine fin (Q ++ [((n : Int), ((v.toNat : Nat) : Int))]) (fun q hq _ e => absurd (e.trans f1) (hne q hq)) (.inl ⟨f0, k1, v, ⟨K, hv⟩, by rw [hid, f1, vn]⟩) hG hI2 f2 (fun _ _ => ?_)
              rw [f2, ← inv_tot hI2, tot_app, inv_tot hI, vn]
              simp only [tot]
              omega
            cases hfi : bs.findIdx? (fun b => b == (v.toNat, false)) with
            | none =>
              rw [hfi] at e1 e2 g1
              dsimp only at e1 e2 g1
              rw [e1] at e2 g1
              exact done bs.length e2.symm (fun m h => by simp at h) g1 (by rw [← e1]; exact inv_new hI)
            | some n =>
              rw [hfi] at e1 e2 g1
              dsimp only at e1 e2 g1
              rw [e1] at e2 g1
              obtain ⟨hnl, hnp, hnf⟩ := List.findIdx?_eq_some_iff_getElem.1 hfi
              have hn : bs[n]? = some (v.toNat, false) := by
                rw [List.getElem?_eq_getElem hnl]
                exact congrArg some (by simpa using hnp)
              exact done n e2.symm (fun m h => by rw [hn] at h; simp at h) g1 (by rw [← e1]; exact inv_take hI hn)
      · rw [if_neg hv2] at hs2
        cases hs2
    · rw [if_neg k1] at hstep
      by_cases k2 : o.f0 = 2
      · rw [if_pos k2] at hstep
        have hs3 := Option.some.inj hstep
        simp only [Prod.mk.injEq] at hs3
        obtain ⟨e1, e2⟩ := hs3
        obtain ⟨g1, _⟩ := giveF_good bs o.f2 hg
        unfold Pl.giveF at e1 e2 g1
        by_cases c : o.f2 < 0
        · rw [if_pos c] at e1 e2
          exact miss (by rw [← e2]; simp) e1.symm (by rw [← e2])
        · rw [if_neg c] at e1 e2 g1
          have on : ((o.f2.toNat : Nat) : Int) = o.f2 := Int.toNat_of_nonneg (by omega)
          cases hb : bs[o.f2.toNat]? with
          | none =>
            rw [hb] at e1 e2
            dsimp only at e1 e2
            exact miss (by rw [← e2]; simp) e1.symm (by rw [← e2])
          | some b =>
            obtain ⟨sz, l⟩ := b
            cases l with
            | false =>
              rw [hb] at e1 e2
              dsimp only at e1 e2
              exact miss (by rw [← e2]; simp) e1.symm (by rw [← e2])
            | true =>
              rw [hb] at e1 e2 g1
              dsimp only at e1 e2 g1
              rw [e1] at e2 g1
              have hI2 := inv_give hI hb
              rw [e1, on] at hI2
              have f0 : x.f0 = 0 := by rw [← e2]
              have f1 : x.f1 = o.f2 := by rw [← e2]
              have f2 : x.f2 = Pl.liveOf bs' := by rw [← e2]
              have hid : Q.map (gQ x) = Q.map (offQ o.f2) := List.map_congr_left fun q _ => by
                unfold gQ offQ
                rw [f1]
                simp [f0]
              exact fin (Q.map (offQ o.f2)) (fun q _ _ _ => k1) (.inr ⟨fun h => k1 h.2, hid.symm⟩) g1 hI2 f2 (fun _ h => absurd h k1)
      · rw [if_neg k2] at hstep
        have hs3 := Option.some.inj hstep
        simp only [Prod.mk.injEq] at hs3
        obtain ⟨e1, e2⟩ := hs3
        exact miss (by rw [← e2]; simp) e1.symm (by rw [← e2])
theorem law_words (l : List Int) (h : l.length ≤ maxLen) (hl : ∀ x ∈ l, (Lit.int .u8 x).wf = true) : ∃ k, laws_FnPool.f k l = some true := by
  by_cases c : (l.length : Int) > 1048576
  · exact ⟨0, by unfold laws_FnPool.f; rw [if_pos c]⟩
  · obtain ⟨k1, b, o, hd⟩ := draw_ok l hl
    obtain ⟨res0, p1, p2, p3⟩ := pool_alike b o 8001 8001 (by omega) (by omega)
    have hlaw : ∃ k, laws_FnPool.l0 k b o res0 res0 (La []) (Za []) 0 = some true := by
      unfold impl_PoolRun.f at p2
      by_cases c2 : (o.length : Int) > 2000
      · rw [if_pos c2] at p2
        obtain rfl := Option.some.inj p2
        exact ⟨1, by rw [laws_FnPool.l0, if_neg (by simp)]⟩
      · rw [if_neg c2] at p2
        have := law_l0 8001 b o [] [] [] [] res0 p2 rfl (by simp; omega) (fun b hb => by cases hb) (by simp) ⟨by simp [used], fun q hq => by cases hq⟩
        simpa using this
    obtain ⟨k2, hk2⟩ := hlaw
    refine ⟨k1 + 8001 + k2, ?_⟩
    have D := up_to (fun k => spec_DrawPoolRun.mono l k) hd (show k1 ≤ k1 + 8001 + k2 by omega)
    have A := up_to (fun k => spec_PoolRun.mono b o k) p1 (show 8001 ≤ k1 + 8001 + k2 by omega)
    have B := up_to (fun k => impl_PoolRun.mono b o k) p2 (show 8001 ≤ k1 + 8001 + k2 by omega)
    unfold laws_FnPool.f
    rw [if_neg c, D]
    simp only [Option.bind_some]
    rw [A]
    simp only [Option.bind_some]
    rw [B]
    simp only [Option.bind_some]
    rw [if_pos trivial]
    exact up_to (fun k => M_l0 k _ _ _ _ _ _ _) hk2 (by omega)
end Go.Proofs.Ytpmdgmnpkdoamaa.DFnPool
namespace Go.Proofs.Ytpmdgmnpkdoamaa.Pure
open Go.Proofs.Ytpmdgmnpkdoamaa.DFnPool
theorem FnPool : laws_FnPool.Pure := fun l0 h1 _ h3 => law_words l0 h1 h3
end Go.Proofs.Ytpmdgmnpkdoamaa.Pure
