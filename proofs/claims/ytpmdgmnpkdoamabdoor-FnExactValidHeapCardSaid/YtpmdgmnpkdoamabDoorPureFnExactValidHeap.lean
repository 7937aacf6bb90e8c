/- Proved here: what the words printed for the law on ValidHeap come to: the law answers true (plain Lean). Conditions: the lists' lengths and the floats' bits. -/
import Derived.Test.YtpmdgmnpkdoamabDoorDFnExactValidHeapx
namespace Go.Proofs.YtpmdgmnpkdoamabDoor.DFnExactValidHeap
open Go.RowKit Go.Proofs.YtpmdgmnpkdoamabDoorW.PrintWords Go.Proofs.YtpmdgmnpkdoamabDoorW.PrintLast Go.Proofs.YtpmdgmnpkdoamabDoorW.PrintMore
set_option linter.unusedVariables false
set_option linter.unusedSimpArgs false
theorem w_id {n : Int} (h : -9223372036854775808 ≤ n) (h2 : n < 9223372036854775808) : wrap64 n = n := by unfold wrap64; omega
theorem len_m {α : Type} (pre suf : List α) (x : α) : ((pre ++ x :: suf).length : Int) = pre.length + 1 + suf.length := by simp; omega
theorem nx_m {α : Type} (pre suf : List α) (x : α) : pre ++ x :: suf = (pre ++ [x]) ++ suf := by simp
theorem at_m {α : Type} (d : α) (pre suf : List α) (x : α) : (pre ++ x :: suf).getD (pre.length : Int).toNat d = x := by simp
theorem ix_m {α : Type} (pre : List α) (x : α) (h : pre.length < 1099511627776) : wrap64 ((pre.length : Int) + 1) = ((pre ++ [x]).length : Int) := by rw [w_id (by omega) (by omega)]; simp
theorem set_m {α : Type} (pre suf : List α) (x y : α) : (pre ++ x :: suf).set (pre.length : Int).toNat y = (pre ++ [y]) ++ suf := by simp
/-! ### sizes -/
theorem sz_l0 : ∀ (suf pre : List S166) (k : Nat) (a : Int), suf.length < k → pre.length + suf.length < 1099511627776 → 0 ≤ a → a ≤ 1048576 → (∀ s ∈ suf, s.f1.length ≤ 9223372036854775807) →
    ∃ z, laws_szStoreS.l0 k (pre ++ suf) a pre.length = some z ∧ (z < 0 ∨ ∀ s ∈ suf, s.f1.length ≤ 1048576)
  | [], pre, k, a, hk, _, _, _, _ => by
    obtain ⟨k, rfl⟩ : ∃ m, k = m + 1 := ⟨k - 1, by omega⟩
    rw [laws_szStoreS.l0, if_neg (by simp)]
    exact ⟨a, rfl, .inr (by simp)⟩
  | s :: suf, pre, k, a, hk, hl, h0, h1, hs => by
    simp only [List.length_cons] at hk hl
    obtain ⟨k, rfl⟩ : ∃ m, k = m + 1 := ⟨k - 1, by omega⟩
    have hm := hs s (by simp)
    have e : wrap64 (a - (s.f1.length : Int)) = a - (s.f1.length : Int) := w_id (by omega) (by omega)
    rw [laws_szStoreS.l0, if_pos (by rw [len_m]; omega), if_pos (by omega)]
    unfold rd_T166
    rw [at_m]
    unfold laws_szStore.f laws_szCellS.f
    rw [e]
    by_cases c : a - (s.f1.length : Int) < 0
    · rw [if_pos c]
      simp only [Option.bind_some]
      rw [if_pos (by omega)]
      simp only [Option.bind_some]
      rw [if_pos (by omega)]
      exact ⟨-1, rfl, .inl (by omega)⟩
    · rw [if_neg c]
      simp only [Option.bind_some]
      rw [if_neg c]
      simp only [Option.bind_some]
      rw [if_neg c, ix_m pre s (by omega), nx_m pre suf s]
      obtain ⟨z, hz, hb⟩ := sz_l0 suf (pre ++ [s]) k (a - (s.f1.length : Int)) (by omega) (by simp; omega) (by omega) (by omega) (fun x hx => hs x (by simp [hx]))
      refine ⟨z, hz, hb.imp id (fun hb x hx => ?_)⟩
      rcases List.mem_cons.1 hx with rfl | hx
      · omega
      · exact hb x hx
theorem szH (hs : List S166) (k : Nat) (hk : 1048576 < k) (h : hs.length ≤ 9223372036854775807) (hb : ∀ s ∈ hs, s.f1.length ≤ 9223372036854775807) :
    ∃ z, laws_szHeap.f k hs 1048576 = some z ∧ (z < 0 ∨ (hs.length ≤ 1048576 ∧ ∀ s ∈ hs, s.f1.length ≤ 1048576)) := by
  unfold laws_szHeap.f laws_szStoreS.f
  have e : wrap64 (1048576 - (hs.length : Int)) = 1048576 - (hs.length : Int) := w_id (by omega) (by omega)
  rw [e]
  by_cases c : 1048576 - (hs.length : Int) < 0
  · rw [if_pos c]
    simp only [Option.bind_some]
    rw [if_pos (by omega)]
    exact ⟨-1, rfl, .inl (by omega)⟩
  · rw [if_neg c]
    obtain ⟨z, hz, hz2⟩ := sz_l0 hs [] k (1048576 - (hs.length : Int)) (by omega) (by simp; omega) (by omega) (by omega) hb
    have hz' : laws_szStoreS.l0 k hs (1048576 - (hs.length : Int)) 0 = some z := by simpa using hz
    rw [hz']
    simp only [Option.bind_some]
    by_cases c2 : z < 0
    · rw [if_pos c2]
      exact ⟨-1, rfl, .inl (by omega)⟩
    · rw [if_neg c2]
      exact ⟨z, rfl, .inr ⟨by omega, hz2.resolve_left c2⟩⟩
/-! ### copies -/
def cv (c : S25) : S27 := ⟨c.f0, c.f1, c.f2⟩
def sv (s : S166) : S85 := ⟨s.f0, s.f1.map cv⟩
theorem toC_l0 : ∀ (suf pre : List S25) (k : Nat), suf.length < k → pre.length + suf.length < 1099511627776 → laws_toCellS.l0 k (pre ++ suf) (pre.map cv ++ List.replicate suf.length z27) pre.length = some ((pre ++ suf).map cv)
  | [], pre, k, hk, _ => by
    obtain ⟨k, rfl⟩ : ∃ m, k = m + 1 := ⟨k - 1, by omega⟩
    rw [laws_toCellS.l0, if_neg (by simp)]
    simp
  | c :: suf, pre, k, hk, hl => by
    simp only [List.length_cons] at hk hl
    obtain ⟨k, rfl⟩ : ∃ m, k = m + 1 := ⟨k - 1, by omega⟩
    have ih := toC_l0 suf (pre ++ [c]) k (by omega) (by simp; omega)
    rw [laws_toCellS.l0, if_pos (by rw [len_m]; omega), if_pos (by omega)]
    unfold rd_T25
    rw [at_m]
    unfold laws_toCell.f
    simp only [Option.bind_some]
    have e : (pre.map cv ++ List.replicate (c :: suf).length z27).set (pre.length : Int).toNat (cv c) = (pre ++ [c]).map cv ++ List.replicate suf.length z27 := by
      rw [List.length_cons, List.replicate_succ]
      have := set_m (pre.map cv) (List.replicate suf.length z27) z27 (cv c)
      rw [List.length_map] at this
      rw [this]
      simp
    rw [if_pos (by simp; omega), ix_m pre c (by omega), nx_m pre suf c]
    have e' := e
    unfold cv at e'
    rw [show ((⟨c.f0, c.f1, c.f2⟩ : S27)) = cv c from rfl, e]
    exact ih
theorem toC (xs : List S25) (k : Nat) (hk : xs.length < k) (hl : xs.length ≤ 1048576) : laws_toCellS.f k xs = some (xs.map cv) := by
  unfold laws_toCellS.f
  rw [if_pos (by omega), if_pos (by omega)]
  have := toC_l0 xs [] k hk (by simp; omega)
  simpa using this
theorem toS_l0 : ∀ (suf pre : List S166) (k : Nat), 1048576 + suf.length < k → pre.length + suf.length < 1099511627776 → (∀ s ∈ suf, s.f1.length ≤ 1048576) →
    laws_toStoreS.l0 k (pre ++ suf) (pre.map sv ++ List.replicate suf.length z85) pre.length = some ((pre ++ suf).map sv)
  | [], pre, k, hk, _, _ => by
    obtain ⟨k, rfl⟩ : ∃ m, k = m + 1 := ⟨k - 1, by omega⟩
    rw [laws_toStoreS.l0, if_neg (by simp)]
    simp
  | s :: suf, pre, k, hk, hl, hs => by
    simp only [List.length_cons] at hk hl
    obtain ⟨k, rfl⟩ : ∃ m, k = m + 1 := ⟨k - 1, by omega⟩
    have ih := toS_l0 suf (pre ++ [s]) k (by omega) (by simp; omega) (fun x hx => hs x (by simp [hx]))
    have hsl := hs s (by simp)
    rw [laws_toStoreS.l0, if_pos (by rw [len_m]; omega), if_pos (by omega)]
    unfold rd_T166
    rw [at_m]
    unfold laws_toStore.f
    rw [toC s.f1 k (by omega) hsl]
    simp only [Option.bind_some]
    have e : (pre.map sv ++ List.replicate (s :: suf).length z85).set (pre.length : Int).toNat (sv s) = (pre ++ [s]).map sv ++ List.replicate suf.length z85 := by
      rw [List.length_cons, List.replicate_succ]
      have := set_m (pre.map sv) (List.replicate suf.length z85) z85 (sv s)
      rw [List.length_map] at this
      rw [this]
      simp
    rw [if_pos (by simp; omega), ix_m pre s (by omega), nx_m pre suf s, show ((⟨s.f0, s.f1.map cv⟩ : S85)) = sv s from rfl, e]
    exact ih
theorem toH (hs : List S166) (k : Nat) (hk : 2097152 < k) (hl : hs.length ≤ 1048576) (hb : ∀ s ∈ hs, s.f1.length ≤ 1048576) : laws_toHeap.f k hs = some (hs.map sv) := by
  unfold laws_toHeap.f laws_toStoreS.f
  rw [if_pos (by omega), if_pos (by omega)]
  have := toS_l0 hs [] k (by omega) (by simp; omega) hb
  have h2 : laws_toStoreS.l0 k hs (List.replicate (((hs.length : Int) : Int)).toNat z85) 0 = some (hs.map sv) := by simpa using this
  rw [h2]
  rfl
/-! ### the same again -/
def bits (c : S27) : Prop := c.f1.toNat < 18446744073709551616 ∧ c.f2.toNat < 18446744073709551616
theorem same_self (x : Int) (h : x.toNat < 18446744073709551616) : laws_sameFloat.f x x = some true := by
  unfold laws_sameFloat.f
  rw [if_pos ⟨h, h⟩, Vc.same_self]
theorem eqC_l0 : ∀ (suf pre : List S27) (k : Nat), suf.length < k → pre.length + suf.length < 1099511627776 → (∀ c ∈ suf, bits c) → laws_eqCellS.l0 k (pre ++ suf) (pre ++ suf) pre.length = some true
  | [], pre, k, hk, _, _ => by
    obtain ⟨k, rfl⟩ : ∃ m, k = m + 1 := ⟨k - 1, by omega⟩
    rw [laws_eqCellS.l0, if_neg (by simp)]
  | c :: suf, pre, k, hk, hl, hb => by
    simp only [List.length_cons] at hk hl
    obtain ⟨k, rfl⟩ : ∃ m, k = m + 1 := ⟨k - 1, by omega⟩
    have ih := eqC_l0 suf (pre ++ [c]) k (by omega) (by simp; omega) (fun x hx => hb x (by simp [hx]))
    have hc := hb c (by simp)
    rw [laws_eqCellS.l0, if_pos (by rw [len_m]; omega), if_pos (by omega), if_pos (by rw [len_m]; omega)]
    unfold rd_T27
    rw [at_m]
    unfold laws_eqCell.f
    rw [if_pos rfl, same_self _ hc.1]
    simp only [Option.bind_some]
    rw [if_pos trivial, same_self _ hc.2]
    simp only [Option.bind_some]
    rw [if_pos trivial]
    simp only [Option.bind_some]
    rw [if_pos trivial, ix_m pre c (by omega), nx_m pre suf c, ih]
theorem eqS_l0 : ∀ (suf pre : List S85) (k : Nat), 1048576 + suf.length < k → pre.length + suf.length < 1099511627776 → (∀ s ∈ suf, s.f1.length ≤ 1048576 ∧ ∀ c ∈ s.f1, bits c) → laws_eqStoreS.l0 k (pre ++ suf) (pre ++ suf) pre.length = some true
  | [], pre, k, hk, _, _ => by
    obtain ⟨k, rfl⟩ : ∃ m, k = m + 1 := ⟨k - 1, by omega⟩
    rw [laws_eqStoreS.l0, if_neg (by simp)]
  | s :: suf, pre, k, hk, hl, hb => by
    simp only [List.length_cons] at hk hl
    obtain ⟨k, rfl⟩ : ∃ m, k = m + 1 := ⟨k - 1, by omega⟩
    have ih := eqS_l0 suf (pre ++ [s]) k (by omega) (by simp; omega) (fun x hx => hb x (by simp [hx]))
    have hs := hb s (by simp)
    have hc : laws_eqCellS.l0 k s.f1 s.f1 0 = some true := by simpa using eqC_l0 s.f1 [] k (by omega) (by simp; omega) hs.2
    rw [laws_eqStoreS.l0, if_pos (by rw [len_m]; omega), if_pos (by omega), if_pos (by rw [len_m]; omega)]
    unfold rd_T85
    rw [at_m]
    unfold laws_eqStore.f laws_eqCellS.f
    rw [if_pos rfl, if_pos rfl, hc]
    simp only [Option.bind_some]
    rw [if_pos trivial]
    simp only [Option.bind_some]
    rw [if_pos trivial, ix_m pre s (by omega), nx_m pre suf s, ih]
theorem eqH (hs : List S85) (k : Nat) (hk : 2097152 < k) (hl : hs.length ≤ 1048576) (hb : ∀ s ∈ hs, s.f1.length ≤ 1048576 ∧ ∀ c ∈ s.f1, bits c) : laws_eqHeap.f k hs hs = some true := by
  unfold laws_eqHeap.f laws_eqStoreS.f
  have h : laws_eqStoreS.l0 k hs hs 0 = some true := by simpa using eqS_l0 hs [] k (by omega) (by simp; omega) hb
  rw [if_pos rfl, h]
  rfl
/-! ### the two answer alike -/
def okc (d : Int) (c : S27) : Bool := Vc.vcell d c.f0 c.f1.toNat c.f2.toNat
theorem spec_l1 (x3 : Int) (hs : List S85) (d : Int) (K : Nat) (r : Option Bool) (hr : ∀ k, K ≤ k → spec_ValidHeap.l0 k (wrap64 (x3 + 1)) hs = r) : ∀ (suf pre : List S27) (k : Nat), K + suf.length < k → pre.length + suf.length < 1099511627776 → (∀ c ∈ suf, bits c) →
    spec_ValidHeap.l1 k x3 pre.length hs d (pre ++ suf) = if suf.all (okc d) = true then r else some false
  | [], pre, k, hk, _, _ => by
    obtain ⟨k, rfl⟩ : ∃ m, k = m + 1 := ⟨k - 1, by omega⟩
    rw [spec_ValidHeap.l1, if_neg (by simp), List.all_nil, if_pos rfl]
    exact hr k (by simp at hk; omega)
  | c :: suf, pre, k, hk, hl, hb => by
    simp only [List.length_cons] at hk hl
    obtain ⟨k, rfl⟩ : ∃ m, k = m + 1 := ⟨k - 1, by omega⟩
    have ih := spec_l1 x3 hs d K r hr suf (pre ++ [c]) k (by omega) (by simp; omega) (fun x hx => hb x (by simp [hx]))
    have hc := hb c (by simp)
    rw [spec_ValidHeap.l1, if_pos (by rw [len_m]; omega), if_pos (by omega)]
    unfold rd_T27
    rw [at_m]
    unfold spec_ValidCell.f
    rw [if_pos ⟨hc.1, hc.2⟩]
    simp only [Option.bind_some]
    rw [show Vc.vcell d c.f0 c.f1.toNat c.f2.toNat = okc d c from rfl, List.all_cons]
    cases h : okc d c with
    | true => rw [if_pos rfl, ix_m pre c (by omega), nx_m pre suf c, ih, Bool.true_and]
    | false => rw [if_neg (by decide), Bool.false_and, if_neg (by decide)]
theorem impl_l1 (hs : List S85) (n x14 d : Int) (cs : List S27) (K : Nat) (r : Option Bool) (hr : ∀ k, K ≤ k → impl_ValidHeap.l0 k hs n (wrap64 (x14 + 1)) = r) : ∀ (suf pre : List S27) (k : Nat), K + suf.length < k → pre.length + suf.length < 1099511627776 → (∀ c ∈ suf, bits c) →
    impl_ValidHeap.l1 k hs n x14 (pre ++ suf) ((pre ++ suf).length : Int) pre.length d cs = if suf.all (okc d) = true then r else some false
  | [], pre, k, hk, _, _ => by
    obtain ⟨k, rfl⟩ : ∃ m, k = m + 1 := ⟨k - 1, by omega⟩
    rw [impl_ValidHeap.l1, if_neg (by simp), List.all_nil, if_pos rfl]
    exact hr k (by simp at hk; omega)
  | c :: suf, pre, k, hk, hl, hb => by
    simp only [List.length_cons] at hk hl
    obtain ⟨k, rfl⟩ : ∃ m, k = m + 1 := ⟨k - 1, by omega⟩
    have ih := impl_l1 hs n x14 d cs K r hr suf (pre ++ [c]) k (by omega) (by simp; omega) (fun x hx => hb x (by simp [hx]))
    have hc := hb c (by simp)
    rw [impl_ValidHeap.l1, if_pos (by rw [len_m]; omega), if_pos (by omega), if_pos (by rw [len_m]; omega)]
    unfold rd_T27
    rw [at_m]
    unfold impl_ValidCell.f
    rw [if_pos ⟨hc.1, hc.2⟩]
    simp only [Option.bind_some]
    rw [show Vc.vcell d c.f0 c.f1.toNat c.f2.toNat = okc d c from rfl, List.all_cons]
    cases h : okc d c with
    | true => rw [if_pos rfl, ix_m pre c (by omega), nx_m pre suf c, ih, Bool.true_and]
    | false => rw [if_neg (by decide), Bool.false_and, if_neg (by decide)]
theorem alike_l0 : ∀ (suf pre : List S85), (∀ s ∈ suf, s.f1.length ≤ 1048576 ∧ ∀ c ∈ s.f1, bits c) → pre.length + suf.length < 1099511627776 →
    ∃ b, ∀ k, 5000 * suf.length + 1 ≤ k → spec_ValidHeap.l0 k pre.length (pre ++ suf) = some b ∧ impl_ValidHeap.l0 k (pre ++ suf) ((pre ++ suf).length : Int) pre.length = some b
  | [], pre, _, _ => by
    refine ⟨true, fun k hk => ?_⟩
    obtain ⟨k, rfl⟩ : ∃ m, k = m + 1 := ⟨k - 1, by omega⟩
    rw [spec_ValidHeap.l0, impl_ValidHeap.l0, if_neg (by simp), if_neg (by simp)]
    exact ⟨rfl, rfl⟩
  | s :: suf, pre, hb, hl => by
    simp only [List.length_cons] at hl
    obtain ⟨b, ih⟩ := alike_l0 suf (pre ++ [s]) (fun x hx => hb x (by simp [hx])) (by simp; omega)
    have hs := hb s (by simp)
    have ix := ix_m pre s (by omega)
    rw [← nx_m, ← ix] at ih
    -- what is answered behind this store
    have bad : ∀ t, ∀ k, 5000 * (s :: suf).length + 1 ≤ k → spec_ValidHeap.j1 (k - 1) pre.length true (pre ++ s :: suf) t.f0 t.f1 = some false ∧ impl_ValidHeap.j1 (k - 1) (pre ++ s :: suf) ((pre ++ s :: suf).length : Int) pre.length true (t : S85).f0 t.f1 = some false := by
      intro t k hk
      simp only [List.length_cons] at hk
      obtain ⟨q, hq⟩ : ∃ q, k - 1 = q + 1 := ⟨k - 2, by omega⟩
      rw [hq, spec_ValidHeap.j1, impl_ValidHeap.j1, if_pos rfl, if_pos rfl]
      exact ⟨rfl, rfl⟩
    have step : ∀ k, 5000 * (s :: suf).length + 1 ≤ k → ∀ R, (∀ q, 5000 * (s :: suf).length ≤ q → (if s.f0 ≥ 1 ∧ s.f0 ≤ 9 then (spec_ValidHeap.j1 q pre.length (decide ((s.f1.length : Int) > 4096)) (pre ++ s :: suf) s.f0 s.f1 = some R ∧ impl_ValidHeap.j1 q (pre ++ s :: suf) ((pre ++ s :: suf).length : Int) pre.length (decide ((s.f1.length : Int) > 4096)) s.f0 s.f1 = some R) else R = false)) →
        spec_ValidHeap.l0 k pre.length (pre ++ s :: suf) = some R ∧ impl_ValidHeap.l0 k (pre ++ s :: suf) ((pre ++ s :: suf).length : Int) pre.length = some R := by
      intro k hk R hR
      have hbad := bad s k hk
      simp only [List.length_cons] at hk
      obtain ⟨k, rfl⟩ : ∃ m, k = m + 1 := ⟨k - 1, by omega⟩
      rw [Nat.add_sub_cancel] at hbad
      have hq := hR k (by simp only [List.length_cons]; omega)
      have rs : rd_T85 (pre ++ s :: suf) (pre.length : Int) = s := at_m _ _ _ _
      have eS : spec_ValidHeap.l0 (k + 1) pre.length (pre ++ s :: suf) = (spec_l1IsDType.f s.f0).bind fun t111 => (if t111 = true then (spec_ValidHeap.j1 k pre.length (decide ((s.f1.length : Int) > 4096)) (pre ++ s :: suf) s.f0 s.f1) else (spec_ValidHeap.j1 k pre.length true (pre ++ s :: suf) s.f0 s.f1)) := by
        rw [spec_ValidHeap.l0, if_pos (by rw [len_m]; omega), if_pos (by omega), rs]
      have eI : impl_ValidHeap.l0 (k + 1) (pre ++ s :: suf) ((pre ++ s :: suf).length : Int) pre.length = (impl_isDType.f s.f0).bind fun t150 => (if t150 = true then (impl_ValidHeap.j1 k (pre ++ s :: suf) ((pre ++ s :: suf).length : Int) pre.length (decide ((s.f1.length : Int) > 4096)) s.f0 s.f1) else (impl_ValidHeap.j1 k (pre ++ s :: suf) ((pre ++ s :: suf).length : Int) pre.length true s.f0 s.f1)) := by
        rw [impl_ValidHeap.l0, if_pos (by rw [len_m]; omega), if_pos (by omega), if_pos (by rw [len_m]; omega), rs]
      rw [eS, eI]
      unfold spec_l1IsDType.f impl_isDType.f
      by_cases c1 : s.f0 ≥ 1
      · rw [if_pos c1]
        simp only [Option.bind_some]
        by_cases c2 : s.f0 ≤ 9
        · rw [if_pos ⟨c1, c2⟩] at hq
          rw [if_pos (decide_eq_true c2), if_pos (decide_eq_true c2)]
          exact hq
        · rw [if_neg (fun h => c2 h.2)] at hq
          subst hq
          rw [if_neg (by simpa using c2), if_neg (by simpa using c2)]
          exact hbad
      · rw [if_neg (fun h => c1 h.1)] at hq
        subst hq
        rw [if_neg c1]
        simp only [Option.bind_some]
        rw [if_neg (by decide), if_neg (by decide)]
        exact hbad
    by_cases g : s.f0 ≥ 1 ∧ s.f0 ≤ 9
    · by_cases c3 : (s.f1.length : Int) > 4096
      · refine ⟨false, fun k hk => step k hk false (fun q hq => ?_)⟩
        rw [if_pos g, decide_eq_true c3]
        exact (show _ ∧ _ by have := bad s (q + 1) (by omega); rwa [Nat.add_sub_cancel] at this)
      · refine ⟨if s.f1.all (okc s.f0) = true then b else false, fun k hk => step k hk _ (fun q hq => ?_)⟩
        simp only [List.length_cons] at hq
        obtain ⟨q, rfl⟩ : ∃ m, q = m + 1 := ⟨q - 1, by omega⟩
        rw [if_pos g, decide_eq_false c3, spec_ValidHeap.j1, impl_ValidHeap.j1, if_neg (show ¬ (false = true) by decide), if_neg (show ¬ (false = true) by decide)]
        have S := spec_l1 pre.length (pre ++ s :: suf) s.f0 (5000 * suf.length + 1) (some b) (fun k hk => (ih k hk).1) s.f1 [] q (by omega) (by simp; omega) hs.2
        have I := impl_l1 (pre ++ s :: suf) ((pre ++ s :: suf).length : Int) pre.length s.f0 s.f1 (5000 * suf.length + 1) (some b) (fun k hk => (ih k hk).2) s.f1 [] q (by omega) (by simp; omega) hs.2
        simp only [List.nil_append, List.length_nil, Int.natCast_zero] at S I
        rw [S, I]
        cases h : s.f1.all (okc s.f0) with
        | true => exact ⟨rfl, rfl⟩
        | false => exact ⟨rfl, rfl⟩
    · refine ⟨false, fun k hk => step k hk false (fun q hq => ?_)⟩
      rw [if_neg g]
theorem alike (hs : List S85) (k : Nat) (hk : 1000000 < k) (hb : ∀ s ∈ hs, s.f1.length ≤ 1048576 ∧ ∀ c ∈ s.f1, bits c) : ∃ b, spec_ValidHeap.f k hs = some b ∧ impl_ValidHeap.f k hs = some b := by
  unfold spec_ValidHeap.f impl_ValidHeap.f
  by_cases c : (hs.length : Int) > 64
  · rw [if_pos c, if_pos c]
    exact ⟨false, rfl, rfl⟩
  · rw [if_neg c, if_neg c]
    obtain ⟨b, h⟩ := alike_l0 hs [] hb (by simp; omega)
    have := h k (by omega)
    simp only [List.nil_append, List.length_nil, Int.natCast_zero] at this
    exact ⟨b, this⟩
theorem law_words (hs : List S166) (h : hs.length ≤ 9223372036854775807) (hb : ∀ s ∈ hs, s.f1.length ≤ 9223372036854775807 ∧ ∀ c ∈ s.f1, c.f1.toNat < 18446744073709551616 ∧ c.f2.toNat < 18446744073709551616) : ∃ k, laws_FnExactValidHeap.f k hs = some true := by
  refine ⟨8000001, ?_⟩
  unfold laws_FnExactValidHeap.f
  obtain ⟨z, hz, hz2⟩ := szH hs 8000001 (by omega) h (fun s hs' => (hb s hs').1)
  rw [hz]; simp only [Option.bind_some]
  by_cases c : z < 0
  · rw [if_pos c]
  · obtain ⟨hl, hc⟩ := hz2.resolve_left c
    have hb2 : ∀ s ∈ hs.map sv, s.f1.length ≤ 1048576 ∧ ∀ c ∈ s.f1, bits c := by
      intro s hs'
      obtain ⟨t, ht, rfl⟩ := List.mem_map.1 hs'
      refine ⟨by simp [sv]; exact hc t ht, fun c hcm => ?_⟩
      obtain ⟨d, hd, rfl⟩ := List.mem_map.1 hcm
      exact (hb t ht).2 d hd
    obtain ⟨b, S, I⟩ := alike (hs.map sv) 8000001 (by omega) hb2
    rw [if_neg c, toH hs _ (by omega) hl hc]; simp only [Option.bind_some]
    rw [S]; simp only [Option.bind_some]
    rw [I]; simp only [Option.bind_some]
    rw [if_neg (by simp), eqH (hs.map sv) _ (by omega) (by simpa using hl) hb2]; simp only [Option.bind_some]
    rw [if_pos trivial]
end Go.Proofs.YtpmdgmnpkdoamabDoor.DFnExactValidHeap
