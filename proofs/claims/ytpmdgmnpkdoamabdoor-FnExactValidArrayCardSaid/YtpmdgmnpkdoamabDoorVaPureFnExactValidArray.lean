/- Proved here: what the words printed for the law on ValidArray come to: the law answers true (plain Lean). Conditions: the lists' lengths and the floats' bits. -/
import Derived.Test.YtpmdgmnpkdoamabDoorVaBFnExactValidArray
namespace Go.Proofs.YtpmdgmnpkdoamabDoor.DFnExactValidArray
open Go.RowKit Go.Proofs.YtpmdgmnpkdoamabDoorW.PrintWords Go.Proofs.YtpmdgmnpkdoamabDoorW.PrintLast Go.Proofs.YtpmdgmnpkdoamabDoorW.PrintMore
set_option linter.unusedVariables false
set_option linter.unusedSimpArgs false
theorem len_m {α : Type} (pre suf : List α) (x : α) : ((pre ++ x :: suf).length : Int) = pre.length + 1 + suf.length := by simp; omega
theorem nx_m {α : Type} (pre suf : List α) (x : α) : pre ++ x :: suf = (pre ++ [x]) ++ suf := by simp
theorem at_m {α : Type} (d : α) (pre suf : List α) (x : α) : (pre ++ x :: suf).getD (pre.length : Int).toNat d = x := by simp
theorem ix_m {α : Type} (pre : List α) (x : α) (h : pre.length < 1099511627776) : wrap64 ((pre.length : Int) + 1) = ((pre ++ [x]).length : Int) := by rw [w_id (by omega) (by omega)]; simp
theorem set_m {α : Type} (pre suf : List α) (x y : α) : (pre ++ x :: suf).set (pre.length : Int).toNat y = (pre ++ [y]) ++ suf := by simp
/-! ### sizes -/
theorem sz_l0 : ∀ (suf pre : List S166) (k : Nat) (a : Int), suf.length < k → pre.length + suf.length < 1099511627776 → 0 ≤ a → a ≤ 1048576 → (∀ s ∈ suf, s.f1.length ≤ 9223372036854775807) →
    ∃ z, laws_szStoreS.l0 k (pre ++ suf) a pre.length = some z ∧ z ≤ 1048576 ∧ (z < 0 ∨ ∀ s ∈ suf, s.f1.length ≤ 1048576)
  | [], pre, k, a, hk, _, _, h1, _ => by
    obtain ⟨k, rfl⟩ : ∃ m, k = m + 1 := ⟨k - 1, by omega⟩
    rw [laws_szStoreS.l0, if_neg (by simp)]
    exact ⟨a, rfl, h1, .inr (by simp)⟩
  | s :: suf, pre, k, a, hk, hl, h0, h1, hs => by
    simp only [List.length_cons] at hk hl
    obtain ⟨k, rfl⟩ : ∃ m, k = m + 1 := ⟨k - 1, by omega⟩
    have hm := hs s (by simp)
    have e : wrap64 (a - (s.f1.length : Int)) = a - (s.f1.length : Int) := w_id (by omega) (by omega)
    rw [laws_szStoreS.l0, if_pos (by rw [len_m]; omega), if_pos (by omega)]
    unfold rd_T166
    rw [at_m]
    unfold laws_szStore.f laws_szCellS.f
    rw [e]
    by_cases c : a - (s.f1.length : Int) < 0
    · rw [if_pos c]
      simp only [Option.bind_some]
      rw [if_pos (by omega)]
      simp only [Option.bind_some]
      rw [if_pos (by omega)]
      exact ⟨-1, rfl, by omega, .inl (by omega)⟩
    · rw [if_neg c]
      simp only [Option.bind_some]
      rw [if_neg c]
      simp only [Option.bind_some]
      rw [if_neg c, ix_m pre s (by omega), nx_m pre suf s]
      obtain ⟨z, hz, hz1, hb⟩ := sz_l0 suf (pre ++ [s]) k (a - (s.f1.length : Int)) (by omega) (by simp; omega) (by omega) (by omega) (fun x hx => hs x (by simp [hx]))
      refine ⟨z, hz, hz1, hb.imp id (fun hb x hx => ?_)⟩
      rcases List.mem_cons.1 hx with rfl | hx
      · omega
      · exact hb x hx
theorem szH (hs : List S166) (k : Nat) (hk : 1048576 < k) (h : hs.length ≤ 9223372036854775807) (hb : ∀ s ∈ hs, s.f1.length ≤ 9223372036854775807) :
    ∃ z, laws_szHeap.f k hs 1048576 = some z ∧ z ≤ 1048576 ∧ (z < 0 ∨ (hs.length ≤ 1048576 ∧ ∀ s ∈ hs, s.f1.length ≤ 1048576)) := by
  unfold laws_szHeap.f laws_szStoreS.f
  have e : wrap64 (1048576 - (hs.length : Int)) = 1048576 - (hs.length : Int) := w_id (by omega) (by omega)
  rw [e]
  by_cases c : 1048576 - (hs.length : Int) < 0
  · rw [if_pos c]
    simp only [Option.bind_some]
    rw [if_pos (by omega)]
    exact ⟨-1, rfl, by omega, .inl (by omega)⟩
  · rw [if_neg c]
    obtain ⟨z, hz, hz1, hz2⟩ := sz_l0 hs [] k (1048576 - (hs.length : Int)) (by omega) (by simp; omega) (by omega) (by omega) hb
    have hz' : laws_szStoreS.l0 k hs (1048576 - (hs.length : Int)) 0 = some z := by simpa using hz
    rw [hz']
    simp only [Option.bind_some]
    by_cases c2 : z < 0
    · rw [if_pos c2]
      exact ⟨-1, rfl, by omega, .inl (by omega)⟩
    · rw [if_neg c2]
      exact ⟨z, rfl, hz1, .inr ⟨by omega, hz2.resolve_left c2⟩⟩
/-! ### copies -/
def cv (c : S25) : S27 := ⟨c.f0, c.f1, c.f2⟩
def sv (s : S166) : S85 := ⟨s.f0, s.f1.map cv⟩
theorem toC_l0 : ∀ (suf pre : List S25) (k : Nat), suf.length < k → pre.length + suf.length < 1099511627776 → laws_toCellS.l0 k (pre ++ suf) (pre.map cv ++ List.replicate suf.length z27) pre.length = some ((pre ++ suf).map cv)
  | [], pre, k, hk, _ => by
    obtain ⟨k, rfl⟩ : ∃ m, k = m + 1 := ⟨k - 1, by omega⟩
    rw [laws_toCellS.l0, if_neg (by simp)]
    simp
  | c :: suf, pre, k, hk, hl => by
    simp only [List.length_cons] at hk hl
    obtain ⟨k, rfl⟩ : ∃ m, k = m + 1 := ⟨k - 1, by omega⟩
    have ih := toC_l0 suf (pre ++ [c]) k (by omega) (by simp; omega)
    rw [laws_toCellS.l0, if_pos (by rw [len_m]; omega), if_pos (by omega)]
    unfold rd_T25
    rw [at_m]
    unfold laws_toCell.f
    simp only [Option.bind_some]
    have e : (pre.map cv ++ List.replicate (c :: suf).length z27).set (pre.length : Int).toNat (cv c) = (pre ++ [c]).map cv ++ List.replicate suf.length z27 := by
      rw [List.length_cons, List.replicate_succ]
      have := set_m (pre.map cv) (List.replicate suf.length z27) z27 (cv c)
      rw [List.length_map] at this
      rw [this]
      simp
    rw [if_pos (by simp; omega), ix_m pre c (by omega), nx_m pre suf c]
    have e' := e
    unfold cv at e'
    rw [show ((⟨c.f0, c.f1, c.f2⟩ : S27)) = cv c from rfl, e]
    exact ih
theorem toC (xs : List S25) (k : Nat) (hk : xs.length < k) (hl : xs.length ≤ 1048576) : laws_toCellS.f k xs = some (xs.map cv) := by
  unfold laws_toCellS.f
  rw [if_pos (by omega), if_pos (by omega)]
  have := toC_l0 xs [] k hk (by simp; omega)
  simpa using this
theorem toS_l0 : ∀ (suf pre : List S166) (k : Nat), 1048576 + suf.length < k → pre.length + suf.length < 1099511627776 → (∀ s ∈ suf, s.f1.length ≤ 1048576) →
    laws_toStoreS.l0 k (pre ++ suf) (pre.map sv ++ List.replicate suf.length z85) pre.length = some ((pre ++ suf).map sv)
  | [], pre, k, hk, _, _ => by
    obtain ⟨k, rfl⟩ : ∃ m, k = m + 1 := ⟨k - 1, by omega⟩
    rw [laws_toStoreS.l0, if_neg (by simp)]
    simp
  | s :: suf, pre, k, hk, hl, hs => by
    simp only [List.length_cons] at hk hl
    obtain ⟨k, rfl⟩ : ∃ m, k = m + 1 := ⟨k - 1, by omega⟩
    have ih := toS_l0 suf (pre ++ [s]) k (by omega) (by simp; omega) (fun x hx => hs x (by simp [hx]))
    have hsl := hs s (by simp)
    rw [laws_toStoreS.l0, if_pos (by rw [len_m]; omega), if_pos (by omega)]
    unfold rd_T166
    rw [at_m]
    unfold laws_toStore.f
    rw [toC s.f1 k (by omega) hsl]
    simp only [Option.bind_some]
    have e : (pre.map sv ++ List.replicate (s :: suf).length z85).set (pre.length : Int).toNat (sv s) = (pre ++ [s]).map sv ++ List.replicate suf.length z85 := by
      rw [List.length_cons, List.replicate_succ]
      have := set_m (pre.map sv) (List.replicate suf.length z85) z85 (sv s)
      rw [List.length_map] at this
      rw [this]
      simp
    rw [if_pos (by simp; omega), ix_m pre s (by omega), nx_m pre suf s, show ((⟨s.f0, s.f1.map cv⟩ : S85)) = sv s from rfl, e]
    exact ih
theorem toH (hs : List S166) (k : Nat) (hk : 2097152 < k) (hl : hs.length ≤ 1048576) (hb : ∀ s ∈ hs, s.f1.length ≤ 1048576) : laws_toHeap.f k hs = some (hs.map sv) := by
  unfold laws_toHeap.f laws_toStoreS.f
  rw [if_pos (by omega), if_pos (by omega)]
  have := toS_l0 hs [] k (by omega) (by simp; omega) hb
  have h2 : laws_toStoreS.l0 k hs (List.replicate (((hs.length : Int) : Int)).toNat z85) 0 = some (hs.map sv) := by simpa using this
  rw [h2]
  rfl
/-! ### the same again -/
def bits (c : S27) : Prop := c.f1.toNat < 18446744073709551616 ∧ c.f2.toNat < 18446744073709551616
theorem same_self (x : Int) (h : x.toNat < 18446744073709551616) : laws_sameFloat.f x x = some true := by
  unfold laws_sameFloat.f
  rw [if_pos ⟨h, h⟩, Vc.same_self]
theorem eqC_l0 : ∀ (suf pre : List S27) (k : Nat), suf.length < k → pre.length + suf.length < 1099511627776 → (∀ c ∈ suf, bits c) → laws_eqCellS.l0 k (pre ++ suf) (pre ++ suf) pre.length = some true
  | [], pre, k, hk, _, _ => by
    obtain ⟨k, rfl⟩ : ∃ m, k = m + 1 := ⟨k - 1, by omega⟩
    rw [laws_eqCellS.l0, if_neg (by simp)]
  | c :: suf, pre, k, hk, hl, hb => by
    simp only [List.length_cons] at hk hl
    obtain ⟨k, rfl⟩ : ∃ m, k = m + 1 := ⟨k - 1, by omega⟩
    have ih := eqC_l0 suf (pre ++ [c]) k (by omega) (by simp; omega) (fun x hx => hb x (by simp [hx]))
    have hc := hb c (by simp)
    rw [laws_eqCellS.l0, if_pos (by rw [len_m]; omega), if_pos (by omega), if_pos (by rw [len_m]; omega)]
    unfold rd_T27
    rw [at_m]
    unfold laws_eqCell.f
    rw [if_pos rfl, same_self _ hc.1]
    simp only [Option.bind_some]
    rw [if_pos trivial, same_self _ hc.2]
    simp only [Option.bind_some]
    rw [if_pos trivial]
    simp only [Option.bind_some]
    rw [if_pos trivial, ix_m pre c (by omega), nx_m pre suf c, ih]
theorem eqS_l0 : ∀ (suf pre : List S85) (k : Nat), 1048576 + suf.length < k → pre.length + suf.length < 1099511627776 → (∀ s ∈ suf, s.f1.length ≤ 1048576 ∧ ∀ c ∈ s.f1, bits c) → laws_eqStoreS.l0 k (pre ++ suf) (pre ++ suf) pre.length = some true
  | [], pre, k, hk, _, _ => by
    obtain ⟨k, rfl⟩ : ∃ m, k = m + 1 := ⟨k - 1, by omega⟩
    rw [laws_eqStoreS.l0, if_neg (by simp)]
  | s :: suf, pre, k, hk, hl, hb => by
    simp only [List.length_cons] at hk hl
    obtain ⟨k, rfl⟩ : ∃ m, k = m + 1 := ⟨k - 1, by omega⟩
    have ih := eqS_l0 suf (pre ++ [s]) k (by omega) (by simp; omega) (fun x hx => hb x (by simp [hx]))
    have hs := hb s (by simp)
    have hc : laws_eqCellS.l0 k s.f1 s.f1 0 = some true := by simpa using eqC_l0 s.f1 [] k (by omega) (by simp; omega) hs.2
    rw [laws_eqStoreS.l0, if_pos (by rw [len_m]; omega), if_pos (by omega), if_pos (by rw [len_m]; omega)]
    unfold rd_T85
    rw [at_m]
    unfold laws_eqStore.f laws_eqCellS.f
    rw [if_pos rfl, if_pos rfl, hc]
    simp only [Option.bind_some]
    rw [if_pos trivial]
    simp only [Option.bind_some]
    rw [if_pos trivial, ix_m pre s (by omega), nx_m pre suf s, ih]
theorem eqH (hs : List S85) (k : Nat) (hk : 2097152 < k) (hl : hs.length ≤ 1048576) (hb : ∀ s ∈ hs, s.f1.length ≤ 1048576 ∧ ∀ c ∈ s.f1, bits c) : laws_eqHeap.f k hs hs = some true := by
  unfold laws_eqHeap.f laws_eqStoreS.f
  have h : laws_eqStoreS.l0 k hs hs 0 = some true := by simpa using eqS_l0 hs [] k (by omega) (by simp; omega) hb
  rw [if_pos rfl, h]
  rfl
/-! ### the two answer alike -/
def okc (d : Int) (c : S27) : Bool := Vc.vcell d c.f0 c.f1.toNat c.f2.toNat
theorem spec_l1 (x3 : Int) (hs : List S85) (d : Int) (K : Nat) (r : Option Bool) (hr : ∀ k, K ≤ k → spec_ValidHeap.l0 k (wrap64 (x3 + 1)) hs = r) : ∀ (suf pre : List S27) (k : Nat), K + suf.length < k → pre.length + suf.length < 1099511627776 → (∀ c ∈ suf, bits c) →
    spec_ValidHeap.l1 k x3 pre.length hs d (pre ++ suf) = if suf.all (okc d) = true then r else some false
  | [], pre, k, hk, _, _ => by
    obtain ⟨k, rfl⟩ : ∃ m, k = m + 1 := ⟨k - 1, by omega⟩
    rw [spec_ValidHeap.l1, if_neg (by simp), List.all_nil, if_pos rfl]
    exact hr k (by simp at hk; omega)
  | c :: suf, pre, k, hk, hl, hb => by
    simp only [List.length_cons] at hk hl
    obtain ⟨k, rfl⟩ : ∃ m, k = m + 1 := ⟨k - 1, by omega⟩
    have ih := spec_l1 x3 hs d K r hr suf (pre ++ [c]) k (by omega) (by simp; omega) (fun x hx => hb x (by simp [hx]))
    have hc := hb c (by simp)
    rw [spec_ValidHeap.l1, if_pos (by rw [len_m]; omega), if_pos (by omega)]
    unfold rd_T27
    rw [at_m]
    unfold spec_ValidCell.f
    rw [if_pos ⟨hc.1, hc.2⟩]
    simp only [Option.bind_some]
    rw [show Vc.vcell d c.f0 c.f1.toNat c.f2.toNat = okc d c from rfl, List.all_cons]
    cases h : okc d c with
    | true => rw [if_pos rfl, ix_m pre c (by omega), nx_m pre suf c, ih, Bool.true_and]
    | false => rw [if_neg (by decide), Bool.false_and, if_neg (by decide)]
theorem impl_l1 (hs : List S85) (n x14 d : Int) (cs : List S27) (K : Nat) (r : Option Bool) (hr : ∀ k, K ≤ k → impl_ValidHeap.l0 k hs n (wrap64 (x14 + 1)) = r) : ∀ (suf pre : List S27) (k : Nat), K + suf.length < k → pre.length + suf.length < 1099511627776 → (∀ c ∈ suf, bits c) →
    impl_ValidHeap.l1 k hs n x14 (pre ++ suf) ((pre ++ suf).length : Int) pre.length d cs = if suf.all (okc d) = true then r else some false
  | [], pre, k, hk, _, _ => by
    obtain ⟨k, rfl⟩ : ∃ m, k = m + 1 := ⟨k - 1, by omega⟩
    rw [impl_ValidHeap.l1, if_neg (by simp), List.all_nil, if_pos rfl]
    exact hr k (by simp at hk; omega)
  | c :: suf, pre, k, hk, hl, hb => by
    simp only [List.length_cons] at hk hl
    obtain ⟨k, rfl⟩ : ∃ m, k = m + 1 := ⟨k - 1, by omega⟩
    have ih := impl_l1 hs n x14 d cs K r hr suf (pre ++ [c]) k (by omega) (by simp; omega) (fun x hx => hb x (by simp [hx]))
    have hc := hb c (by simp)
    rw [impl_ValidHeap.l1, if_pos (by rw [len_m]; omega), if_pos (by omega), if_pos (by rw [len_m]; omega)]
    unfold rd_T27
    rw [at_m]
    unfold impl_ValidCell.f
    rw [if_pos ⟨hc.1, hc.2⟩]
    simp only [Option.bind_some]
    rw [show Vc.vcell d c.f0 c.f1.toNat c.f2.toNat = okc d c from rfl, List.all_cons]
    cases h : okc d c with
    | true => rw [if_pos rfl, ix_m pre c (by omega), nx_m pre suf c, ih, Bool.true_and]
    | false => rw [if_neg (by decide), Bool.false_and, if_neg (by decide)]
theorem alike_l0 : ∀ (suf pre : List S85), (∀ s ∈ suf, s.f1.length ≤ 1048576 ∧ ∀ c ∈ s.f1, bits c) → pre.length + suf.length < 1099511627776 →
    ∃ b, ∀ k, 5000 * suf.length + 1 ≤ k → spec_ValidHeap.l0 k pre.length (pre ++ suf) = some b ∧ impl_ValidHeap.l0 k (pre ++ suf) ((pre ++ suf).length : Int) pre.length = some b
  | [], pre, _, _ => by
    refine ⟨true, fun k hk => ?_⟩
    obtain ⟨k, rfl⟩ : ∃ m, k = m + 1 := ⟨k - 1, by omega⟩
    rw [spec_ValidHeap.l0, impl_ValidHeap.l0, if_neg (by simp), if_neg (by simp)]
    exact ⟨rfl, rfl⟩
  | s :: suf, pre, hb, hl => by
    simp only [List.length_cons] at hl
    obtain ⟨b, ih⟩ := alike_l0 suf (pre ++ [s]) (fun x hx => hb x (by simp [hx])) (by simp; omega)
    have hs := hb s (by simp)
    have ix := ix_m pre s (by omega)
    rw [← nx_m, ← ix] at ih
    -- what is answered behind this store
    have bad : ∀ t, ∀ k, 5000 * (s :: suf).length + 1 ≤ k → spec_ValidHeap.j1 (k - 1) pre.length true (pre ++ s :: suf) t.f0 t.f1 = some false ∧ impl_ValidHeap.j1 (k - 1) (pre ++ s :: suf) ((pre ++ s :: suf).length : Int) pre.length true (t : S85).f0 t.f1 = some false := by
      intro t k hk
      simp only [List.length_cons] at hk
      obtain ⟨q, hq⟩ : ∃ q, k - 1 = q + 1 := ⟨k - 2, by omega⟩
      rw [hq, spec_ValidHeap.j1, impl_ValidHeap.j1, if_pos rfl, if_pos rfl]
      exact ⟨rfl, rfl⟩
    have step : ∀ k, 5000 * (s :: suf).length + 1 ≤ k → ∀ R, (∀ q, 5000 * (s :: suf).length ≤ q → (if s.f0 ≥ 1 ∧ s.f0 ≤ 9 then (spec_ValidHeap.j1 q pre.length (decide ((s.f1.length : Int) > 4096)) (pre ++ s :: suf) s.f0 s.f1 = some R ∧ impl_ValidHeap.j1 q (pre ++ s :: suf) ((pre ++ s :: suf).length : Int) pre.length (decide ((s.f1.length : Int) > 4096)) s.f0 s.f1 = some R) else R = false)) →
        spec_ValidHeap.l0 k pre.length (pre ++ s :: suf) = some R ∧ impl_ValidHeap.l0 k (pre ++ s :: suf) ((pre ++ s :: suf).length : Int) pre.length = some R := by
      intro k hk R hR
      have hbad := bad s k hk
      simp only [List.length_cons] at hk
      obtain ⟨k, rfl⟩ : ∃ m, k = m + 1 := ⟨k - 1, by omega⟩
      rw [Nat.add_sub_cancel] at hbad
      have hq := hR k (by simp only [List.length_cons]; omega)
      have rs : rd_T85 (pre ++ s :: suf) (pre.length : Int) = s := at_m _ _ _ _
      have eS : spec_ValidHeap.l0 (k + 1) pre.length (pre ++ s :: suf) = (spec_l1IsDType.f s.f0).bind fun t111 => (if t111 = true then (spec_ValidHeap.j1 k pre.length (decide ((s.f1.length : Int) > 4096)) (pre ++ s :: suf) s.f0 s.f1) else (spec_ValidHeap.j1 k pre.length true (pre ++ s :: suf) s.f0 s.f1)) := by
        rw [spec_ValidHeap.l0, if_pos (by rw [len_m]; omega), if_pos (by omega), rs]
      have eI : impl_ValidHeap.l0 (k + 1) (pre ++ s :: suf) ((pre ++ s :: suf).length : Int) pre.length = (impl_isDType.f s.f0).bind fun t150 => (if t150 = true then (impl_ValidHeap.j1 k (pre ++ s :: suf) ((pre ++ s :: suf).length : Int) pre.length (decide ((s.f1.length : Int) > 4096)) s.f0 s.f1) else (impl_ValidHeap.j1 k (pre ++ s :: suf) ((pre ++ s :: suf).length : Int) pre.length true s.f0 s.f1)) := by
        rw [impl_ValidHeap.l0, if_pos (by rw [len_m]; omega), if_pos (by omega), if_pos (by rw [len_m]; omega), rs]
      rw [eS, eI]
      unfold spec_l1IsDType.f impl_isDType.f
      by_cases c1 : s.f0 ≥ 1
      · rw [if_pos c1]
        simp only [Option.bind_some]
        by_cases c2 : s.f0 ≤ 9
        · rw [if_pos ⟨c1, c2⟩] at hq
          rw [if_pos (decide_eq_true c2), if_pos (decide_eq_true c2)]
          exact hq
        · rw [if_neg (fun h => c2 h.2)] at hq
          subst hq
          rw [if_neg (by simpa using c2), if_neg (by simpa using c2)]
          exact hbad
      · rw [if_neg (fun h => c1 h.1)] at hq
        subst hq
        rw [if_neg c1]
        simp only [Option.bind_some]
        rw [if_neg (by decide), if_neg (by decide)]
        exact hbad
    by_cases g : s.f0 ≥ 1 ∧ s.f0 ≤ 9
    · by_cases c3 : (s.f1.length : Int) > 4096
      · refine ⟨false, fun k hk => step k hk false (fun q hq => ?_)⟩
        rw [if_pos g, decide_eq_true c3]
        exact (show _ ∧ _ by have := bad s (q + 1) (by omega); rwa [Nat.add_sub_cancel] at this)
      · refine ⟨if s.f1.all (okc s.f0) = true then b else false, fun k hk => step k hk _ (fun q hq => ?_)⟩
        simp only [List.length_cons] at hq
        obtain ⟨q, rfl⟩ : ∃ m, q = m + 1 := ⟨q - 1, by omega⟩
        rw [if_pos g, decide_eq_false c3, spec_ValidHeap.j1, impl_ValidHeap.j1, if_neg (show ¬ (false = true) by decide), if_neg (show ¬ (false = true) by decide)]
        have S := spec_l1 pre.length (pre ++ s :: suf) s.f0 (5000 * suf.length + 1) (some b) (fun k hk => (ih k hk).1) s.f1 [] q (by omega) (by simp; omega) hs.2
        have I := impl_l1 (pre ++ s :: suf) ((pre ++ s :: suf).length : Int) pre.length s.f0 s.f1 (5000 * suf.length + 1) (some b) (fun k hk => (ih k hk).2) s.f1 [] q (by omega) (by simp; omega) hs.2
        simp only [List.nil_append, List.length_nil, Int.natCast_zero] at S I
        rw [S, I]
        cases h : s.f1.all (okc s.f0) with
        | true => exact ⟨rfl, rfl⟩
        | false => exact ⟨rfl, rfl⟩
    · refine ⟨false, fun k hk => step k hk false (fun q hq => ?_)⟩
      rw [if_neg g]
theorem alike (hs : List S85) (k : Nat) (hk : 1000000 < k) (hb : ∀ s ∈ hs, s.f1.length ≤ 1048576 ∧ ∀ c ∈ s.f1, bits c) : ∃ b, spec_ValidHeap.f k hs = some b ∧ impl_ValidHeap.f k hs = some b := by
  unfold spec_ValidHeap.f impl_ValidHeap.f
  by_cases c : (hs.length : Int) > 64
  · rw [if_pos c, if_pos c]
    exact ⟨false, rfl, rfl⟩
  · rw [if_neg c, if_neg c]
    obtain ⟨b, h⟩ := alike_l0 hs [] hb (by simp; omega)
    have := h k (by omega)
    simp only [List.nil_append, List.length_nil, Int.natCast_zero] at this
    exact ⟨b, this⟩
/-! ### arrays -/
theorem pl_eq : ∀ (xs ys : List Int) (o : Int), Odo.places xs ys o = places xs ys o
  | [], ys, o => by simp [places, Odo.places]
  | _ :: _, [], o => by simp [places, Odo.places]
  | n :: ns, s :: ss, o => by
    simp only [places, Odo.places]
    congr 1
    funext i
    exact pl_eq ns ss _
theorem pr_eq : ∀ xs : List Int, Odo.pr xs = cnt xs
  | [] => rfl
  | x :: xs => by simp only [Odo.pr, cnt, pr_eq xs]
/-- What a valid view's places are. -/
def offs (xs ys : List Int) (o : Int) : List Int := if cnt xs = 0 then [] else places xs ys o
theorem offs_len {xs ys : List Int} {o : Int} (h : VV xs ys o) : (offs xs ys o).length ≤ 4096 := by
  obtain ⟨g, l, o0, o1, oy, r⟩ := h
  unfold offs
  split
  · simp
  · have := places_len xs ys o (by omega) g.2.1
    have := g.2.2
    omega
theorem good_of {xs ys : List Int} {o : Int} (h : VV xs ys o) : Odo.Good xs ys o (cnt xs) := by
  obtain ⟨g, l, o0, o1, oy, r⟩ := h
  refine ⟨l, g.1, fun hc => ⟨pos_of_cnt g.2.1 hc, oy, by rw [pr_eq]; exact g.2.2, ?_⟩⟩
  intro x hx
  rw [pl_eq] at hx
  exact r hc x hx
theorem placesOf_eq (xs ys : List Int) (o : Int) : Odo.placesOf xs ys o (cnt xs) = offs xs ys o := by
  unfold Odo.placesOf offs
  rw [pl_eq]
theorem spec_offs {xs ys : List Int} {o : Int} (h : VV xs ys o) (k : Nat) (hk : 100000 ≤ k) : spec_l2Offsets.f k xs ys o = some (offs xs ys o) := by
  obtain ⟨g, l, o0, o1, oy, r⟩ := h
  have h4 := g.1
  unfold spec_l2Offsets.f offs
  rw [(l2count_f k xs (by omega)).1 g]
  simp only [Option.bind_some]
  by_cases hc : cnt xs = 0
  · rw [if_pos hc, if_pos hc]
  · rw [if_neg hc, if_neg hc]
    have hnd := need_le xs g.2.1
    have P := places_f xs ys o xs ys [] [] k o rfl rfl rfl (by omega) (by omega) (by simpa using g.1) g.2.1 (pos_of_cnt g.2.1 hc) oy g.2.2 (by omega) (by omega)
    simp only [List.length_nil, Int.natCast_zero] at P
    rw [P]; rfl
theorem g_l0 (hs : List S85) (a : Int) (xs ys : List Int) (o : Int) (ha0 : 0 ≤ a) (ha1 : a < (hs.length : Int)) : ∀ (suf pre : List Int) (k : Nat), suf.length < k → pre.length + suf.length < 1099511627776 → (∀ p ∈ pre, p < ((rd_T85 hs a).f1.length : Int)) →
    spec_l4Good.l0 k (pre ++ suf) pre.length hs a xs ys o = some (decide (∀ p ∈ pre ++ suf, p < ((rd_T85 hs a).f1.length : Int)))
  | [], pre, k, hk, _, hp => by
    obtain ⟨k, rfl⟩ : ∃ m, k = m + 1 := ⟨k - 1, by omega⟩
    rw [spec_l4Good.l0, if_neg (by simp), decide_eq_true (by simpa using hp)]
  | p :: suf, pre, k, hk, hl, hp => by
    simp only [List.length_cons] at hk hl
    obtain ⟨k, rfl⟩ : ∃ m, k = m + 1 := ⟨k - 1, by omega⟩
    rw [spec_l4Good.l0, if_pos (by rw [len_m]; omega), if_pos (show (0 : Int) ≤ (pre.length : Int) by omega), if_pos ha0, if_pos ha1]
    have hr : rd (pre ++ p :: suf) (pre.length : Int) = p := by simp [rd]
    rw [hr]
    by_cases c : p ≥ ((rd_T85 hs a).f1.length : Int)
    · rw [if_pos c, decide_eq_false (fun h => by have := h p (by simp); omega)]
    · have ih := g_l0 hs a xs ys o ha0 ha1 suf (pre ++ [p]) k (by omega) (by simp; omega) (fun x hx => by
        rcases List.mem_append.1 hx with h | h
        · exact hp x h
        · obtain rfl : x = p := by simpa using h
          omega)
      rw [if_neg c, ix_m pre p (by omega), nx_m pre suf p, ih]
theorem alike_fits (hs : List S85) (a : Int) (xs ys : List Int) (o : Int) (k : Nat) (hx : xs.length ≤ 1048576) (hy : ys.length ≤ 1048576) (hk : 4000000 < k) :
    ∃ b, spec_l4Good.f k hs a xs ys o = some b ∧ impl_fits.f k hs a xs ys o = some b := by
  obtain ⟨k, rfl⟩ : ∃ m, k = m + 1 := ⟨k - 1, by omega⟩
  have bad : spec_l4Good.j0 (k + 1) true hs a xs ys o = some false := by rw [spec_l4Good.j0, if_pos rfl]
  unfold spec_l4Good.f impl_fits.f
  by_cases c1 : a < 0
  · rw [if_pos c1, if_pos (.inl c1)]
    exact ⟨false, bad, rfl⟩
  rw [if_neg c1]
  by_cases c2 : a ≥ (hs.length : Int)
  · rw [if_pos c2, if_pos (.inr c2)]
    exact ⟨false, bad, rfl⟩
  rw [if_neg c2, if_neg (show ¬ (a < 0 ∨ (hs.length : Int) ≤ a) by omega)]
  obtain ⟨b, h1, h2, h3⟩ := vv_alike (k + 1) xs ys o (by omega)
  rw [h1, h2]
  simp only [Option.bind_some]
  cases b with
  | false => exact ⟨false, bad, rfl⟩
  | true =>
    have v := h3 rfl
    have ln := offs_len v
    have h4 := v.1.1
    have G : spec_l4Good.l0 k (offs xs ys o) 0 hs a xs ys o = some (decide (∀ p ∈ offs xs ys o, p < ((rd_T85 hs a).f1.length : Int))) := by simpa using g_l0 hs a xs ys o (by omega) (by omega) (offs xs ys o) [] k (by omega) (by simp; omega) (by simp)
    rw [show (!true) = false from rfl, spec_l4Good.j0, if_neg (by decide), spec_offs v k (by omega)]
    simp only [Option.bind_some]
    rw [G, if_pos trivial, count_f (k + 1) xs (by omega) h4 v.1.2.1]
    simp only [Option.bind_some]
    rw [if_pos (good_of v), placesOf_eq]
    exact ⟨_, rfl, rfl⟩
theorem alike_va (hs : List S85) (a : Int) (xs ys : List Int) (o : Int) (k : Nat) (hx : xs.length ≤ 1048576) (hy : ys.length ≤ 1048576) (hk : 4000000 < k) (hb : ∀ s ∈ hs, s.f1.length ≤ 1048576 ∧ ∀ c ∈ s.f1, bits c) :
    ∃ b, spec_ValidArray.f k hs a xs ys o = some b ∧ impl_ValidArray.f k hs a xs ys o = some b := by
  obtain ⟨b, S, I⟩ := alike hs k (by omega) hb
  obtain ⟨b2, S2, I2⟩ := alike_fits hs a xs ys o k hx hy hk
  unfold spec_ValidArray.f impl_ValidArray.f
  rw [S, I]
  simp only [Option.bind_some]
  cases b with
  | false => exact ⟨false, rfl, rfl⟩
  | true =>
    rw [if_pos rfl, if_pos rfl, S2, I2]
    exact ⟨b2, rfl, rfl⟩
theorem szA (xs ys : List Int) (o a c : Int) (c0 : 0 ≤ c) (c1 : c ≤ 1048576) (h1 : xs.length ≤ 9223372036854775807) (h2 : ys.length ≤ 9223372036854775807) : ∃ z, laws_szArray.f a xs ys o c = some z ∧ (z < 0 ∨ (xs.length ≤ 1048576 ∧ ys.length ≤ 1048576)) := by
  unfold laws_szArray.f laws_szView.f laws_szInt64S.f
  rw [w_id (n := c - (xs.length : Int)) (by omega) (by omega)]
  by_cases d1 : c - (xs.length : Int) < 0
  · rw [if_pos d1]
    exact ⟨-1, rfl, .inl (by omega)⟩
  · rw [if_neg d1]
    simp only [Option.bind_some]
    rw [if_neg d1, w_id (n := c - (xs.length : Int) - (ys.length : Int)) (by omega) (by omega)]
    by_cases d2 : c - (xs.length : Int) - (ys.length : Int) < 0
    · rw [if_pos d2]
      exact ⟨-1, rfl, .inl (by omega)⟩
    · rw [if_neg d2]
      simp only [Option.bind_some]
      rw [if_neg d2]
      simp only [Option.bind_some]
      rw [if_neg d2]
      exact ⟨_, rfl, .inr ⟨by omega, by omega⟩⟩
theorem toA (k : Nat) (a : Int) (xs ys : List Int) (o : Int) (hx : xs.length ≤ 1048576) (hy : ys.length ≤ 1048576) (hk : 1048576 < k) : laws_toArray.f k a xs ys o = some (a, xs, ys, o) := by
  unfold laws_toArray.f
  rw [toV k xs ys o hx hy hk]; rfl
theorem eqA (k : Nat) (a : Int) (xs ys : List Int) (o : Int) (hx : xs.length ≤ 1048576) (hy : ys.length ≤ 1048576) (hk : 1048576 < k) : laws_eqArray.f k a xs ys o a xs ys o = some true := by
  unfold laws_eqArray.f
  rw [if_pos rfl, eqV k xs ys o hx hy hk]; rfl
theorem law_words (hs : List S166) (a : Int) (xs ys : List Int) (o : Int) (h : hs.length ≤ 9223372036854775807) (hb : ∀ s ∈ hs, s.f1.length ≤ 9223372036854775807 ∧ ∀ c ∈ s.f1, c.f1.toNat < 18446744073709551616 ∧ c.f2.toNat < 18446744073709551616)
    (h1 : xs.length ≤ 9223372036854775807) (h2 : ys.length ≤ 9223372036854775807) : ∃ k, laws_FnExactValidArray.f k hs a xs ys o = some true := by
  refine ⟨8000001, ?_⟩
  unfold laws_FnExactValidArray.f
  obtain ⟨z, hz, hz1, hz2⟩ := szH hs 8000001 (by omega) h (fun s hs' => (hb s hs').1)
  rw [hz]; simp only [Option.bind_some]
  by_cases c : z < 0
  · rw [if_pos c]
  · obtain ⟨hl, hc⟩ := hz2.resolve_left c
    obtain ⟨y, hy, hy2⟩ := szA xs ys o a z (by omega) hz1 h1 h2
    rw [if_neg c, hy]; simp only [Option.bind_some]
    by_cases d : y < 0
    · rw [if_pos d]
    · obtain ⟨bx, by'⟩ := hy2.resolve_left d
      have hb2 : ∀ s ∈ hs.map sv, s.f1.length ≤ 1048576 ∧ ∀ c ∈ s.f1, bits c := by
        intro s hs'
        obtain ⟨t, ht, rfl⟩ := List.mem_map.1 hs'
        refine ⟨by simp [sv]; exact hc t ht, fun c hcm => ?_⟩
        obtain ⟨d, hd, rfl⟩ := List.mem_map.1 hcm
        exact (hb t ht).2 d hd
      obtain ⟨b, S, I⟩ := alike_va (hs.map sv) a xs ys o 8000001 bx by' (by omega) hb2
      rw [if_neg d, toH hs _ (by omega) hl hc]; simp only [Option.bind_some]
      rw [toA _ a xs ys o bx by' (by omega)]; simp only [Option.bind_some]
      rw [S]; simp only [Option.bind_some]
      rw [I]; simp only [Option.bind_some]
      rw [if_neg (by simp), eqH (hs.map sv) _ (by omega) (by simpa using hl) hb2]; simp only [Option.bind_some]
      rw [if_pos trivial, eqA _ a xs ys o bx by' (by omega)]; simp only [Option.bind_some]
      rw [if_pos trivial]
end Go.Proofs.YtpmdgmnpkdoamabDoor.DFnExactValidArray
