/- Proved here: what the words printed for the law on Read come to: the law answers true (plain Lean). Conditions: the lists' lengths and the floats' bits. -/
import Derived.Test.YtpmdgmnpkdoamabDoorRdBFnExactRead
namespace Go.Proofs.YtpmdgmnpkdoamabDoor.DFnExactRead
open Go.RowKit Go.Proofs.YtpmdgmnpkdoamabDoorW.PrintWords Go.Proofs.YtpmdgmnpkdoamabDoorW.PrintLast Go.Proofs.YtpmdgmnpkdoamabDoorW.PrintMore
set_option linter.unusedVariables false
set_option linter.unusedSimpArgs false
theorem len_m {α : Type} (pre suf : List α) (x : α) : ((pre ++ x :: suf).length : Int) = pre.length + 1 + suf.length := by simp; omega
theorem nx_m {α : Type} (pre suf : List α) (x : α) : pre ++ x :: suf = (pre ++ [x]) ++ suf := by simp
theorem at_m {α : Type} (d : α) (pre suf : List α) (x : α) : (pre ++ x :: suf).getD (pre.length : Int).toNat d = x := by simp
theorem ix_m {α : Type} (pre : List α) (x : α) (h : pre.length < 1099511627776) : wrap64 ((pre.length : Int) + 1) = ((pre ++ [x]).length : Int) := by rw [w_id (by omega) (by omega)]; simp
theorem set_m {α : Type} (pre suf : List α) (x y : α) : (pre ++ x :: suf).set (pre.length : Int).toNat y = (pre ++ [y]) ++ suf := by simp
theorem sz_l0 : ∀ (suf pre : List S166) (k : Nat) (a : Int), suf.length < k → pre.length + suf.length < 1099511627776 → 0 ≤ a → a ≤ 1048576 → (∀ s ∈ suf, s.f1.length ≤ 9223372036854775807) →
  ∃ z, jI.l0 k (pre ++ suf) a pre.length = some z ∧ z ≤ 1048576 ∧ (z < 0 ∨ ∀ s ∈ suf, s.f1.length ≤ 1048576)
 | [], pre, k, a, hk, _, _, h1, _ => by
  obtain ⟨k, rfl⟩ : ∃ m, k = m + 1 := ⟨k - 1, by omega⟩
  rw [jI.l0, if_neg (by simp)]
  exact ⟨a, rfl, h1, .inr (by simp)⟩
 | s :: suf, pre, k, a, hk, hl, h0, h1, hs => by
  simp only [List.length_cons] at hk hl
  obtain ⟨k, rfl⟩ : ∃ m, k = m + 1 := ⟨k - 1, by omega⟩
  have hm := hs s (by simp)
  have e : wrap64 (a - (s.f1.length : Int)) = a - (s.f1.length : Int) := w_id (by omega) (by omega)
  rw [jI.l0, if_pos (by rw [len_m]; omega), if_pos (by omega)]
  unfold rd_T166
  rw [at_m]
  unfold laws_szStore.f laws_szCellS.f
  rw [e]
  by_cases c : a - (s.f1.length : Int) < 0
  ·rw [if_pos c]
   simp only [Option.bind_some]
   rw [if_pos (by omega)]
   simp only [Option.bind_some]
   rw [if_pos (by omega)]
   exact ⟨-1, rfl, by omega, .inl (by omega)⟩
  ·rw [if_neg c]
   simp only [Option.bind_some]
   rw [if_neg c]
   simp only [Option.bind_some]
   rw [if_neg c, ix_m pre s (by omega), nx_m pre suf s]
   obtain ⟨z, hz, hz1, hb⟩ := sz_l0 suf (pre ++ [s]) k (a - (s.f1.length : Int)) (by omega) (by simp; omega) (by omega) (by omega) (fun x hx => hs x (by simp [hx]))
   refine ⟨z, hz, hz1, hb.imp id (fun hb x hx => ?_)⟩
   rcases List.mem_cons.1 hx with rfl | hx
   ·omega
   ·exact hb x hx
theorem szH (hs : List S166) (k : Nat) (hk : 1048576 < k) (h : hs.length ≤ 9223372036854775807) (hb : ∀ s ∈ hs, s.f1.length ≤ 9223372036854775807) :
  ∃ z, laws_szHeap.f k hs 1048576 = some z ∧ z ≤ 1048576 ∧ (z < 0 ∨ (hs.length ≤ 1048576 ∧ ∀ s ∈ hs, s.f1.length ≤ 1048576)) := by
 unfold laws_szHeap.f jI.f
 have e : wrap64 (1048576 - (hs.length : Int)) = 1048576 - (hs.length : Int) := w_id (by omega) (by omega)
 rw [e]
 by_cases c : 1048576 - (hs.length : Int) < 0
 ·rw [if_pos c]
  simp only [Option.bind_some]
  rw [if_pos (by omega)]
  exact ⟨-1, rfl, by omega, .inl (by omega)⟩
 ·rw [if_neg c]
  obtain ⟨z, hz, hz1, hz2⟩ := sz_l0 hs [] k (1048576 - (hs.length : Int)) (by omega) (by simp; omega) (by omega) (by omega) hb
  have hz' : jI.l0 k hs (1048576 - (hs.length : Int)) 0 = some z := by simpa using hz
  rw [hz']
  simp only [Option.bind_some]
  by_cases c2 : z < 0
  ·rw [if_pos c2]
   exact ⟨-1, rfl, by omega, .inl (by omega)⟩
  ·rw [if_neg c2]
   exact ⟨z, rfl, hz1, .inr ⟨by omega, hz2.resolve_left c2⟩⟩
def cv (c : S25) : S27 := ⟨c.f0, c.f1, c.f2⟩
def sv (s : S166) : S85 := ⟨s.f0, s.f1.map cv⟩
theorem toC_l0 : ∀ (suf pre : List S25) (k : Nat), suf.length < k → pre.length + suf.length < 1099511627776 → jP.l0 k (pre ++ suf) (pre.map cv ++ List.replicate suf.length z27) pre.length = some ((pre ++ suf).map cv)
 | [], pre, k, hk, _ => by
  obtain ⟨k, rfl⟩ : ∃ m, k = m + 1 := ⟨k - 1, by omega⟩
  rw [jP.l0, if_neg (by simp)]
  simp
 | c :: suf, pre, k, hk, hl => by
  simp only [List.length_cons] at hk hl
  obtain ⟨k, rfl⟩ : ∃ m, k = m + 1 := ⟨k - 1, by omega⟩
  have ih := toC_l0 suf (pre ++ [c]) k (by omega) (by simp; omega)
  rw [jP.l0, if_pos (by rw [len_m]; omega), if_pos (by omega)]
  unfold rd_T25
  rw [at_m]
  unfold laws_toCell.f
  simp only [Option.bind_some]
  have e : (pre.map cv ++ List.replicate (c :: suf).length z27).set (pre.length : Int).toNat (cv c) = (pre ++ [c]).map cv ++ List.replicate suf.length z27 := by
   rw [List.length_cons, List.replicate_succ]
   have := set_m (pre.map cv) (List.replicate suf.length z27) z27 (cv c)
   rw [List.length_map] at this
   rw [this]
   simp
  rw [if_pos (by simp; omega), ix_m pre c (by omega), nx_m pre suf c]
  have e' := e
  unfold cv at e'
  rw [show ((⟨c.f0, c.f1, c.f2⟩ : S27)) = cv c from rfl, e]
  exact ih
theorem toC (xs : List S25) (k : Nat) (hk : xs.length < k) (hl : xs.length ≤ 1048576) : jP.f k xs = some (xs.map cv) := by
 unfold jP.f
 rw [if_pos (by omega), if_pos (by omega)]
 have := toC_l0 xs [] k hk (by simp; omega)
 simpa using this
theorem toS_l0 : ∀ (suf pre : List S166) (k : Nat), 1048576 + suf.length < k → pre.length + suf.length < 1099511627776 → (∀ s ∈ suf, s.f1.length ≤ 1048576) →
  jN.l0 k (pre ++ suf) (pre.map sv ++ List.replicate suf.length z85) pre.length = some ((pre ++ suf).map sv)
 | [], pre, k, hk, _, _ => by
  obtain ⟨k, rfl⟩ : ∃ m, k = m + 1 := ⟨k - 1, by omega⟩
  rw [jN.l0, if_neg (by simp)]
  simp
 | s :: suf, pre, k, hk, hl, hs => by
  simp only [List.length_cons] at hk hl
  obtain ⟨k, rfl⟩ : ∃ m, k = m + 1 := ⟨k - 1, by omega⟩
  have ih := toS_l0 suf (pre ++ [s]) k (by omega) (by simp; omega) (fun x hx => hs x (by simp [hx]))
  have hsl := hs s (by simp)
  rw [jN.l0, if_pos (by rw [len_m]; omega), if_pos (by omega)]
  unfold rd_T166
  rw [at_m]
  unfold laws_toStore.f
  rw [toC s.f1 k (by omega) hsl]
  simp only [Option.bind_some]
  have e : (pre.map sv ++ List.replicate (s :: suf).length z85).set (pre.length : Int).toNat (sv s) = (pre ++ [s]).map sv ++ List.replicate suf.length z85 := by
   rw [List.length_cons, List.replicate_succ]
   have := set_m (pre.map sv) (List.replicate suf.length z85) z85 (sv s)
   rw [List.length_map] at this
   rw [this]
   simp
  rw [if_pos (by simp; omega), ix_m pre s (by omega), nx_m pre suf s, show ((⟨s.f0, s.f1.map cv⟩ : S85)) = sv s from rfl, e]
  exact ih
theorem toH (hs : List S166) (k : Nat) (hk : 2097152 < k) (hl : hs.length ≤ 1048576) (hb : ∀ s ∈ hs, s.f1.length ≤ 1048576) : laws_toHeap.f k hs = some (hs.map sv) := by
 unfold laws_toHeap.f jN.f
 rw [if_pos (by omega), if_pos (by omega)]
 have := toS_l0 hs [] k (by omega) (by simp; omega) hb
 have h2 : jN.l0 k hs (List.replicate (((hs.length : Int) : Int)).toNat z85) 0 = some (hs.map sv) := by simpa using this
 rw [h2]
 rfl
def bits (c : S27) : Prop := c.f1.toNat < 18446744073709551616 ∧ c.f2.toNat < 18446744073709551616
theorem same_self (x : Int) (h : x.toNat < 18446744073709551616) : laws_sameFloat.f x x = some true := by
 unfold laws_sameFloat.f
 rw [if_pos ⟨h, h⟩, Vc.same_self]
theorem eqC_l0 : ∀ (suf pre : List S27) (k : Nat), suf.length < k → pre.length + suf.length < 1099511627776 → (∀ c ∈ suf, bits c) → jB.l0 k (pre ++ suf) (pre ++ suf) pre.length = some true
 | [], pre, k, hk, _, _ => by
  obtain ⟨k, rfl⟩ : ∃ m, k = m + 1 := ⟨k - 1, by omega⟩
  rw [jB.l0, if_neg (by simp)]
 | c :: suf, pre, k, hk, hl, hb => by
  simp only [List.length_cons] at hk hl
  obtain ⟨k, rfl⟩ : ∃ m, k = m + 1 := ⟨k - 1, by omega⟩
  have ih := eqC_l0 suf (pre ++ [c]) k (by omega) (by simp; omega) (fun x hx => hb x (by simp [hx]))
  have hc := hb c (by simp)
  rw [jB.l0, if_pos (by rw [len_m]; omega), if_pos (by omega), if_pos (by rw [len_m]; omega)]
  unfold zU
  rw [at_m]
  unfold laws_eqCell.f
  rw [if_pos rfl, same_self _ hc.1]
  simp only [Option.bind_some]
  rw [if_pos trivial, same_self _ hc.2]
  simp only [Option.bind_some]
  rw [if_pos trivial]
  simp only [Option.bind_some]
  rw [if_pos trivial, ix_m pre c (by omega), nx_m pre suf c, ih]
theorem eqS_l0 : ∀ (suf pre : List S85) (k : Nat), 1048576 + suf.length < k → pre.length + suf.length < 1099511627776 → (∀ s ∈ suf, s.f1.length ≤ 1048576 ∧ ∀ c ∈ s.f1, bits c) → jD.l0 k (pre ++ suf) (pre ++ suf) pre.length = some true
 | [], pre, k, hk, _, _ => by
  obtain ⟨k, rfl⟩ : ∃ m, k = m + 1 := ⟨k - 1, by omega⟩
  rw [jD.l0, if_neg (by simp)]
 | s :: suf, pre, k, hk, hl, hb => by
  simp only [List.length_cons] at hk hl
  obtain ⟨k, rfl⟩ : ∃ m, k = m + 1 := ⟨k - 1, by omega⟩
  have ih := eqS_l0 suf (pre ++ [s]) k (by omega) (by simp; omega) (fun x hx => hb x (by simp [hx]))
  have hs := hb s (by simp)
  have hc : jB.l0 k s.f1 s.f1 0 = some true := by simpa using eqC_l0 s.f1 [] k (by omega) (by simp; omega) hs.2
  rw [jD.l0, if_pos (by rw [len_m]; omega), if_pos (by omega), if_pos (by rw [len_m]; omega)]
  unfold zT
  rw [at_m]
  unfold laws_eqStore.f jB.f
  rw [if_pos rfl, if_pos rfl, hc]
  simp only [Option.bind_some]
  rw [if_pos trivial]
  simp only [Option.bind_some]
  rw [if_pos trivial, ix_m pre s (by omega), nx_m pre suf s, ih]
theorem eqH (hs : List S85) (k : Nat) (hk : 2097152 < k) (hl : hs.length ≤ 1048576) (hb : ∀ s ∈ hs, s.f1.length ≤ 1048576 ∧ ∀ c ∈ s.f1, bits c) : laws_eqHeap.f k hs hs = some true := by
 unfold laws_eqHeap.f jD.f
 have h : jD.l0 k hs hs 0 = some true := by simpa using eqS_l0 hs [] k (by omega) (by simp; omega) hb
 rw [if_pos rfl, h]
 rfl
def okc (d : Int) (c : S27) : Bool := Vc.vcell d c.f0 c.f1.toNat c.f2.toNat
theorem spec_l1 (x3 : Int) (hs : List S85) (d : Int) (K : Nat) (r : Option Bool) (hr : ∀ k, K ≤ k → zV.l0 k (wrap64 (x3 + 1)) hs = r) : ∀ (suf pre : List S27) (k : Nat), K + suf.length < k → pre.length + suf.length < 1099511627776 → (∀ c ∈ suf, bits c) →
  zV.l1 k x3 pre.length hs d (pre ++ suf) = if suf.all (okc d) = true then r else some false
 | [], pre, k, hk, _, _ => by
  obtain ⟨k, rfl⟩ : ∃ m, k = m + 1 := ⟨k - 1, by omega⟩
  rw [zV.l1, if_neg (by simp), List.all_nil, if_pos rfl]
  exact hr k (by simp at hk; omega)
 | c :: suf, pre, k, hk, hl, hb => by
  simp only [List.length_cons] at hk hl
  obtain ⟨k, rfl⟩ : ∃ m, k = m + 1 := ⟨k - 1, by omega⟩
  have ih := spec_l1 x3 hs d K r hr suf (pre ++ [c]) k (by omega) (by simp; omega) (fun x hx => hb x (by simp [hx]))
  have hc := hb c (by simp)
  rw [zV.l1, if_pos (by rw [len_m]; omega), if_pos (by omega)]
  unfold zU
  rw [at_m]
  unfold zQ.f
  rw [if_pos ⟨hc.1, hc.2⟩]
  simp only [Option.bind_some]
  rw [show Vc.vcell d c.f0 c.f1.toNat c.f2.toNat = okc d c from rfl, List.all_cons]
  cases h : okc d c with
  | true => rw [if_pos rfl, ix_m pre c (by omega), nx_m pre suf c, ih, Bool.true_and]
  | false => rw [if_neg (by decide), Bool.false_and, if_neg (by decide)]
theorem impl_l1 (hs : List S85) (n x14 d : Int) (cs : List S27) (K : Nat) (r : Option Bool) (hr : ∀ k, K ≤ k → zX.l0 k hs n (wrap64 (x14 + 1)) = r) : ∀ (suf pre : List S27) (k : Nat), K + suf.length < k → pre.length + suf.length < 1099511627776 → (∀ c ∈ suf, bits c) →
  zX.l1 k hs n x14 (pre ++ suf) ((pre ++ suf).length : Int) pre.length d cs = if suf.all (okc d) = true then r else some false
 | [], pre, k, hk, _, _ => by
  obtain ⟨k, rfl⟩ : ∃ m, k = m + 1 := ⟨k - 1, by omega⟩
  rw [zX.l1, if_neg (by simp), List.all_nil, if_pos rfl]
  exact hr k (by simp at hk; omega)
 | c :: suf, pre, k, hk, hl, hb => by
  simp only [List.length_cons] at hk hl
  obtain ⟨k, rfl⟩ : ∃ m, k = m + 1 := ⟨k - 1, by omega⟩
  have ih := impl_l1 hs n x14 d cs K r hr suf (pre ++ [c]) k (by omega) (by simp; omega) (fun x hx => hb x (by simp [hx]))
  have hc := hb c (by simp)
  rw [zX.l1, if_pos (by rw [len_m]; omega), if_pos (by omega), if_pos (by rw [len_m]; omega)]
  unfold zU
  rw [at_m]
  unfold zP.f
  rw [if_pos ⟨hc.1, hc.2⟩]
  simp only [Option.bind_some]
  rw [show Vc.vcell d c.f0 c.f1.toNat c.f2.toNat = okc d c from rfl, List.all_cons]
  cases h : okc d c with
  | true => rw [if_pos rfl, ix_m pre c (by omega), nx_m pre suf c, ih, Bool.true_and]
  | false => rw [if_neg (by decide), Bool.false_and, if_neg (by decide)]
theorem alike_l0 : ∀ (suf pre : List S85), (∀ s ∈ suf, s.f1.length ≤ 1048576 ∧ ∀ c ∈ s.f1, bits c) → pre.length + suf.length < 1099511627776 →
  ∃ b, ∀ k, 5000 * suf.length + 1 ≤ k → zV.l0 k pre.length (pre ++ suf) = some b ∧ zX.l0 k (pre ++ suf) ((pre ++ suf).length : Int) pre.length = some b
 | [], pre, _, _ => by
  refine ⟨true, fun k hk => ?_⟩
  obtain ⟨k, rfl⟩ : ∃ m, k = m + 1 := ⟨k - 1, by omega⟩
  rw [zV.l0, zX.l0, if_neg (by simp), if_neg (by simp)]
  exact ⟨rfl, rfl⟩
 | s :: suf, pre, hb, hl => by
  simp only [List.length_cons] at hl
  obtain ⟨b, ih⟩ := alike_l0 suf (pre ++ [s]) (fun x hx => hb x (by simp [hx])) (by simp; omega)
  have hs := hb s (by simp)
  have ix := ix_m pre s (by omega)
  rw [← nx_m, ← ix] at ih
  -- what is answered behind this store
  have bad : ∀ t, ∀ k, 5000 * (s :: suf).length + 1 ≤ k → zV.j1 (k - 1) pre.length true (pre ++ s :: suf) t.f0 t.f1 = some false ∧ zX.j1 (k - 1) (pre ++ s :: suf) ((pre ++ s :: suf).length : Int) pre.length true (t : S85).f0 t.f1 = some false := by
   intro t k hk
   simp only [List.length_cons] at hk
   obtain ⟨q, hq⟩ : ∃ q, k - 1 = q + 1 := ⟨k - 2, by omega⟩
   rw [hq, zV.j1, zX.j1, if_pos rfl, if_pos rfl]
   exact ⟨rfl, rfl⟩
  have step : ∀ k, 5000 * (s :: suf).length + 1 ≤ k → ∀ R, (∀ q, 5000 * (s :: suf).length ≤ q → (if s.f0 ≥ 1 ∧ s.f0 ≤ 9 then (zV.j1 q pre.length (decide ((s.f1.length : Int) > 4096)) (pre ++ s :: suf) s.f0 s.f1 = some R ∧ zX.j1 q (pre ++ s :: suf) ((pre ++ s :: suf).length : Int) pre.length (decide ((s.f1.length : Int) > 4096)) s.f0 s.f1 = some R) else R = false)) →
    zV.l0 k pre.length (pre ++ s :: suf) = some R ∧ zX.l0 k (pre ++ s :: suf) ((pre ++ s :: suf).length : Int) pre.length = some R := by
   intro k hk R hR
   have hbad := bad s k hk
   simp only [List.length_cons] at hk
   obtain ⟨k, rfl⟩ : ∃ m, k = m + 1 := ⟨k - 1, by omega⟩
   rw [Nat.add_sub_cancel] at hbad
   have hq := hR k (by simp only [List.length_cons]; omega)
   have rs : zT (pre ++ s :: suf) (pre.length : Int) = s := at_m _ _ _ _
   have eS : zV.l0 (k + 1) pre.length (pre ++ s :: suf) = (spec_l1IsDType.f s.f0).bind fun t111 => (if t111 = true then (zV.j1 k pre.length (decide ((s.f1.length : Int) > 4096)) (pre ++ s :: suf) s.f0 s.f1) else (zV.j1 k pre.length true (pre ++ s :: suf) s.f0 s.f1)) := by
    rw [zV.l0, if_pos (by rw [len_m]; omega), if_pos (by omega), rs]
   have eI : zX.l0 (k + 1) (pre ++ s :: suf) ((pre ++ s :: suf).length : Int) pre.length = (impl_isDType.f s.f0).bind fun t150 => (if t150 = true then (zX.j1 k (pre ++ s :: suf) ((pre ++ s :: suf).length : Int) pre.length (decide ((s.f1.length : Int) > 4096)) s.f0 s.f1) else (zX.j1 k (pre ++ s :: suf) ((pre ++ s :: suf).length : Int) pre.length true s.f0 s.f1)) := by
    rw [zX.l0, if_pos (by rw [len_m]; omega), if_pos (by omega), if_pos (by rw [len_m]; omega), rs]
   rw [eS, eI]
   unfold spec_l1IsDType.f impl_isDType.f
   by_cases c1 : s.f0 ≥ 1
   ·rw [if_pos c1]
    simp only [Option.bind_some]
    by_cases c2 : s.f0 ≤ 9
    ·rw [if_pos ⟨c1, c2⟩] at hq
     rw [if_pos (decide_eq_true c2), if_pos (decide_eq_true c2)]
     exact hq
    ·rw [if_neg (fun h => c2 h.2)] at hq
     subst hq
     rw [if_neg (by simpa using c2), if_neg (by simpa using c2)]
     exact hbad
   ·rw [if_neg (fun h => c1 h.1)] at hq
    subst hq
    rw [if_neg c1]
    simp only [Option.bind_some]
    rw [if_neg (by decide), if_neg (by decide)]
    exact hbad
  by_cases g : s.f0 ≥ 1 ∧ s.f0 ≤ 9
  ·by_cases c3 : (s.f1.length : Int) > 4096
   ·refine ⟨false, fun k hk => step k hk false (fun q hq => ?_)⟩
    rw [if_pos g, decide_eq_true c3]
    exact (show _ ∧ _ by have := bad s (q + 1) (by omega); rwa [Nat.add_sub_cancel] at this)
   ·refine ⟨if s.f1.all (okc s.f0) = true then b else false, fun k hk => step k hk _ (fun q hq => ?_)⟩
    simp only [List.length_cons] at hq
    obtain ⟨q, rfl⟩ : ∃ m, q = m + 1 := ⟨q - 1, by omega⟩
    rw [if_pos g, decide_eq_false c3, zV.j1, zX.j1, if_neg (show ¬ (false = true) by decide), if_neg (show ¬ (false = true) by decide)]
    have S := spec_l1 pre.length (pre ++ s :: suf) s.f0 (5000 * suf.length + 1) (some b) (fun k hk => (ih k hk).1) s.f1 [] q (by omega) (by simp; omega) hs.2
    have I := impl_l1 (pre ++ s :: suf) ((pre ++ s :: suf).length : Int) pre.length s.f0 s.f1 (5000 * suf.length + 1) (some b) (fun k hk => (ih k hk).2) s.f1 [] q (by omega) (by simp; omega) hs.2
    simp only [List.nil_append, List.length_nil, Int.natCast_zero] at S I
    rw [S, I]
    cases h : s.f1.all (okc s.f0) with
    | true => exact ⟨rfl, rfl⟩
    | false => exact ⟨rfl, rfl⟩
  ·refine ⟨false, fun k hk => step k hk false (fun q hq => ?_)⟩
   rw [if_neg g]
theorem alike (hs : List S85) (k : Nat) (hk : 1000000 < k) (hb : ∀ s ∈ hs, s.f1.length ≤ 1048576 ∧ ∀ c ∈ s.f1, bits c) : ∃ b, zV.f k hs = some b ∧ zX.f k hs = some b := by
 unfold zV.f zX.f
 by_cases c : (hs.length : Int) > 64
 ·rw [if_pos c, if_pos c]
  exact ⟨false, rfl, rfl⟩
 ·rw [if_neg c, if_neg c]
  obtain ⟨b, h⟩ := alike_l0 hs [] hb (by simp; omega)
  have := h k (by omega)
  simp only [List.nil_append, List.length_nil, Int.natCast_zero] at this
  exact ⟨b, this⟩
theorem pl_eq : ∀ (xs ys : List Int) (o : Int), Odo.places xs ys o = places xs ys o
 | [], ys, o => by simp [places, Odo.places]
 | _ :: _, [], o => by simp [places, Odo.places]
 | n :: ns, s :: ss, o => by
  simp only [places, Odo.places]
  congr 1
  funext i
  exact pl_eq ns ss _
theorem pr_eq : ∀ xs : List Int, Odo.pr xs = cnt xs
 | [] => rfl
 | x :: xs => by simp only [Odo.pr, cnt, pr_eq xs]
def offs (xs ys : List Int) (o : Int) : List Int := if cnt xs = 0 then [] else places xs ys o
theorem offs_len {xs ys : List Int} {o : Int} (h : VV xs ys o) : (offs xs ys o).length ≤ 4096 := by
 obtain ⟨g, l, o0, o1, oy, r⟩ := h
 unfold offs
 split
 ·simp
 ·have := places_len xs ys o (by omega) g.2.1
  have := g.2.2
  omega
theorem good_of {xs ys : List Int} {o : Int} (h : VV xs ys o) : Odo.Good xs ys o (cnt xs) := by
 obtain ⟨g, l, o0, o1, oy, r⟩ := h
 refine ⟨l, g.1, fun hc => ⟨pos_of_cnt g.2.1 hc, oy, by rw [pr_eq]; exact g.2.2, ?_⟩⟩
 intro x hx
 rw [pl_eq] at hx
 exact r hc x hx
theorem placesOf_eq (xs ys : List Int) (o : Int) : Odo.placesOf xs ys o (cnt xs) = offs xs ys o := by
 unfold Odo.placesOf offs
 rw [pl_eq]
theorem spec_offs {xs ys : List Int} {o : Int} (h : VV xs ys o) (k : Nat) (hk : 100000 ≤ k) : spec_l2Offsets.f k xs ys o = some (offs xs ys o) := by
 obtain ⟨g, l, o0, o1, oy, r⟩ := h
 have h4 := g.1
 unfold spec_l2Offsets.f offs
 rw [(l2count_f k xs (by omega)).1 g]
 simp only [Option.bind_some]
 by_cases hc : cnt xs = 0
 ·rw [if_pos hc, if_pos hc]
 ·rw [if_neg hc, if_neg hc]
  have hnd := need_le xs g.2.1
  have P := places_f xs ys o xs ys [] [] k o rfl rfl rfl (by omega) (by omega) (by simpa using g.1) g.2.1 (pos_of_cnt g.2.1 hc) oy g.2.2 (by omega) (by omega)
  simp only [List.length_nil, Int.natCast_zero] at P
  rw [P]; rfl
theorem g_l0 (hs : List S85) (a : Int) (xs ys : List Int) (o : Int) (ha0 : 0 ≤ a) (ha1 : a < (hs.length : Int)) : ∀ (suf pre : List Int) (k : Nat), suf.length < k → pre.length + suf.length < 1099511627776 → (∀ p ∈ pre, p < ((zT hs a).f1.length : Int)) →
  jG.l0 k (pre ++ suf) pre.length hs a xs ys o = some (decide (∀ p ∈ pre ++ suf, p < ((zT hs a).f1.length : Int)))
 | [], pre, k, hk, _, hp => by
  obtain ⟨k, rfl⟩ : ∃ m, k = m + 1 := ⟨k - 1, by omega⟩
  rw [jG.l0, if_neg (by simp), decide_eq_true (by simpa using hp)]
 | p :: suf, pre, k, hk, hl, hp => by
  simp only [List.length_cons] at hk hl
  obtain ⟨k, rfl⟩ : ∃ m, k = m + 1 := ⟨k - 1, by omega⟩
  rw [jG.l0, if_pos (by rw [len_m]; omega), if_pos (show (0 : Int) ≤ (pre.length : Int) by omega), if_pos ha0, if_pos ha1]
  have hr : rd (pre ++ p :: suf) (pre.length : Int) = p := by simp [rd]
  rw [hr]
  by_cases c : p ≥ ((zT hs a).f1.length : Int)
  ·rw [if_pos c, decide_eq_false (fun h => by have := h p (by simp); omega)]
  ·have ih := g_l0 hs a xs ys o ha0 ha1 suf (pre ++ [p]) k (by omega) (by simp; omega) (fun x hx => by
    rcases List.mem_append.1 hx with h | h
    ·exact hp x h
    ·obtain rfl : x = p := by simpa using h
     omega)
   rw [if_neg c, ix_m pre p (by omega), nx_m pre suf p, ih]
theorem alike_fits (hs : List S85) (a : Int) (xs ys : List Int) (o : Int) (k : Nat) (hx : xs.length ≤ 1048576) (hy : ys.length ≤ 1048576) (hk : 4000000 < k) :
  ∃ b, jG.f k hs a xs ys o = some b ∧ impl_fits.f k hs a xs ys o = some b := by
 obtain ⟨k, rfl⟩ : ∃ m, k = m + 1 := ⟨k - 1, by omega⟩
 have bad : jG.j0 (k + 1) true hs a xs ys o = some false := by rw [jG.j0, if_pos rfl]
 unfold jG.f impl_fits.f
 by_cases c1 : a < 0
 ·rw [if_pos c1, if_pos (.inl c1)]
  exact ⟨false, bad, rfl⟩
 rw [if_neg c1]
 by_cases c2 : a ≥ (hs.length : Int)
 ·rw [if_pos c2, if_pos (.inr c2)]
  exact ⟨false, bad, rfl⟩
 rw [if_neg c2, if_neg (show ¬ (a < 0 ∨ (hs.length : Int) ≤ a) by omega)]
 obtain ⟨b, h1, h2, h3⟩ := vv_alike (k + 1) xs ys o (by omega)
 rw [h1, h2]
 simp only [Option.bind_some]
 cases b with
 | false => exact ⟨false, bad, rfl⟩
 | true =>
  have v := h3 rfl
  have ln := offs_len v
  have h4 := v.1.1
  have G : jG.l0 k (offs xs ys o) 0 hs a xs ys o = some (decide (∀ p ∈ offs xs ys o, p < ((zT hs a).f1.length : Int))) := by simpa using g_l0 hs a xs ys o (by omega) (by omega) (offs xs ys o) [] k (by omega) (by simp; omega) (by simp)
  rw [show (!true) = false from rfl, jG.j0, if_neg (by decide), spec_offs v k (by omega)]
  simp only [Option.bind_some]
  rw [G, if_pos trivial, count_f (k + 1) xs (by omega) h4 v.1.2.1]
  simp only [Option.bind_some]
  rw [if_pos (good_of v), placesOf_eq]
  exact ⟨_, rfl, rfl⟩
theorem alike_va (hs : List S85) (a : Int) (xs ys : List Int) (o : Int) (k : Nat) (hx : xs.length ≤ 1048576) (hy : ys.length ≤ 1048576) (hk : 4000000 < k) (hb : ∀ s ∈ hs, s.f1.length ≤ 1048576 ∧ ∀ c ∈ s.f1, bits c) :
  ∃ b, spec_ValidArray.f k hs a xs ys o = some b ∧ impl_ValidArray.f k hs a xs ys o = some b := by
 obtain ⟨b, S, I⟩ := alike hs k (by omega) hb
 obtain ⟨b2, S2, I2⟩ := alike_fits hs a xs ys o k hx hy hk
 unfold spec_ValidArray.f impl_ValidArray.f
 rw [S, I]
 simp only [Option.bind_some]
 cases b with
 | false => exact ⟨false, rfl, rfl⟩
 | true =>
  rw [if_pos rfl, if_pos rfl, S2, I2]
  exact ⟨b2, rfl, rfl⟩
theorem szA (xs ys : List Int) (o a c : Int) (c0 : 0 ≤ c) (c1 : c ≤ 1048576) (h1 : xs.length ≤ 9223372036854775807) (h2 : ys.length ≤ 9223372036854775807) : ∃ z, laws_szArray.f a xs ys o c = some z ∧ (z < 0 ∨ (xs.length ≤ 1048576 ∧ ys.length ≤ 1048576)) := by
 unfold laws_szArray.f laws_szView.f laws_szInt64S.f
 rw [w_id (n := c - (xs.length : Int)) (by omega) (by omega)]
 by_cases d1 : c - (xs.length : Int) < 0
 ·rw [if_pos d1]
  exact ⟨-1, rfl, .inl (by omega)⟩
 ·rw [if_neg d1]
  simp only [Option.bind_some]
  rw [if_neg d1, w_id (n := c - (xs.length : Int) - (ys.length : Int)) (by omega) (by omega)]
  by_cases d2 : c - (xs.length : Int) - (ys.length : Int) < 0
  ·rw [if_pos d2]
   exact ⟨-1, rfl, .inl (by omega)⟩
  ·rw [if_neg d2]
   simp only [Option.bind_some]
   rw [if_neg d2]
   simp only [Option.bind_some]
   rw [if_neg d2]
   exact ⟨_, rfl, .inr ⟨by omega, by omega⟩⟩
theorem toA (k : Nat) (a : Int) (xs ys : List Int) (o : Int) (hx : xs.length ≤ 1048576) (hy : ys.length ≤ 1048576) (hk : 1048576 < k) : laws_toArray.f k a xs ys o = some (a, xs, ys, o) := by
 unfold laws_toArray.f
 rw [toV k xs ys o hx hy hk]; rfl
theorem eqA (k : Nat) (a : Int) (xs ys : List Int) (o : Int) (hx : xs.length ≤ 1048576) (hy : ys.length ≤ 1048576) (hk : 1048576 < k) : laws_eqArray.f k a xs ys o a xs ys o = some true := by
 unfold laws_eqArray.f
 rw [if_pos rfl, eqV k xs ys o hx hy hk]; rfl
theorem order_self_notNaN (d : Ieee.Datum) (h : d.isNaN = false) : d.order d = some .eq := by
 cases d with
 | number s m i => simp [Ieee.Datum.order]
 | infinity s => simp [Ieee.Datum.order]
 | nan s t => cases h

theorem read_word_notNaN (neg : Bool) (r : Nat) (h : r ≤ Ieee.double.infRung) : (Ieee.double.read (Ieee.double.word neg r)).isNaN = false := by
 have e1 : Ieee.double.infRung = 9218868437227405312 := by decide
 have e2 : Ieee.double.signWeight = 9223372036854775808 := by decide
 have e3 : Ieee.double.binade = 4503599627370496 := by decide
 rw [e1] at h
 have hr : Ieee.double.word neg r % Ieee.double.signWeight = r := by
  unfold Ieee.Format.word; rw [e2]; split <;> omega
 unfold Ieee.Format.read
 dsimp only
 rw [hr, e1]
 split
 ·rfl
 ·split
  ·rfl
  ·split
   ·rfl
   ·omega

theorem order_ofInt (x : Int) : FloatKind.f64.format.order (floatOfInt .f64 x) (floatOfInt .f64 x) = some .eq := by
 unfold Ieee.Format.order
 refine order_self_notNaN _ ?_
 change (Ieee.double.read (Ieee.double.nearest (decide (x < 0)) x.natAbs 0)).isNaN = false
 unfold Ieee.Format.nearest
 split
 ·exact read_word_notNaN _ 0 (Nat.zero_le _)
 ·exact read_word_notNaN _ _ (Nat.min_le_right _ _)
theorem sz_sum : ∀ (suf pre : List S166) (k : Nat) (a : Int), suf.length < k → pre.length + suf.length < 1099511627776 → 0 ≤ a → a ≤ 1048576 → (∀ s ∈ suf, s.f1.length ≤ 9223372036854775807) →
  ∃ z, jI.l0 k (pre ++ suf) a pre.length = some z ∧ (z < 0 ∨ (suf.map fun s => (s.f1.length : Int)).sum ≤ a)
 | [], pre, k, a, hk, _, h0, h1, _ => by
  obtain ⟨k, rfl⟩ : ∃ m, k = m + 1 := ⟨k - 1, by omega⟩
  rw [jI.l0, if_neg (by simp)]
  exact ⟨a, rfl, .inr (by simpa using h0)⟩
 | s :: suf, pre, k, a, hk, hl, h0, h1, hs => by
  simp only [List.length_cons] at hk hl
  obtain ⟨k, rfl⟩ : ∃ m, k = m + 1 := ⟨k - 1, by omega⟩
  have hm := hs s (by simp)
  have e : wrap64 (a - (s.f1.length : Int)) = a - (s.f1.length : Int) := w_id (by omega) (by omega)
  rw [jI.l0, if_pos (by rw [len_m]; omega), if_pos (by omega)]
  unfold rd_T166
  rw [at_m]
  unfold laws_szStore.f laws_szCellS.f
  rw [e]
  by_cases c : a - (s.f1.length : Int) < 0
  ·rw [if_pos c]
   simp only [Option.bind_some]
   rw [if_pos (by omega)]
   simp only [Option.bind_some]
   rw [if_pos (by omega)]
   exact ⟨-1, rfl, .inl (by omega)⟩
  ·rw [if_neg c]
   simp only [Option.bind_some]
   rw [if_neg c]
   simp only [Option.bind_some]
   rw [if_neg c, ix_m pre s (by omega), nx_m pre suf s]
   obtain ⟨z, hz, hz1⟩ := sz_sum suf (pre ++ [s]) k (a - (s.f1.length : Int)) (by omega) (by simp; omega) (by omega) (by omega) (fun x hx => hs x (by simp [hx]))
   refine ⟨z, hz, hz1.imp id (fun hb => ?_)⟩
   rw [List.map_cons, List.sum_cons]
   omega
theorem szH_sum (hs : List S166) (k : Nat) (hk : 1048576 < k) (h : hs.length ≤ 1048576) (hb : ∀ s ∈ hs, s.f1.length ≤ 9223372036854775807) (z : Int) (hz : laws_szHeap.f k hs 1048576 = some z) (hz0 : ¬ z < 0) :
  (hs.map fun s => (s.f1.length : Int)).sum ≤ 1048576 := by
 unfold laws_szHeap.f jI.f at hz
 have e : wrap64 (1048576 - (hs.length : Int)) = 1048576 - (hs.length : Int) := w_id (by omega) (by omega)
 rw [e, if_neg (by omega)] at hz
 obtain ⟨y, hy, hy2⟩ := sz_sum hs [] k (1048576 - (hs.length : Int)) (by omega) (by simp; omega) (by omega) (by omega) hb
 have hy' : jI.l0 k hs (1048576 - (hs.length : Int)) 0 = some y := by simpa using hy
 rw [hy'] at hz
 simp only [Option.bind_some] at hz
 by_cases c : y < 0
 ·rw [if_pos c] at hz
  have := Option.some.inj hz
  omega
 ·have := hy2.resolve_left c
  omega
theorem mtot_sv : ∀ hs : List S166, mtot (hs.map sv) = (hs.length : Int) + 3 * (hs.map fun s => (s.f1.length : Int)).sum
 | [] => by simp [mtot]
 | s :: hs => by
  have := mtot_sv hs
  simp only [mtot, List.map_cons, List.sum_cons, List.length_cons] at this ⊢
  rw [this]
  simp only [sv, List.length_map]
  omega
theorem sum_nn : ∀ hs : List S166, 0 ≤ (hs.map fun s => (s.f1.length : Int)).sum
 | [] => by simp
 | s :: hs => by have := sum_nn hs; rw [List.map_cons, List.sum_cons]; omega
theorem l4_l0 (hs : List S85) (a : Int) (ha0 : 0 ≤ a) (ha1 : a < (hs.length : Int)) : ∀ (suf pre : List Int) (acc : List S27) (k : Nat), suf.length < k → pre.length + suf.length < 1099511627776 → acc.length + suf.length < 1099511627776 →
  (∀ p ∈ suf, 0 ≤ p ∧ p < ((zT hs a).f1.length : Int)) → jM.l0 k a acc (pre ++ suf) pre.length hs = some (acc ++ suf.map fun p => zU (zT hs a).f1 p)
 | [], pre, acc, k, hk, _, _, _ => by
  obtain ⟨k, rfl⟩ : ∃ m, k = m + 1 := ⟨k - 1, by omega⟩
  rw [jM.l0, if_neg (by simp)]
  simp
 | p :: suf, pre, acc, k, hk, hl, hc, hp => by
  simp only [List.length_cons] at hk hl hc
  obtain ⟨k, rfl⟩ : ∃ m, k = m + 1 := ⟨k - 1, by omega⟩
  have hp0 := hp p (by simp)
  have hr : rd (pre ++ p :: suf) (pre.length : Int) = p := by simp [rd]
  have ih := l4_l0 hs a ha0 ha1 suf (pre ++ [p]) (acc ++ [zU (zT hs a).f1 p]) k (by omega) (by simp; omega) (by simp; omega) (fun x hx => hp x (by simp [hx]))
  rw [jM.l0, if_pos (by rw [len_m]; omega), if_pos ha0, if_pos ha1, if_pos (by omega), hr, if_pos hp0.1, if_pos hp0.2, if_pos (by omega), ix_m pre p (by omega), nx_m pre suf p, ih]
  simp
theorem rd_mem (L : List S27) (p : Int) (h0 : 0 ≤ p) (h1 : p < (L.length : Int)) : zU L p ∈ L := by
 unfold zU
 have h : p.toNat < L.length := by omega
 rw [List.getD_eq_getElem?_getD, List.getElem?_eq_getElem h]
 exact List.getElem_mem h
theorem rd_mem85 (hs : List S85) (p : Int) (h0 : 0 ≤ p) (h1 : p < (hs.length : Int)) : zT hs p ∈ hs := by
 unfold zT
 have h : p.toNat < hs.length := by omega
 rw [List.getD_eq_getElem?_getD, List.getElem?_eq_getElem h]
 exact List.getElem_mem h
theorem fits_true (hs : List S85) (a : Int) (xs ys : List Int) (o : Int) (k : Nat) (hx : xs.length ≤ 1048576) (hy : ys.length ≤ 1048576) (hk : 4000000 < k) (h : impl_fits.f k hs a xs ys o = some true) :
  VV xs ys o ∧ 0 ≤ a ∧ a < (hs.length : Int) ∧ ∀ p ∈ offs xs ys o, p < ((zT hs a).f1.length : Int) := by
 unfold impl_fits.f at h
 by_cases c1 : a < 0 ∨ (hs.length : Int) ≤ a
 ·rw [if_pos c1] at h
  cases h
 ·rw [if_neg c1] at h
  obtain ⟨b, h1, h2, h3⟩ := vv_alike k xs ys o (by omega)
  rw [h2] at h
  simp only [Option.bind_some] at h
  cases b with
  | false => rw [if_neg (by decide)] at h; cases h
  | true =>
   have v := h3 rfl
   have h4 := v.1.1
   rw [if_pos rfl, count_f k xs (by omega) h4 v.1.2.1] at h
   simp only [Option.bind_some] at h
   rw [if_pos (good_of v), placesOf_eq] at h
   exact ⟨v, by omega, by omega, of_decide_eq_true (Option.some.inj h)⟩
theorem alike_read (hs : List S85) (a : Int) (xs ys : List Int) (o : Int) (k : Nat) (hx : xs.length ≤ 1048576) (hy : ys.length ≤ 1048576) (hk : 4000000 < k) (hb : ∀ s ∈ hs, s.f1.length ≤ 1048576 ∧ ∀ c ∈ s.f1, bits c) :
  ∃ cs, spec_Read.f k hs a xs ys o = some cs ∧ impl_Read.f k hs a xs ys o = some cs ∧ cs.length ≤ 4096 ∧ ∀ c ∈ cs, bits c := by
 obtain ⟨b, S, I⟩ := alike_va hs a xs ys o k hx hy hk hb
 unfold spec_Read.f impl_Read.f
 rw [S, I]
 simp only [Option.bind_some]
 cases b with
 | false =>
  rw [if_neg (by decide)]
  exact ⟨[], rfl, rfl, by simp, by simp⟩
 | true =>
  unfold impl_ValidArray.f at I
  obtain ⟨b1, _, I2⟩ := Option.bind_eq_some_iff.1 I
  cases b1 with
  | false => rw [if_neg (by decide)] at I2; cases I2
  | true =>
   rw [if_pos rfl] at I2
   obtain ⟨b2, I3, I4⟩ := Option.bind_eq_some_iff.1 I2
   obtain rfl := Option.some.inj I4
   obtain ⟨v, a0, a1, hp⟩ := fits_true hs a xs ys o k hx hy hk I3
   have ln := offs_len v
   have h4 := v.1.1
   have hp0 : ∀ p ∈ offs xs ys o, 0 ≤ p ∧ p < ((zT hs a).f1.length : Int) := by
    intro p hpp
    refine ⟨?_, hp p hpp⟩
    unfold offs at hpp
    split at hpp
    ·cases hpp
    ·rename_i hc
     exact (v.2.2.2.2.2 hc p hpp).1
   have hS : (jM.f k hs a xs ys o).bind (fun t => some t) = some ((offs xs ys o).map fun p => zU (zT hs a).f1 p) := by
    unfold jM.f
    rw [spec_offs v k (by omega)]
    simp only [Option.bind_some]
    have := l4_l0 hs a a0 a1 (offs xs ys o) [] [] k (by omega) (by simp; omega) (by simp; omega) hp0
    simp only [List.nil_append, List.length_nil, Int.natCast_zero] at this
    rw [this]; rfl
   have hI : (impl_cells.f k hs a xs ys o).bind (fun t => some t) = some ((offs xs ys o).map fun p => zU (zT hs a).f1 p) := by
    unfold impl_cells.f
    rw [if_neg (by omega), count_f k xs (by omega) h4 v.1.2.1]
    simp only [Option.bind_some]
    rw [placesOf_eq, if_pos ⟨good_of v, hp0⟩]; rfl
   rw [if_pos rfl, if_pos rfl]
   refine ⟨_, hS, hI, by simpa using ln, fun c hc => ?_⟩
   obtain ⟨p, hpp, rfl⟩ := List.mem_map.1 hc
   exact (hb _ (rd_mem85 hs a a0 a1)).2 _ (rd_mem _ _ (hp0 p hpp).1 (hp0 p hpp).2)
def cmk : Nat → Int → List S27
 | 0, _ => []
 | n + 1, a => ⟨a, fcv (a + 1), fcv (a + 1 + 1)⟩ :: cmk n (a + 1 + 1 + 1)
theorem cmark_l0 : ∀ (suf pre : List S27) (k : Nat) (a : Int), suf.length < k → pre.length + suf.length < 1099511627776 → 0 ≤ a → a + 3 * (suf.length : Int) < 1099511627776 →
  jC.l0 k (pre ++ suf) a pre.length = some (a + 3 * (suf.length : Int), pre ++ cmk suf.length a)
 | [], pre, k, a, hk, _, _, _ => by
  obtain ⟨k, rfl⟩ : ∃ m, k = m + 1 := ⟨k - 1, by omega⟩
  rw [jC.l0, if_neg (by simp)]
  simp [cmk]
 | c :: suf, pre, k, a, hk, hl, h0, h1 => by
  simp only [List.length_cons] at hk hl h1 ⊢
  obtain ⟨k, rfl⟩ : ∃ m, k = m + 1 := ⟨k - 1, by omega⟩
  have w1 : wrap64 (a + 1) = a + 1 := w_id (by omega) (by omega)
  have w2 : wrap64 (a + 1 + 1) = a + 1 + 1 := w_id (by omega) (by omega)
  have w3 : wrap64 (a + 1 + 1 + 1) = a + 1 + 1 + 1 := w_id (by omega) (by omega)
  have ih := cmark_l0 suf (pre ++ [⟨a, fcv (a + 1), fcv (a + 1 + 1)⟩]) k (a + 1 + 1 + 1) (by omega) (by simp; omega) (by omega) (by omega)
  have s1 : ∀ x y : S27, (pre ++ x :: suf).set (pre.length : Int).toNat y = pre ++ y :: suf := fun x y => by simp
  have r1 : ∀ x : S27, zU (pre ++ x :: suf) (pre.length : Int) = x := fun x => at_m _ _ _ _
  rw [jC.l0, if_pos (by rw [len_m]; omega), if_pos (by omega), w1, w2, w3]
  simp only [Option.bind_some, s1, r1]
  rw [ix_m pre _ (by omega), nx_m pre suf, ih]
  simp only [cmk, List.append_assoc, List.singleton_append]
  congr 2
  omega
theorem feq_self (a : Int) : feq (fcv a) (fcv a) = true := by
 unfold feq
 rw [fcv_nat]
 have h : FloatKind.f64.format.order (floatOfInt .f64 a) (floatOfInt .f64 a) = some .eq := order_ofInt a
 rw [h]; rfl
theorem cheld_l0 : ∀ (n : Nat) (pre : List S27) (k : Nat) (a : Int), n < k → pre.length + n < 1099511627776 → 0 ≤ a → a + 3 * (n : Int) < 1099511627776 →
  jL.l0 k (pre ++ cmk n a) a pre.length = some (a + 3 * (n : Int))
 | 0, pre, k, a, hk, _, _, _ => by
  obtain ⟨k, rfl⟩ : ∃ m, k = m + 1 := ⟨k - 1, by omega⟩
  rw [jL.l0, if_neg (by simp [cmk])]
  simp
 | n + 1, pre, k, a, hk, hl, h0, h1 => by
  obtain ⟨k, rfl⟩ : ∃ m, k = m + 1 := ⟨k - 1, by omega⟩
  have w1 : wrap64 (a + 1) = a + 1 := w_id (by omega) (by omega)
  have w2 : wrap64 (a + 1 + 1) = a + 1 + 1 := w_id (by omega) (by omega)
  have w3 : wrap64 (a + 1 + 1 + 1) = a + 1 + 1 + 1 := w_id (by omega) (by omega)
  have ih := cheld_l0 n (pre ++ [⟨a, fcv (a + 1), fcv (a + 1 + 1)⟩]) k (a + 1 + 1 + 1) (by omega) (by simp; omega) (by omega) (by omega)
  have r1 : ∀ x : S27, zU (pre ++ x :: cmk n (a + 1 + 1 + 1)) (pre.length : Int) = x := fun x => at_m _ _ _ _
  simp only [cmk]
  rw [jL.l0, if_pos (by rw [len_m]; omega), if_pos (by omega), w1, w2, w3]
  simp only [r1]
  rw [if_pos trivial, if_pos (feq_self _), if_pos (feq_self _), ix_m pre _ (by omega), nx_m pre, ih]
  congr 1
  omega
theorem law_words (hs : List S166) (a : Int) (xs ys : List Int) (o : Int) (h : hs.length ≤ 9223372036854775807) (hb : ∀ s ∈ hs, s.f1.length ≤ 9223372036854775807 ∧ ∀ c ∈ s.f1, c.f1.toNat < 18446744073709551616 ∧ c.f2.toNat < 18446744073709551616)
  (h1 : xs.length ≤ 9223372036854775807) (h2 : ys.length ≤ 9223372036854775807) : ∃ k, laws_FnExactRead.f k hs a xs ys o = some true := by
 refine ⟨8000001, ?_⟩
 unfold laws_FnExactRead.f
 obtain ⟨z, hz, hz1, hz2⟩ := szH hs 8000001 (by omega) h (fun s hs' => (hb s hs').1)
 have hz3 := szH_sum hs 8000001 (by omega)
 rw [hz] at hz3 ⊢; simp only [Option.bind_some]
 by_cases c : z < 0
 ·rw [if_pos c]
 ·obtain ⟨hl, hc⟩ := hz2.resolve_left c
  have hsum := hz3 hl (fun s hs' => (hb s hs').1) z rfl c
  obtain ⟨y, hy, hy2⟩ := szA xs ys o a z (by omega) hz1 h1 h2
  rw [if_neg c, hy]; simp only [Option.bind_some]
  by_cases d : y < 0
  ·rw [if_pos d]
  ·obtain ⟨bx, by'⟩ := hy2.resolve_left d
   have hb2 : ∀ s ∈ hs.map sv, s.f1.length ≤ 1048576 ∧ ∀ c ∈ s.f1, bits c := by
    intro s hs'
    obtain ⟨t, ht, rfl⟩ := List.mem_map.1 hs'
    refine ⟨by simp [sv]; exact hc t ht, fun c hcm => ?_⟩
    obtain ⟨d, hd, rfl⟩ := List.mem_map.1 hcm
    exact (hb t ht).2 d hd
   obtain ⟨cs, S, I, L, B⟩ := alike_read (hs.map sv) a xs ys o 8000001 bx by' (by omega) hb2
   have S0 := (alike_read (hs.map sv) a xs ys o 8000000 bx by' (by omega) hb2)
   have EQ : ∀ k, 5000 ≤ k → jB.f k cs cs = some true := by
    intro k hk
    unfold jB.f
    rw [if_pos rfl]
    have := eqC_l0 cs [] k (by omega) (by simp; omega) B
    simpa using this
   have MT := mtot_sv hs
   have NN := sum_nn hs
   have MH : laws_markHeap.f (hs.map sv) 1 = some (1 + mtot (hs.map sv)) := by
    unfold laws_markHeap.f laws_markStoreS.f
    rw [if_pos ⟨by omega, by omega⟩]; rfl
   rw [if_neg d, toH hs _ (by omega) hl hc]; simp only [Option.bind_some]
   rw [toA _ a xs ys o bx by' (by omega)]; simp only [Option.bind_some]
   rw [S]; simp only [Option.bind_some]
   rw [I]; simp only [Option.bind_some]
   rw [EQ _ (by omega)]; simp only [Option.bind_some]
   rw [if_pos trivial, eqH (hs.map sv) _ (by omega) (by simpa using hl) hb2]; simp only [Option.bind_some]
   rw [if_pos trivial, eqA _ a xs ys o bx by' (by omega)]; simp only [Option.bind_some]
   rw [if_pos trivial, MH]; simp only [Option.bind_some]
   unfold laws_markArray.f
   rw [markV 8000001 xs ys o (1 + mtot (hs.map sv)) bx by' (by omega) (by omega) (by omega)]; simp only [Option.bind_some]
   rw [if_neg (by omega)]
   rw [laws_FnExactRead.j0, if_neg (by decide)]
   have M : jC.f 8000000 cs 1 = some (1 + 3 * (cs.length : Int), cmk cs.length 1) := by
    have := cmark_l0 cs [] 8000000 1 (by omega) (by simp; omega) (by omega) (by omega)
    simpa [jC.f] using this
   have HE : jL.f 8000000 (cmk cs.length 1) 1 = some (1 + 3 * (cs.length : Int)) := by
    have := cheld_l0 cs.length [] 8000000 1 (by omega) (by simp; omega) (by omega) (by omega)
    simpa [jL.f] using this
   obtain ⟨cs0, S1, I1, _, _⟩ := S0
   have e0 : cs0 = cs := by
    have := spec_Read.mono (hs.map sv) a xs ys o 8000000 _ S1
    rw [S] at this
    exact (Option.some.inj this).symm
   rw [M]; simp only [Option.bind_some]
   rw [HE]; simp only [Option.bind_some]
   rw [if_neg (by omega), if_pos trivial, toH hs _ (by omega) hl hc]; simp only [Option.bind_some]
   rw [toA _ a xs ys o bx by' (by omega)]; simp only [Option.bind_some]
   rw [I1, e0]; simp only [Option.bind_some]
   rw [EQ _ (by omega)]; simp only [Option.bind_some]
   rw [if_pos trivial, if_neg (by omega), if_pos trivial]
end Go.Proofs.YtpmdgmnpkdoamabDoor.DFnExactRead
