/- Proved here: the places of a view's elements, worked out axis by axis, with axes put together and by an odometer, are one list (plain Lean). Conditions: those that stand in each theorem. -/
namespace Go.Proofs.Ytpmdgmnpkdoamaa.Odo
def places : List Int → List Int → Int → List Int
 | n :: ns, s :: ss, at' => (List.range n.toNat).flatMap fun (i : Nat) => places ns ss (at' + (i : Int) * s)
 | _, _, at' => [at']
theorem places_append : ∀ (pre ps suf ss : List Int) (a : Int), pre.length = ps.length → places (pre ++ suf) (ps ++ ss) a = (places pre ps a).flatMap fun b => places suf ss b
 | [], [], suf, ss, a, _ => by simp [places]
 | [], _ :: _, _, _, _, h => by simp at h
 | _ :: _, [], _, _, _, h => by simp at h
 | n :: pre, s :: ps, suf, ss, a, h => by
  have ih := fun b => places_append pre ps suf ss b (by simpa using h)
  simp only [List.cons_append, places]
  rw [List.flatMap_assoc]
  congr 1
  funext i
  exact ih _
theorem places_one (ns ss : List Int) (s a : Int) : places (1 :: ns) (s :: ss) a = places ns ss a := by
 simp [places]
theorem flat_one {α β : Type} (f : α → β) (l : List α) : (l.flatMap fun x => [f x]) = l.map f := by induction l <;> simp_all
theorem flat_range {α : Type} (f : Nat → List α) (k : Nat) : ∀ m : Nat, (List.range (m * k)).flatMap f = (List.range m).flatMap fun i => (List.range k).flatMap fun j => f (i * k + j)
 | 0 => by simp
 | m + 1 => by
  rw [Nat.succ_mul, List.range_add, List.flatMap_append, flat_range f k m, List.range_succ, List.flatMap_append]
  congr 1
  simp [List.flatMap_map]
theorem places_merge (ns ss : List Int) (n1 n2 s2 a : Int) (h1 : 0 ≤ n1) (h2 : 0 ≤ n2) : places (n1 :: n2 :: ns) (s2 * n2 :: s2 :: ss) a = places (n1 * n2 :: ns) (s2 :: ss) a := by
 obtain ⟨m1, rfl⟩ := Int.eq_ofNat_of_zero_le h1
 obtain ⟨m2, rfl⟩ := Int.eq_ofNat_of_zero_le h2
 simp only [places]
 rw [show ((m1 : Int) * (m2 : Int)).toNat = m1 * m2 by rw [← Int.natCast_mul, Int.toNat_natCast], flat_range]
 simp only [Int.toNat_natCast]
 congr 1
 funext i
 congr 1
 funext j
 congr 1
 rw [Int.natCast_add, Int.natCast_mul, Int.add_mul, Int.add_assoc]
 congr 2
 rw [Int.mul_comm s2 m2, Int.mul_assoc]
def mg : List (Int × Int) → List Int → List Int → List (Int × Int)
 | acc, k :: ks, s :: ss => if k = 1 then mg acc ks ss else match acc with
  | (n0, s0) :: r => if s0 = s * k then mg ((n0 * k, s) :: r) ks ss else mg ((k, s) :: (n0, s0) :: r) ks ss
  | [] => mg [(k, s)] ks ss
 | acc, _, _ => acc
def fsts (acc : List (Int × Int)) : List Int := acc.reverse.map Prod.fst
def snds (acc : List (Int × Int)) : List Int := acc.reverse.map Prod.snd
theorem fsts_cons (x : Int × Int) (acc : List (Int × Int)) : fsts (x :: acc) = fsts acc ++ [x.1] := by simp [fsts]
theorem snds_cons (x : Int × Int) (acc : List (Int × Int)) : snds (x :: acc) = snds acc ++ [x.2] := by simp [snds]
theorem lens (acc : List (Int × Int)) : (fsts acc).length = (snds acc).length := by simp [fsts, snds]
theorem mg_places : ∀ (ks ss : List Int) (acc : List (Int × Int)) (a : Int), ks.length = ss.length → (∀ k ∈ ks, 0 ≤ k) → (∀ x ∈ acc, 0 ≤ x.1) → places (fsts (mg acc ks ss)) (snds (mg acc ks ss)) a = places (fsts acc ++ ks) (snds acc ++ ss) a
 | [], [], acc, a, _, _, _ => by simp [mg]
 | [], _ :: _, _, _, h, _, _ => by simp at h
 | _ :: _, [], _, _, h, _, _ => by simp at h
 | k :: ks, s :: ss, acc, a, h, hk, ha => by
  have hl : ks.length = ss.length := by simpa using h
  have hk' : ∀ x ∈ ks, 0 ≤ x := fun x hx => hk x (by simp [hx])
  have k0 : 0 ≤ k := hk k (by simp)
  have same : ∀ acc : List (Int × Int), (∀ x ∈ acc, 0 ≤ x.1) → places (fsts (mg ((k, s) :: acc) ks ss)) (snds (mg ((k, s) :: acc) ks ss)) a = places (fsts acc ++ k :: ks) (snds acc ++ s :: ss) a := by
   intro acc ha
   rw [mg_places ks ss ((k, s) :: acc) a hl hk' (by intro x hx; rcases List.mem_cons.1 hx with rfl | hx; exact k0; exact ha x hx), fsts_cons, snds_cons, List.append_assoc, List.append_assoc]
   rfl
  unfold mg
  by_cases h1 : k = 1
  ·rw [if_pos h1, mg_places ks ss acc a hl hk' ha, places_append _ _ _ _ _ (lens acc), places_append _ _ _ _ _ (lens acc)]
   subst h1
   congr 1
   funext b
   exact (places_one ks ss s b).symm
  ·rw [if_neg h1]
   cases acc with
   | nil => exact same [] ha
   | cons x r =>
    obtain ⟨n0, s0⟩ := x
    dsimp only
    by_cases h2 : s0 = s * k
    ·rw [if_pos h2]
     have n00 : 0 ≤ n0 := ha (n0, s0) (by simp)
     rw [mg_places ks ss ((n0 * k, s) :: r) a hl hk' (by intro x hx; rcases List.mem_cons.1 hx with rfl | hx; exact Int.mul_nonneg n00 k0; exact ha x (by simp [hx]))]
     rw [fsts_cons, snds_cons, fsts_cons, snds_cons, List.append_assoc, List.append_assoc, List.append_assoc, List.append_assoc, places_append _ _ _ _ _ (lens r), places_append _ _ _ _ _ (lens r)]
     congr 1
     funext b
     subst h2
     exact (places_merge ks ss n0 k s b n00 k0).symm
    ·rw [if_neg h2]
     exact same ((n0, s0) :: r) ha
def upd (D : Nat → Int) (i : Nat) (x : Int) : Nat → Int := fun j => if j = i then x else D j
theorem upd_same (D : Nat → Int) (i : Nat) (x : Int) : upd D i x i = x := by simp [upd]
theorem upd_other (D : Nat → Int) {i j : Nat} (x : Int) (h : j ≠ i) : upd D i x j = D j := by simp [upd, h]
section
variable (N S : Nat → Int)
def inner (i : Nat) (b : Int) : List Int := (List.range (N i).toNat).map fun (j : Nat) => b + (j : Int) * S i
def later (i : Nat) (d p : Int) : List Int := (List.range (N i - 1 - d).toNat).map fun (j : Nat) => p + ((j : Int) + 1) * S i
def after : Nat → (Nat → Int) → Int → List Int
 | 0, _, _ => []
 | i + 1, D, p => later N S i (D i) p ++ (after i D (p - D i * S i)).flatMap (inner N S i)
def step : Nat → (Nat → Int) → Int → Option ((Nat → Int) × Int)
 | 0, _, _ => none
 | i + 1, D, p => if D i + 1 < N i then some (upd D i (D i + 1), p + S i) else step i (upd D i 0) (p + S i - S i * N i)
theorem after_congr : ∀ (i : Nat) (D D' : Nat → Int) (p : Int), (∀ j, j < i → D j = D' j) → after N S i D p = after N S i D' p
 | 0, _, _, _, _ => rfl
 | i + 1, D, D', p, h => by
  simp only [after]
  rw [h i (by omega), after_congr i D D' _ (fun j hj => h j (by omega))]
theorem inner_cons (i : Nat) (b : Int) (h : 1 ≤ N i) : inner N S i b = b :: later N S i 0 b := by
 unfold inner later
 rw [show (N i).toNat = (N i - 1 - 0).toNat + 1 by omega, List.range_succ_eq_map]
 simp [List.map_map, Function.comp_def]
theorem later_cons (i : Nat) (d p : Int) (h : d + 1 < N i) : later N S i d p = (p + S i) :: later N S i (d + 1) (p + S i) := by
 unfold later
 rw [show (N i - 1 - d).toNat = (N i - 1 - (d + 1)).toNat + 1 by omega, List.range_succ_eq_map]
 simp only [List.map_cons, List.map_map, Function.comp_def]
 congr 1
 ·simp
 ·congr 1
  funext j
  simp only [Nat.succ_eq_add_one, Int.natCast_add, Int.natCast_one, Int.add_mul, Int.one_mul]
  omega
theorem later_nil (i : Nat) (d p : Int) (h : N i ≤ d + 1) : later N S i d p = [] := by
 unfold later
 rw [show (N i - 1 - d).toNat = 0 by omega]
 rfl
def valid (i : Nat) (D : Nat → Int) : Prop := ∀ j, j < i → 0 ≤ D j ∧ D j < N j
theorem step_tells : ∀ (i : Nat) (D : Nat → Int) (p : Int), valid N i D →
  (step N S i D p = none → after N S i D p = []) ∧
  (∀ D' p', step N S i D p = some (D', p') → after N S i D p = p' :: after N S i D' p' ∧ valid N i D' ∧ ∀ j, i ≤ j → D' j = D j)
 | 0, D, p, _ => ⟨fun _ => rfl, fun D' p' h => by simp [step] at h⟩
 | i + 1, D, p, hv => by
  have hi := hv i (by omega)
  by_cases h : D i + 1 < N i
  ·refine ⟨fun e => by simp [step, h] at e, fun D' p' e => ?_⟩
   simp only [step, if_pos h, Option.some.injEq, Prod.mk.injEq] at e
   obtain ⟨rfl, rfl⟩ := e
   refine ⟨?_, ?_, fun j hj => upd_other D _ (by omega)⟩
   ·simp only [after, upd_same]
    rw [later_cons N S i (D i) p h, List.cons_append]
    congr 3
    rw [after_congr N S i D (upd D i (D i + 1)) _ (fun j hj => (upd_other D _ (by omega)).symm)]
    congr 1
    rw [Int.add_mul, Int.one_mul]
    omega
   ·intro j hj
    by_cases e : j = i
    ·subst e; rw [upd_same]; omega
    ·rw [upd_other D _ e]; exact hv j (by omega)
  ·have e1 : p + S i - S i * N i = p - D i * S i := by
    have : D i = N i - 1 := by omega
    rw [this, Int.sub_mul, Int.one_mul, Int.mul_comm (S i) (N i)]
    omega
   have hv' : valid N i (upd D i 0) := fun j hj => by rw [upd_other D _ (by omega)]; exact hv j (by omega)
   have ih := step_tells i (upd D i 0) (p - D i * S i) hv'
   have hs : step N S (i + 1) D p = step N S i (upd D i 0) (p - D i * S i) := by simp only [step, if_neg h, e1]
   have ha : after N S (i + 1) D p = (after N S i (upd D i 0) (p - D i * S i)).flatMap (inner N S i) := by
    simp only [after]
    rw [later_nil N S i (D i) p (by omega), List.nil_append, after_congr N S i D (upd D i 0) _ (fun j hj => (upd_other D _ (by omega)).symm)]
   rw [hs, ha]
   refine ⟨fun e => by rw [ih.1 e]; rfl, fun D' p' e => ?_⟩
   obtain ⟨g1, g2, g3⟩ := ih.2 D' p' e
   have d0 : D' i = 0 := by rw [g3 i (by omega), upd_same]
   refine ⟨?_, ?_, fun j hj => by rw [g3 j (by omega), upd_other D _ (by omega)]⟩
   ·rw [g1, List.flatMap_cons, inner_cons N S i p' (by omega), List.cons_append]
    simp only [after, d0, Int.zero_mul, Int.sub_zero]
   ·intro j hj
    by_cases e : j = i
    ·subst e; omega
    ·exact g2 j (by omega)
theorem places_after : ∀ (i : Nat) (a : Int), (∀ j, j < i → 1 ≤ N j) → places ((List.range i).map N) ((List.range i).map S) a = a :: after N S i (fun _ => 0) a
 | 0, a, _ => by simp [places, after]
 | i + 1, a, h => by
  rw [List.range_succ, List.map_append, List.map_append, places_append _ _ _ _ _ (by simp), places_after i a (fun j hj => h j (by omega)), List.flatMap_cons]
  have hin : ∀ b, places ((List.map N [i])) ((List.map S [i])) b = inner N S i b := by
   intro b
   simp only [List.map_cons, List.map_nil, places, inner]
   exact flat_one _ _
  simp only [hin]
  rw [inner_cons N S i a (h i (by omega))]
  simp only [after, Int.zero_mul, Int.sub_zero, List.cons_append]
end
def ms (acc : List (Int × Int)) (k s : Int) : List (Int × Int) := if k = 1 then acc else match acc with
 | (n0, s0) :: r => if s0 = s * k then (n0 * k, s) :: r else (k, s) :: (n0, s0) :: r
 | [] => [(k, s)]
theorem mg_cons (acc : List (Int × Int)) (k s : Int) (ks ss : List Int) : mg acc (k :: ks) (s :: ss) = mg (ms acc k s) ks ss := by
 conv => lhs; unfold mg
 unfold ms
 split
 ·rfl
 ·cases acc with
  | nil => rfl
  | cons x r =>
   obtain ⟨n0, s0⟩ := x
   dsimp only
   split <;> rfl
theorem mg_snoc : ∀ (ks ss : List Int) (acc : List (Int × Int)) (k s : Int), ks.length = ss.length → mg acc (ks ++ [k]) (ss ++ [s]) = ms (mg acc ks ss) k s
 | [], [], acc, k, s, _ => by simp only [List.nil_append, mg_cons]; simp [mg]
 | [], _ :: _, _, _, _, h => by simp at h
 | _ :: _, [], _, _, _, h => by simp at h
 | a :: ks, b :: ss, acc, k, s, h => by
  simp only [List.cons_append, mg_cons]
  exact mg_snoc ks ss _ k s (by simpa using h)
def pr : List Int → Int
 | [] => 1
 | x :: xs => x * pr xs
def pf (acc : List (Int × Int)) : Int := pr (acc.map Prod.fst)
def allpos (acc : List (Int × Int)) : Prop := ∀ x ∈ acc, 1 ≤ x.1
def alls (acc : List (Int × Int)) : Prop := ∀ x ∈ acc, -4096 ≤ x.2 ∧ x.2 ≤ 4096
theorem ms_pf {acc : List (Int × Int)} {k s : Int} : pf (ms acc k s) = pf acc * k := by
 unfold ms
 split
 ·rename_i h; rw [h, Int.mul_one]
 ·cases acc with
  | nil => simp [pf, pr]
  | cons x r =>
   obtain ⟨n0, s0⟩ := x
   dsimp only
   split
   ·simp only [pf, List.map_cons, pr]; rw [Int.mul_assoc, Int.mul_assoc, Int.mul_comm k]
   ·simp only [pf, List.map_cons, pr]; rw [Int.mul_comm]
theorem ms_pos {acc : List (Int × Int)} {k s : Int} (ha : allpos acc) (hk : 1 ≤ k) : allpos (ms acc k s) := by
 unfold ms
 split
 ·exact ha
 ·cases acc with
  | nil => intro x hx; simp at hx; subst hx; exact hk
  | cons x r =>
   obtain ⟨n0, s0⟩ := x
   dsimp only
   have h0 : 1 ≤ n0 := ha (n0, s0) (by simp)
   have hm : 1 ≤ n0 * k := by have := Int.mul_le_mul h0 hk (by omega) (by omega); simpa using this
   split
   ·intro x hx; rcases List.mem_cons.1 hx with rfl | hx; exact hm; exact ha x (by simp [hx])
   ·intro x hx; rcases List.mem_cons.1 hx with rfl | hx; exact hk; exact ha x hx
theorem ms_s {acc : List (Int × Int)} {k s : Int} (ha : alls acc) (hs : -4096 ≤ s ∧ s ≤ 4096) : alls (ms acc k s) := by
 unfold ms
 split
 ·exact ha
 ·cases acc with
  | nil => intro x hx; simp at hx; subst hx; exact hs
  | cons x r =>
   obtain ⟨n0, s0⟩ := x
   dsimp only
   split
   ·intro x hx; rcases List.mem_cons.1 hx with rfl | hx; exact hs; exact ha x (by simp [hx])
   ·intro x hx; rcases List.mem_cons.1 hx with rfl | hx; exact hs; exact ha x hx
theorem ms_len (acc : List (Int × Int)) (k s : Int) : (ms acc k s).length ≤ acc.length + 1 := by
 unfold ms
 split
 ·omega
 ·cases acc with
  | nil => simp
  | cons x r =>
   obtain ⟨n0, s0⟩ := x
   dsimp only
   split <;> simp
theorem pr_pos : ∀ {l : List Int}, (∀ x ∈ l, 1 ≤ x) → 1 ≤ pr l
 | [], _ => by simp [pr]
 | x :: l, h => by
  have h1 := pr_pos (l := l) (fun y hy => h y (by simp [hy]))
  have h2 := h x (by simp)
  have := Int.mul_le_mul h2 h1 (by omega) (by omega)
  simpa [pr] using this
theorem pf_le {acc : List (Int × Int)} (ha : allpos acc) : ∀ x ∈ acc, x.1 ≤ pf acc := by
 induction acc with
 | nil => simp
 | cons a r ih =>
  intro x hx
  have hr : 1 ≤ pf r := pr_pos (by intro y hy; obtain ⟨z, hz, rfl⟩ := List.mem_map.1 hy; exact ha z (by simp [hz]))
  have h0 := ha a (by simp)
  have e : pf (a :: r) = a.1 * pf r := rfl
  rw [e]
  rcases List.mem_cons.1 hx with rfl | hx
  ·have := Int.mul_le_mul_of_nonneg_left hr (show 0 ≤ x.1 by omega); omega
  ·have h1 := ih (fun y hy => ha y (by simp [hy])) x hx
   have := Int.mul_le_mul_of_nonneg_right h0 (show 0 ≤ pf r by omega)
   omega
theorem mg_known : ∀ (ks ss : List Int) (acc : List (Int × Int)), ks.length = ss.length → (∀ k ∈ ks, 1 ≤ k) → (∀ s ∈ ss, -4096 ≤ s ∧ s ≤ 4096) → allpos acc → alls acc →
  allpos (mg acc ks ss) ∧ alls (mg acc ks ss) ∧ pf (mg acc ks ss) = pf acc * pr ks ∧ (mg acc ks ss).length ≤ acc.length + ks.length
 | [], [], acc, _, _, _, ha, hs => by simp [mg, pr, ha, hs]
 | [], _ :: _, _, h, _, _, _, _ => by simp at h
 | _ :: _, [], _, h, _, _, _, _ => by simp at h
 | k :: ks, s :: ss, acc, h, hk, hs, ha, hb => by
  rw [mg_cons]
  obtain ⟨a, b, c, d⟩ := mg_known ks ss (ms acc k s) (by simpa using h) (fun x hx => hk x (by simp [hx])) (fun x hx => hs x (by simp [hx])) (ms_pos ha (hk k (by simp))) (ms_s hb (hs s (by simp)))
  refine ⟨a, b, ?_, ?_⟩
  ·rw [c, ms_pf, pr, Int.mul_assoc]
  ·have := ms_len acc k s; simp; omega
theorem pr_take_le : ∀ (l : List Int) (i : Nat), (∀ x ∈ l, 1 ≤ x) → pr (l.take i) ≤ pr l
 | [], i, _ => by simp
 | x :: l, 0, h => by simpa [pr] using pr_pos h
 | x :: l, i + 1, h => by
  simp only [List.take_succ_cons, pr]
  exact Int.mul_le_mul_of_nonneg_left (pr_take_le l i (fun y hy => h y (by simp [hy]))) (by have := h x (by simp); omega)
theorem mg_small (l0 l1 : List Int) (hl : l1.length = l0.length) (hp : ∀ x ∈ l0, 1 ≤ x) (hs : ∀ s ∈ l1, -4096 ≤ s ∧ s ≤ 4096) (hc : pr l0 ≤ 4096) (i : Nat) :
  (∀ x ∈ mg [] (l0.take i) (l1.take i), 1 ≤ x.1 ∧ x.1 ≤ 4096 ∧ -4096 ≤ x.2 ∧ x.2 ≤ 4096) ∧ (mg [] (l0.take i) (l1.take i)).length ≤ i := by
 obtain ⟨a, b, c, d⟩ := mg_known (l0.take i) (l1.take i) [] (by simp [hl]) (fun x hx => hp x (List.mem_of_mem_take hx)) (fun x hx => hs x (List.mem_of_mem_take hx)) (by intro x hx; simp at hx) (by intro x hx; simp at hx)
 have hpr := pr_take_le l0 i hp
 refine ⟨fun x hx => ⟨a x hx, ?_, b x hx⟩, by simp at d ⊢; omega⟩
 have := pf_le a x hx
 rw [c] at this
 simp [pf, pr] at this
 omega
def nth (acc : List (Int × Int)) (j : Nat) : Int × Int := acc.reverse.getD j (0, 0)
end Go.Proofs.Ytpmdgmnpkdoamaa.Odo
