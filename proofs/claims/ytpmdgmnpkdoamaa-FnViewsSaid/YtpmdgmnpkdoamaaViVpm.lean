/- Proved here: sums, products, digits, and what they say of the places of a view (plain laws over lists). Conditions: those that stand ahead in each theorem. -/
import Derived.Test.YtpmdgmnpkdoamaaViVpFnViews
namespace Go.Proofs.Ytpmdgmnpkdoamaa.DFnViews
open Go.RowKit Go.Proofs.YtpmdgmnpkdoamaaW.PrintWords Go.Proofs.YtpmdgmnpkdoamaaW.PrintLast Go.Proofs.YtpmdgmnpkdoamaaW.PrintMore
set_option linter.unusedVariables false
set_option linter.unusedSimpArgs false
def sm : Nat → Nat → (Nat → Int) → Int
 | _, 0, _ => 0
 | i, n + 1, f => f i + sm (i + 1) n f
def pm : Nat → Nat → (Nat → Int) → Int
 | _, 0, _ => 1
 | i, n + 1, f => f i * pm (i + 1) n f
theorem sm_congr {f g : Nat → Int} : ∀ (n i : Nat), (∀ j, i ≤ j → j < i + n → f j = g j) → sm i n f = sm i n g
 | 0, i, h => rfl
 | n + 1, i, h => by rw [sm, sm, h i (Nat.le_refl i) (by omega), sm_congr n (i + 1) (fun j h1 h2 => h j (by omega) (by omega))]
theorem pm_congr {f g : Nat → Int} : ∀ (n i : Nat), (∀ j, i ≤ j → j < i + n → f j = g j) → pm i n f = pm i n g
 | 0, i, h => rfl
 | n + 1, i, h => by rw [pm, pm, h i (Nat.le_refl i) (by omega), pm_congr n (i + 1) (fun j h1 h2 => h j (by omega) (by omega))]
theorem sm_upd {f : Nat → Int} {p : Nat} {A : Int} : ∀ (n i : Nat), i ≤ p → p < i + n → sm i n (fun j => if j = p then A else f j) = A - f p + sm i n f
 | 0, i, h1, h2 => by omega
 | n + 1, i, h1, h2 => by
  simp only [sm]
  by_cases e : i = p
  ·subst e
   rw [if_pos rfl, sm_congr (g := f) n (i + 1) (fun j h1 h2 => if_neg (by omega))]
   omega
  ·rw [if_neg e, sm_upd n (i + 1) (by omega) (by omega)]
   omega
theorem pm_upd {f : Nat → Int} {p : Nat} {A : Int} (h0 : f p = 1) : ∀ (n i : Nat), i ≤ p → p < i + n → pm i n (fun j => if j = p then A else f j) = A * pm i n f
 | 0, i, h1, h2 => by omega
 | n + 1, i, h1, h2 => by
  simp only [pm]
  by_cases e : i = p
  ·subst e
   rw [if_pos rfl, pm_congr (g := f) n (i + 1) (fun j h1 h2 => if_neg (by omega)), h0, Int.one_mul]
  ·rw [if_neg e, pm_upd h0 n (i + 1) (by omega) (by omega), Int.mul_left_comm]
theorem sm_shift {f : Nat → Int} : ∀ (n i : Nat), sm (i + 1) n f = sm i n (fun j => f (j + 1))
 | 0, i => rfl
 | n + 1, i => by rw [sm, sm, sm_shift n (i + 1)]
theorem pm_shift {f : Nat → Int} : ∀ (n i : Nat), pm (i + 1) n f = pm i n (fun j => f (j + 1))
 | 0, i => rfl
 | n + 1, i => by rw [pm, pm, pm_shift n (i + 1)]
theorem sm_zero : ∀ (n i : Nat), sm i n (fun _ => 0) = 0
 | 0, i => rfl
 | n + 1, i => by rw [sm, sm_zero n (i + 1)]; rfl
theorem pm_one : ∀ (n i : Nat), pm i n (fun _ => 1) = 1
 | 0, i => rfl
 | n + 1, i => by rw [pm, pm_one n (i + 1)]; rfl
def dot : List Int → List Int → Int
 | x :: xs, y :: ys => x * y + dot xs ys
 | _, _ => 0
theorem dot_sm : ∀ (xs ys : List Int), xs.length = ys.length → dot xs ys = sm 0 xs.length (fun j => xs.getD j 0 * ys.getD j 0)
 | [], [], _ => rfl
 | [], _ :: _, h => by simp at h
 | _ :: _, [], h => by simp at h
 | x :: xs, y :: ys, h => by
  rw [dot, dot_sm xs ys (by simpa using h)]
  simp only [List.length_cons, sm]
  rw [sm_shift]
  simp
theorem cnt_pm : ∀ (xs : List Int), cnt xs = pm 0 xs.length (fun j => xs.getD j 0)
 | [] => rfl
 | x :: xs => by
  rw [cnt, cnt_pm xs]
  simp only [List.length_cons, pm]
  rw [pm_shift]
  simp
def inb : List Int → List Int → Prop
 | [], [] => True
 | j :: J, n :: ns => (0 ≤ j ∧ j < n) ∧ inb J ns
 | _, _ => False
theorem inb_iff : ∀ (J ns : List Int), inb J ns ↔ J.length = ns.length ∧ ∀ j, j < ns.length → 0 ≤ J.getD j 0 ∧ J.getD j 0 < ns.getD j 0
 | [], [] => by simp [inb]
 | [], _ :: _ => by simp [inb]
 | _ :: _, [] => by simp [inb]
 | x :: J, n :: ns => by
  rw [inb, inb_iff J ns]
  simp only [List.length_cons]
  constructor
  ·rintro ⟨h1, h2, h3⟩
   refine ⟨by omega, fun j hj => ?_⟩
   cases j with
   | zero => simpa using h1
   | succ j => simpa using h3 j (by omega)
  ·rintro ⟨h1, h2⟩
   refine ⟨by simpa using h2 0 (by omega), by omega, fun j hj => by simpa using h2 (j + 1) (by omega)⟩
def dig : List Int → Nat → List Int
 | [], _ => []
 | _ :: ns, k => ((k / (cnt ns).toNat : Nat) : Int) :: dig ns (k % (cnt ns).toNat)
theorem cnt_pos : ∀ {ns : List Int}, pos ns → 1 ≤ cnt ns
 | [], _ => by simp [cnt]
 | n :: ns, h => by
  have h1 : 1 ≤ n := h n (by simp)
  have h2 := cnt_pos (ns := ns) (fun x hx => h x (by simp [hx]))
  rw [cnt]
  have := Int.mul_le_mul h1 h2 (by omega) (by omega)
  omega
theorem inb_dig : ∀ (ns : List Int) (k : Nat), pos ns → (k : Int) < cnt ns → inb (dig ns k) ns
 | [], _, _, _ => trivial
 | n :: ns, k, hp, hk => by
  have h1 : 1 ≤ n := hp n (by simp)
  have h2 := cnt_pos (ns := ns) (fun x hx => hp x (by simp [hx]))
  rw [cnt] at hk
  obtain ⟨c, hc⟩ : ∃ c : Nat, (c : Int) = cnt ns := ⟨(cnt ns).toNat, by omega⟩
  have e : (cnt ns).toNat = c := by omega
  rw [dig, inb, e]
  have hlt : k < c * n.toNat := by
   have : ((c * n.toNat : Nat) : Int) = n * cnt ns := by rw [Int.natCast_mul, hc, Int.toNat_of_nonneg (by omega), Int.mul_comm]
   omega
  refine ⟨⟨Int.natCast_nonneg _, ?_⟩, inb_dig ns (k % c) (fun x hx => hp x (by simp [hx])) (by have := Nat.mod_lt k (show 0 < c by omega); omega)⟩
  have h5 := Nat.div_lt_of_lt_mul hlt
  have h6 : ((k / c : Nat) : Int) < (n.toNat : Int) := Int.ofNat_lt.2 h5
  rwa [Int.toNat_of_nonneg (by omega)] at h6
theorem places_mem : ∀ (J ns ss : List Int) (a : Int), inb J ns → ns.length = ss.length → a + dot J ss ∈ places ns ss a
 | [], [], [], a, _, _ => by simp [places, dot]
 | [], [], _ :: _, a, _, h => by simp at h
 | _, _ :: _, [], a, _, h => by simp at h
 | [], _ :: _, _, a, h, _ => by simp [inb] at h
 | _ :: _, [], _, a, h, _ => by simp [inb] at h
 | j :: J, n :: ns, s :: ss, a, h, hl => by
  rw [inb] at h
  rw [places, List.mem_flatMap]
  refine ⟨j.toNat, by rw [List.mem_range]; omega, ?_⟩
  have := places_mem J ns ss (a + (j.toNat : Int) * s) h.2 (by simpa using hl)
  rw [dot]
  have e : (j.toNat : Int) = j := by omega
  rw [e] at this ⊢
  rwa [← Int.add_assoc]
theorem flat_get {f : Nat → List Int} {c : Nat} (hc : 0 < c) : ∀ (n k : Nat), (∀ i, i < n → (f i).length = c) → k < n * c → ((List.range n).flatMap f)[k]? = (f (k / c))[k % c]?
 | 0, k, _, h => by simp at h
 | n + 1, k, hl, h => by
  have hlen : ∀ m, m ≤ n → ((List.range m).flatMap f).length = m * c := by
   intro m
   induction m with
   | zero => intro _; simp
   | succ m ih => intro hm; rw [List.range_succ, List.flatMap_append, List.length_append, ih (by omega)]; simp [hl m (by omega), Nat.succ_mul]
  rw [List.range_succ, List.flatMap_append]
  by_cases hk : k < n * c
  ·rw [List.getElem?_append_left (by rw [hlen n (Nat.le_refl n)]; exact hk), flat_get hc n k (fun i hi => hl i (by omega)) hk]
  ·rw [List.getElem?_append_right (by rw [hlen n (Nat.le_refl n)]; omega), hlen n (Nat.le_refl n)]
   have h3 : k < n * c + c := by rw [Nat.succ_mul] at h; exact h
   have e1 : k / c = n := by
    refine (Nat.div_eq_iff hc).2 ⟨?_, ?_⟩ <;> omega
   have e2 : k % c = k - n * c := by
    rw [Nat.mod_eq_sub_mul_div, e1, Nat.mul_comm]
   rw [e1, e2]
   simp
theorem places_get : ∀ (ns ss : List Int) (a : Int) (k : Nat), ns.length = ss.length → ok ns → pos ns → (k : Int) < cnt ns → (places ns ss a)[k]? = some (a + dot (dig ns k) ss)
 | [], [], a, k, _, _, _, hk => by
  rw [cnt] at hk
  have : k = 0 := by omega
  subst this
  simp [places, dig, dot]
 | [], _ :: _, a, _, h, _, _, _ => by simp at h
 | _ :: _, [], a, _, h, _, _, _ => by simp at h
 | n :: ns, s :: ss, a, k, hl, ho, hp, hk => by
  have h1 : 1 ≤ n := hp n (by simp)
  have hp2 : pos ns := fun x hx => hp x (by simp [hx])
  have ho2 := (ok_cons.1 ho).2
  have h2 := cnt_pos hp2
  rw [cnt] at hk
  obtain ⟨c, hc⟩ : ∃ c : Nat, (c : Int) = cnt ns := ⟨(cnt ns).toNat, by omega⟩
  have e : (cnt ns).toNat = c := by omega
  have hlt : k < n.toNat * c := by
   have : ((n.toNat * c : Nat) : Int) = n * cnt ns := by rw [Int.natCast_mul, hc, Int.toNat_of_nonneg (by omega)]
   omega
  have hll : ns.length = ss.length := by simpa using hl
  rw [places, flat_get (c := c) (by omega) n.toNat k (fun i _ => by have := places_len ns ss (a + (i : Int) * s) hll ho2; omega) hlt]
  rw [places_get ns ss _ (k % c) hll ho2 hp2 (by have := Nat.mod_lt k (show 0 < c by omega); omega), dig, dot, e, Int.add_assoc]
theorem places_idx {ns ss : List Int} {a p : Int} (hl : ns.length = ss.length) (ho : ok ns) (hp : pos ns) (h : p ∈ places ns ss a) : ∃ J, inb J ns ∧ p = a + dot J ss := by
 obtain ⟨k, hk⟩ := List.mem_iff_getElem?.1 h
 have hlt : k < (places ns ss a).length := by
  rcases Nat.lt_or_ge k (places ns ss a).length with h | h
  ·exact h
  ·rw [List.getElem?_eq_none h] at hk; cases hk
 have h2 := places_len ns ss a hl ho
 rw [places_get ns ss a k hl ho hp (by omega)] at hk
 exact ⟨dig ns k, inb_dig ns k hp (by omega), (Option.some.inj hk).symm⟩
theorem dig_snoc : ∀ (ms : List Int) (n : Int) (v : Nat), pos ms → 1 ≤ n → dig (ms ++ [n]) v = dig ms (v / n.toNat) ++ [((v % n.toNat : Nat) : Int)] ∨ ¬ (v : Int) < cnt (ms ++ [n])
 | [], n, v, _, hn => by
  by_cases h : (v : Int) < cnt ([] ++ [n])
  ·refine .inl ?_
   simp only [List.nil_append, cnt] at h
   have : v < n.toNat := by omega
   simp [dig, cnt, Nat.mod_eq_of_lt this, Nat.div_eq_of_lt this]
  ·exact .inr h
 | m :: ms, n, v, hp, hn => by
  by_cases h : (v : Int) < cnt ((m :: ms) ++ [n])
  ·refine .inl ?_
   have hp2 : pos ms := fun x hx => hp x (by simp [hx])
   have h2 := cnt_pos hp2
   have ec : cnt (ms ++ [n]) = cnt ms * n := by
    have : ∀ l : List Int, cnt (l ++ [n]) = cnt l * n := by
     intro l
     induction l with
     | nil => simp [cnt]
     | cons a l ih => rw [List.cons_append, cnt, cnt, ih, Int.mul_assoc]
    exact this ms
   obtain ⟨c, hc⟩ : ∃ c : Nat, (c : Int) = cnt ms := ⟨(cnt ms).toNat, by omega⟩
   have e : (cnt ms).toNat = c := by omega
   obtain ⟨N, rfl⟩ : ∃ N : Nat, n = (N : Int) := ⟨n.toNat, by omega⟩
   have e2 : (cnt (ms ++ [(N : Int)])).toNat = c * N := by
    rw [ec, ← hc, ← Int.natCast_mul]; omega
   have ih := dig_snoc ms (N : Int) (v % (c * N)) hp2 hn
   have hcN : 0 < c * N := Nat.mul_pos (by omega) (by omega)
   rcases ih with ih | ih
   ·simp only [Int.toNat_natCast] at ih ⊢
    rw [List.cons_append, dig, e2, ih, dig, e, List.cons_append]
    rw [Nat.mul_comm c N, Nat.mod_mul_right_div_self, Nat.mod_mul_right_mod, Nat.div_div_eq_div_mul]
   ·exact absurd (by rw [ec, ← hc, ← Int.natCast_mul]; have := Nat.mod_lt v hcN; omega) ih
  ·exact .inr h
end Go.Proofs.Ytpmdgmnpkdoamaa.DFnViews
