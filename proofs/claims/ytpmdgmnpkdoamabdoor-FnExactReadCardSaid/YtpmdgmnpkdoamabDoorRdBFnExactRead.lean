/- Proved here: what the words printed for the law on Read answer where the laws on views share them (plain Lean). Conditions: the lists' lengths. -/
import Derived.Test.YtpmdgmnpkdoamabDoorRdDFnExactReadx
import Derived.ChangeSlices
namespace Go.Proofs.YtpmdgmnpkdoamabDoor.DFnExactRead
open Go.RowKit Go.Proofs.YtpmdgmnpkdoamabDoorW.PrintWords Go.Proofs.YtpmdgmnpkdoamabDoorW.PrintLast Go.Proofs.YtpmdgmnpkdoamabDoorW.PrintMore
set_option linter.unusedVariables false
set_option linter.unusedSimpArgs false
theorem w_id {n : Int} (h : -9223372036854775808 ≤ n) (h2 : n < 9223372036854775808) : wrap64 n = n := by unfold wrap64; omega
theorem rd_at (pre suf : List Int) (x : Int) : rd (pre ++ x :: suf) (pre.length : Int) = x := by simp [rd]
theorem len_mid (pre suf : List Int) (x : Int) : ((pre ++ x :: suf).length : Int) = pre.length + 1 + suf.length := by simp; omega
theorem next_pre (pre suf : List Int) (x : Int) : pre ++ x :: suf = (pre ++ [x]) ++ suf := by simp
theorem next_len (pre : List Int) (x : Int) : (pre.length : Int) + 1 = ((pre ++ [x]).length : Int) := by simp
theorem to_l0 : ∀ (n k : Nat) (xs ys : List Int) (i : Nat), i + n = xs.length → ys.length = xs.length → xs.length < 1099511627776 → n < k → (∀ j, j < i → ys[j]? = xs[j]?) → jK.l0 k xs ys i = some xs
 | 0, 0, _, _, _, _, _, _, hk, _ => by omega
 | n + 1, 0, _, _, _, _, _, _, hk, _ => by omega
 | 0, k + 1, xs, ys, i, h, hy, hb, hk, hj => by
  unfold jK.l0
  rw [if_neg (by omega)]
  congr 1
  apply List.ext_getElem?
  intro j
  rcases Nat.lt_or_ge j i with hji | hji
  ·exact hj j hji
  ·rw [List.getElem?_eq_none (by omega), List.getElem?_eq_none (by omega)]
 | n + 1, k + 1, xs, ys, i, h, hy, hb, hk, hj => by
  unfold jK.l0
  rw [if_pos (by omega), if_pos (by omega), if_pos (by omega), w_id (by omega) (by omega)]
  refine to_l0 n k xs _ (i + 1) (by omega) (by simp [hy]) hb (by omega) fun j hji => ?_
  rw [List.getElem?_set]
  split
  ·rename_i hij
   rw [if_pos (by omega)]
   have : i = j := by omega
   subst this
   have hi : i < xs.length := by omega
   simp [rd, List.getElem?_eq_getElem hi]
  ·exact hj j (by omega)
theorem to_f (k : Nat) (xs : List Int) (hb : xs.length < 1099511627776) (hk : xs.length < k) : jK.f k xs = some xs := by
 unfold jK.f
 rw [if_pos (by omega), if_pos (by omega)]
 exact to_l0 xs.length k xs _ 0 (by omega) (by simp) hb hk (fun j hj => by omega)
theorem eq_l0 : ∀ (n k : Nat) (xs : List Int) (i : Nat), i + n = xs.length → xs.length < 1099511627776 → n < k → jH.l0 k xs xs i = some true
 | 0, 0, _, _, _, _, hk => by omega
 | n + 1, 0, _, _, _, _, hk => by omega
 | 0, k + 1, xs, i, h, hb, hk => by
  unfold jH.l0
  rw [if_neg (by omega)]
 | n + 1, k + 1, xs, i, h, hb, hk => by
  unfold jH.l0
  rw [if_pos (by omega), if_pos (by omega), if_pos (by omega), if_pos rfl, w_id (by omega) (by omega)]
  exact eq_l0 n k xs (i + 1) (by omega) hb (by omega)
theorem eq_f (k : Nat) (xs : List Int) (hb : xs.length < 1099511627776) (hk : xs.length < k) : jH.f k xs xs = some true := by
 unfold jH.f
 rw [if_pos rfl]
 exact eq_l0 xs.length k xs 0 (by omega) hb hk
def cnt : List Int → Int
 | [] => 1
 | x :: xs => x * cnt xs
def ok (xs : List Int) : Prop := ∀ x ∈ xs, 0 ≤ x ∧ x ≤ 4096
theorem ok_cons {x : Int} {xs : List Int} : ok (x :: xs) ↔ (0 ≤ x ∧ x ≤ 4096) ∧ ok xs := by simp [ok]
theorem mul_bound {p x : Int} {m : Nat} (h0 : 0 ≤ p) (h1 : p ≤ 4096 ^ m) (x0 : 0 ≤ x) (x1 : x ≤ 4096) : 0 ≤ p * x ∧ p * x ≤ 4096 ^ (m + 1) :=
 ⟨Int.mul_nonneg h0 x0, by rw [Int.pow_succ]; exact Int.mul_le_mul h1 x1 x0 (Int.le_of_lt (Int.pow_pos (by omega)))⟩
theorem pow_le4 {m : Nat} (h : m ≤ 4) : (4096 : Int) ^ m ≤ 281474976710656 := by
 have : m = 0 ∨ m = 1 ∨ m = 2 ∨ m = 3 ∨ m = 4 := by omega
 rcases this with rfl | rfl | rfl | rfl | rfl <;> decide
theorem l2count_l0 : ∀ (suf pre : List Int) (k : Nat) (p : Int), suf.length < k → pre.length + suf.length ≤ 4 → 0 ≤ p → p ≤ 4096 ^ pre.length →
  (ok suf → jF.l0 k (pre ++ suf) p pre.length = some (if p * cnt suf > 4096 then -1 else p * cnt suf)) ∧ (¬ ok suf → jF.l0 k (pre ++ suf) p pre.length = some (-1))
 | [], pre, 0, p, hk, hl, h0, h1 => by simp at hk
 | x :: suf, pre, 0, p, hk, hl, h0, h1 => by simp at hk
 | [], pre, k + 1, p, hk, hl, h0, h1 => by
  constructor
  ·intro _
   unfold jF.l0
   rw [if_neg (by simp)]
   simp only [cnt, Int.mul_one]
   split <;> rfl
  ·intro h; exact absurd (by simp [ok]) h
 | x :: suf, pre, k + 1, p, hk, hl, h0, h1 => by
  have hlen := len_mid pre suf x
  simp only [List.length_cons] at hk hl
  by_cases hx : 0 ≤ x ∧ x ≤ 4096
  ·have hb := mul_bound h0 h1 hx.1 hx.2
   have h4 := pow_le4 (m := pre.length + 1) (by omega)
   have hpl : (pre ++ [x]).length = pre.length + 1 := by simp
   have ih := l2count_l0 suf (pre ++ [x]) k (p * x) (by omega) (by omega) hb.1 (by rw [hpl]; exact hb.2)
   have e : jF.l0 (k + 1) (pre ++ x :: suf) p pre.length = jF.l0 k ((pre ++ [x]) ++ suf) (p * x) (pre ++ [x]).length := by
    rw [jF.l0, if_pos (by omega), if_pos (by omega), rd_at, if_neg (by omega), if_neg (by omega), w_id (by omega) (by omega), w_id (by omega) (by omega), next_pre, next_len]
   rw [e]
   constructor
   ·intro h; rw [ih.1 (ok_cons.1 h).2, cnt, Int.mul_assoc]
   ·intro h; exact ih.2 fun h' => h (ok_cons.2 ⟨hx, h'⟩)
  ·have hn : ¬ ok (x :: suf) := fun h => hx (ok_cons.1 h).1
   refine ⟨fun h => absurd h hn, fun _ => ?_⟩
   rw [jF.l0, if_pos (by omega), if_pos (by omega), rd_at]
   split
   ·rfl
   ·rw [if_pos (by omega)]
theorem count_l0 : ∀ (suf pre : List Int) (k : Nat) (p : Int), suf.length < k → pre.length + suf.length ≤ 4 → 0 ≤ p → p ≤ 4096 ^ pre.length → ok suf →
  jJ.l0 k p (pre ++ suf) ((pre ++ suf).length : Int) pre.length = some (p * cnt suf)
 | [], pre, 0, p, hk, hl, h0, h1, h => by simp at hk
 | x :: suf, pre, 0, p, hk, hl, h0, h1, h => by simp at hk
 | [], pre, k + 1, p, hk, hl, h0, h1, h => by
  rw [jJ.l0, if_neg (by simp)]
  simp [cnt]
 | x :: suf, pre, k + 1, p, hk, hl, h0, h1, h => by
  have hlen := len_mid pre suf x
  simp only [List.length_cons] at hk hl
  obtain ⟨hx, ho⟩ := ok_cons.1 h
  have hb := mul_bound h0 h1 hx.1 hx.2
  have h4 := pow_le4 (m := pre.length + 1) (by omega)
  have hpl : (pre ++ [x]).length = pre.length + 1 := by simp
  have ih := count_l0 suf (pre ++ [x]) k (p * x) (by omega) (by omega) hb.1 (by rw [hpl]; exact hb.2) ho
  rw [jJ.l0, if_pos (by omega), if_pos (by omega), if_pos (by omega), rd_at, w_id (by omega) (by omega), w_id (by omega) (by omega), next_pre, next_len, ih, cnt, Int.mul_assoc]
theorem count_f (k : Nat) (xs : List Int) (hk : xs.length < k) (hl : xs.length ≤ 4) (h : ok xs) : jJ.f k xs = some (cnt xs) := by
 have := count_l0 xs [] k 1 hk (by simpa using hl) (by omega) (by simp) h
 simpa [jJ.f] using this
def good (xs : List Int) : Prop := xs.length ≤ 4 ∧ ok xs ∧ cnt xs ≤ 4096
theorem l2count_f (k : Nat) (xs : List Int) (hk : xs.length < k) : (good xs → jF.f k xs = some (cnt xs)) ∧ (¬ good xs → jF.f k xs = some (-1)) := by
 unfold jF.f
 by_cases hl : xs.length ≤ 4
 ·have := l2count_l0 xs [] k 1 hk (by simpa using hl) (by omega) (by simp)
  simp only [List.nil_append, Int.one_mul, List.length_nil, Int.natCast_zero] at this
  rw [if_neg (by omega)]
  constructor
  ·intro h
   rw [show ((0 : Int)) = ((0 : Nat) : Int) from rfl]
   have e := this.1 h.2.1
   rw [if_neg (by have := h.2.2; omega)] at e
   exact e
  ·intro h
   by_cases ho : ok xs
   ·have e := this.1 ho
    rw [if_pos (by have : ¬ cnt xs ≤ 4096 := fun hc => h ⟨hl, ho, hc⟩; omega)] at e
    exact e
   ·exact this.2 ho
 ·refine ⟨fun h => absurd h.1 hl, fun _ => ?_⟩
  rw [if_pos (by omega)]
theorem good_l0 : ∀ (suf pre : List Int) (k : Nat), suf.length + 5 < k → pre.length + suf.length ≤ 4 → ok pre →
  ((ok suf ∧ cnt (pre ++ suf) ≤ 4096) → jA.l0 k (pre ++ suf) (pre ++ suf) ((pre ++ suf).length : Int) pre.length = some true) ∧
  (¬ (ok suf ∧ cnt (pre ++ suf) ≤ 4096) → jA.l0 k (pre ++ suf) (pre ++ suf) ((pre ++ suf).length : Int) pre.length = some false)
 | [], pre, 0, hk, hl, hp => by simp at hk
 | x :: suf, pre, 0, hk, hl, hp => by simp at hk
 | [], pre, k + 1, hk, hl, hp => by
  simp only [List.length_nil] at hk hl
  have hc := count_f k (pre ++ []) (by simp; omega) (by simpa using hl) (by simpa using hp)
  rw [jA.l0, if_neg (by simp), hc]
  simp only [Option.bind_some, Option.some.injEq]
  constructor
  ·intro h; exact decide_eq_true h.2
  ·intro h; exact decide_eq_false fun hh => h ⟨by simp [ok], hh⟩
 | x :: suf, pre, k + 1, hk, hl, hp => by
  have hlen := len_mid pre suf x
  simp only [List.length_cons] at hk hl
  by_cases hx : 0 ≤ x ∧ x ≤ 4096
  ·have hpl : (pre ++ [x]).length = pre.length + 1 := by simp
   have ih := good_l0 suf (pre ++ [x]) k (by omega) (by omega) (by intro y hy; rcases List.mem_append.1 hy with hy | hy; exact hp y hy; simp at hy; subst hy; exact hx)
   rw [jA.l0, if_pos (by omega), if_pos (by omega), if_pos (by omega), rd_at, if_neg (by omega), if_neg (by omega), w_id (by omega) (by omega), next_pre, next_len]
   exact ⟨fun h => ih.1 ⟨(ok_cons.1 h.1).2, h.2⟩, fun h => ih.2 fun h' => h ⟨ok_cons.2 ⟨hx, h'.1⟩, h'.2⟩⟩
  ·rw [jA.l0, if_pos (by omega), if_pos (by omega), if_pos (by omega), rd_at]
   have hn : ¬ (ok (x :: suf) ∧ cnt (pre ++ x :: suf) ≤ 4096) := fun h => hx (ok_cons.1 h.1).1
   refine ⟨fun h => absurd h hn, fun _ => ?_⟩
   split
   ·rfl
   ·rw [if_pos (by omega)]
theorem goodShape_f (k : Nat) (xs : List Int) (hk : xs.length + 5 < k) : (good xs → jA.f k xs = some true) ∧ (¬ good xs → jA.f k xs = some false) := by
 unfold jA.f
 by_cases hl : xs.length ≤ 4
 ·have := good_l0 xs [] k (by omega) (by simpa using hl) (by simp [ok])
  simp only [List.nil_append, List.length_nil, Int.natCast_zero] at this
  rw [if_neg (by omega)]
  exact ⟨fun h => this.1 ⟨h.2.1, h.2.2⟩, fun h => this.2 fun hh => h ⟨hl, hh.1, hh.2⟩⟩
 ·refine ⟨fun h => absurd h.1 hl, fun _ => ?_⟩
  rw [if_pos (by omega)]
def places : List Int → List Int → Int → List Int
 | n :: ns, s :: ss, at' => (List.range n.toNat).flatMap fun (i : Nat) => places ns ss (at' + (i : Int) * s)
 | _, _, at' => [at']
def lo0 : List Int → List Int → Int
 | n :: ns, s :: ss => mn (s * (n - 1)) 0 + lo0 ns ss
 | _, _ => 0
def hi0 : List Int → List Int → Int
 | n :: ns, s :: ss => mx (s * (n - 1)) 0 + hi0 ns ss
 | _, _ => 0
def oks (ss : List Int) : Prop := ∀ s ∈ ss, -4096 ≤ s ∧ s ≤ 4096
theorem oks_cons {x : Int} {xs : List Int} : oks (x :: xs) ↔ (-4096 ≤ x ∧ x ≤ 4096) ∧ oks xs := by simp [oks]
theorem prod_bound {s m : Int} {B : Nat} (h1 : -4096 ≤ s) (h2 : s ≤ 4096) (m1 : -4096 ≤ m) (m2 : m ≤ 4096) : -16777216 ≤ s * m ∧ s * m ≤ 16777216 := by
 have h : (s * m).natAbs ≤ 4096 * 4096 := by rw [Int.natAbs_mul]; exact Nat.mul_le_mul (by omega) (by omega)
 omega
theorem places_len : ∀ (ns ss : List Int) (a : Int), ns.length = ss.length → ok ns → ((places ns ss a).length : Int) = cnt ns
 | [], [], a, _, _ => by simp [places, cnt]
 | [], _ :: _, a, h, _ => by simp at h
 | _ :: _, [], a, h, _ => by simp at h
 | n :: ns, s :: ss, a, h, ho => by
  have hn := (ok_cons.1 ho).1
  have key : ∀ m : Nat, ((((List.range m).flatMap fun (i : Nat) => places ns ss (a + (i : Int) * s)).length : Nat) : Int) = m * cnt ns := by
   intro m
   induction m with
   | zero => simp
   | succ m ih =>
    rw [List.range_succ, List.flatMap_append, List.length_append]
    have := places_len ns ss (a + (m : Int) * s) (by simpa using h) (ok_cons.1 ho).2
    simp only [List.flatMap_cons, List.flatMap_nil, List.append_nil]
    rw [Int.natCast_add, ih, this]
    rw [Int.natCast_add, Int.natCast_one, Int.add_mul, Int.one_mul]
  rw [places, key, cnt]
  congr 1
  omega
def pos (ns : List Int) : Prop := ∀ n ∈ ns, 1 ≤ n
theorem mul_mono_nonneg {s i m : Int} (h0 : 0 ≤ s) (hi : 0 ≤ i) (him : i ≤ m) : 0 ≤ i * s ∧ i * s ≤ s * m :=
 ⟨Int.mul_nonneg hi h0, by rw [Int.mul_comm s m]; exact Int.mul_le_mul_of_nonneg_right him h0⟩
theorem between {s i n : Int} (hi : 0 ≤ i) (hin : i < n) : mn (s * (n - 1)) 0 ≤ i * s ∧ i * s ≤ mx (s * (n - 1)) 0 := by
 unfold mn mx
 by_cases h : 0 ≤ s
 ·have := mul_mono_nonneg h hi (show i ≤ n - 1 by omega)
  constructor <;> split <;> omega
 ·have := mul_mono_nonneg (s := -s) (by omega) hi (show i ≤ n - 1 by omega)
  rw [Int.mul_neg, Int.neg_mul] at this
  constructor <;> split <;> omega
theorem ends {s n : Int} (hn : 1 ≤ n) : (∃ i : Nat, i < n.toNat ∧ (i : Int) * s = mn (s * (n - 1)) 0) ∧ (∃ i : Nat, i < n.toNat ∧ (i : Int) * s = mx (s * (n - 1)) 0) := by
 have e : ((n.toNat - 1 : Nat) : Int) * s = s * (n - 1) := by rw [Int.mul_comm]; congr 1; omega
 unfold mn mx
 constructor
 ·split
  ·exact ⟨0, by omega, by simp⟩
  ·exact ⟨n.toNat - 1, by omega, e⟩
 ·split
  ·exact ⟨0, by omega, by simp⟩
  ·exact ⟨n.toNat - 1, by omega, e⟩
theorem places_range : ∀ (ns ss : List Int) (a : Int), ns.length = ss.length → pos ns → (∀ p ∈ places ns ss a, a + lo0 ns ss ≤ p ∧ p ≤ a + hi0 ns ss) ∧ a + lo0 ns ss ∈ places ns ss a ∧ a + hi0 ns ss ∈ places ns ss a
 | [], [], a, _, _ => by simp [places, lo0, hi0]
 | [], _ :: _, a, h, _ => by simp at h
 | _ :: _, [], a, h, _ => by simp at h
 | n :: ns, s :: ss, a, h, hp => by
  have hn : 1 ≤ n := hp n (by simp)
  have ih := fun b => places_range ns ss b (by simpa using h) (fun m hm => hp m (by simp [hm]))
  refine ⟨fun p hp' => ?_, ?_, ?_⟩
  ·simp only [places, List.mem_flatMap, List.mem_range] at hp'
   obtain ⟨i, hi, hm⟩ := hp'
   have := (ih _).1 p hm
   have hb := between (s := s) (i := (i : Int)) (n := n) (by omega) (by omega)
   simp only [lo0, hi0]
   omega
  ·obtain ⟨i, hi, he⟩ := (ends (s := s) hn).1
   simp only [places, List.mem_flatMap, List.mem_range]
   refine ⟨i, hi, ?_⟩
   have := (ih (a + (i : Int) * s)).2.1
   rw [he] at this ⊢
   simp only [lo0]
   rw [Int.add_assoc] at this
   exact this
  ·obtain ⟨i, hi, he⟩ := (ends (s := s) hn).2
   simp only [places, List.mem_flatMap, List.mem_range]
   refine ⟨i, hi, ?_⟩
   have := (ih (a + (i : Int) * s)).2.2
   rw [he] at this ⊢
   simp only [hi0]
   rw [Int.add_assoc] at this
   exact this
theorem pos_of_cnt : ∀ {ns : List Int}, ok ns → cnt ns ≠ 0 → pos ns
 | [], _, _ => by simp [pos]
 | n :: ns, ho, hc => by
  have h0 : n ≠ 0 := fun h => hc (by rw [cnt, h, Int.zero_mul])
  have h1 : cnt ns ≠ 0 := fun h => hc (by rw [cnt, h, Int.mul_zero])
  have ih := pos_of_cnt (ok_cons.1 ho).2 h1
  have := (ok_cons.1 ho).1
  intro m hm
  rcases List.mem_cons.1 hm with rfl | hm
  ·omega
  ·exact ih m hm
theorem cnt_tail {n : Int} {ns : List Int} (hp : pos (n :: ns)) (h : cnt (n :: ns) ≤ 4096) : cnt ns ≤ 4096 ∧ 0 ≤ cnt ns := by
 have hc : ∀ {l : List Int}, pos l → 1 ≤ cnt l := by
  intro l
  induction l with
  | nil => intro _; simp [cnt]
  | cons a l ih =>
   intro hl
   have h1 := ih (fun m hm => hl m (by simp [hm]))
   have h2 := hl a (by simp)
   rw [cnt]
   have := Int.mul_le_mul h2 h1 (by omega) (by omega)
   simpa using this
 have h1 := hc (l := ns) (fun m hm => hp m (by simp [hm]))
 have hn : 1 ≤ n := hp n (by simp)
 rw [cnt] at h
 have := Int.mul_le_mul_of_nonneg_right hn (show 0 ≤ cnt ns by omega)
 omega
def need : List Int → Nat
 | [] => 1
 | n :: ns => n.toNat + 2 + need ns
theorem places_f (shape strides : List Int) (off : Int) : ∀ (suf sufs pre pres : List Int) (k : Nat) (a : Int), shape = pre ++ suf → strides = pres ++ sufs → pre.length = pres.length → suf.length = sufs.length → need suf ≤ k → pre.length + suf.length ≤ 4 → ok suf → pos suf → oks sufs → cnt suf ≤ 4096 →
  -100000000 + (suf.length : Int) * 16777216 ≤ a → a ≤ 100000000 - (suf.length : Int) * 16777216 →
  zZ.f k shape strides off pre.length a = some (places suf sufs a) := by
 intro suf
 induction suf with
 | nil =>
  intro sufs pre pres k a hs ht hl hl2 hk h4 ho hp hq hc a1 a2
  cases sufs with
  | cons _ _ => simp at hl2
  | nil =>
   cases k with
   | zero => simp [need] at hk
   | succ k => rw [zZ.f, if_pos (by rw [hs]; simp), places]; simp
 | cons n ns IH =>
  intro sufs pre pres k a hs ht hl hl2 hk h4 ho hp hq hc a1 a2
  obtain ⟨s, ss, rfl⟩ : ∃ s ss, sufs = s :: ss := by cases sufs with | nil => simp at hl2 | cons s ss => exact ⟨s, ss, rfl⟩
  obtain ⟨k, rfl⟩ : ∃ k', k = k' + 1 := ⟨k - 1, by simp [need] at hk; omega⟩
  have hlen := len_mid pre ns n
  have hlen2 := len_mid pres ss s
  rw [← hs] at hlen
  rw [← ht] at hlen2
  have hn := (ok_cons.1 ho).1
  have hsb := (oks_cons.1 hq).1
  have hct := cnt_tail hp hc
  have hpl := places_len (n :: ns) (s :: ss) a hl2 ho
  simp only [List.length_cons, need] at hk h4 hl2 a1 a2
  rw [zZ.f, if_neg (by omega)]
  have r1 : rd shape (pre.length : Int) = n := by rw [hs, rd_at]
  have r2 : rd strides (pre.length : Int) = s := by rw [ht, hl, rd_at]
  have loop : ∀ (m i k' : Nat), i + m = n.toNat → m + 1 + need ns ≤ k' →
    zZ.l0 k' (pre.length : Int) a ((List.range i).flatMap fun (i : Nat) => places ns ss (a + (i : Int) * s)) (i : Int) shape strides off = some (places (n :: ns) (s :: ss) a) := by
   intro m
   induction m with
   | zero =>
    intro i k' hi hk'
    obtain ⟨k'', rfl⟩ : ∃ k'', k' = k'' + 1 := ⟨k' - 1, by omega⟩
    rw [zZ.l0, if_pos (by omega), if_pos (by omega), r1, if_neg (by omega), places]
    rw [show i = n.toNat by omega]
   | succ m ih =>
    intro i k' hi hk'
    obtain ⟨k'', rfl⟩ : ∃ k'', k' = k'' + 1 := ⟨k' - 1, by omega⟩
    have hpb := prod_bound (B := 0) hsb.1 hsb.2 (show (-4096 : Int) ≤ (i : Int) by omega) (show (i : Int) ≤ 4096 by omega)
    rw [Int.mul_comm] at hpb
    have hrec := IH ss (pre ++ [n]) (pres ++ [s]) k'' (a + (i : Int) * s) (by rw [hs]; simp) (by rw [ht]; simp) (by simp; omega) (by omega) (by omega) (by simp; omega) (ok_cons.1 ho).2 (fun m hm => hp m (by simp [hm])) (oks_cons.1 hq).2 hct.1 (by omega) (by omega)
    rw [zZ.l0, if_pos (by omega), if_pos (by omega), r1, if_pos (by omega), if_pos (by omega), r2, w_id (n := (i : Int) * s) (by omega) (by omega), w_id (n := a + (i : Int) * s) (by omega) (by omega), w_id (by omega) (by omega), next_len pre n, hrec]
    simp only [Option.bind_some]
    have hstep : ((List.range i).flatMap fun (i : Nat) => places ns ss (a + (i : Int) * s)) ++ places ns ss (a + (i : Int) * s) = (List.range (i + 1)).flatMap fun (i : Nat) => places ns ss (a + (i : Int) * s) := by
     rw [List.range_succ, List.flatMap_append]; simp
    have hlenle : ((List.range (i + 1)).flatMap fun (i : Nat) => places ns ss (a + (i : Int) * s)).length ≤ (places (n :: ns) (s :: ss) a).length := by
     rw [places]
     obtain ⟨d, hd⟩ : ∃ d, n.toNat = (i + 1) + d := ⟨n.toNat - (i + 1), by omega⟩
     have e : List.range n.toNat = List.range (i + 1) ++ (List.range d).map (i + 1 + ·) := by rw [hd, List.range_add]
     rw [e, List.flatMap_append, List.length_append]
     omega
    have hl3 : ((List.range i).flatMap fun (i : Nat) => places ns ss (a + (i : Int) * s)).length + (places ns ss (a + (i : Int) * s)).length < 17592186044416 := by
     rw [← List.length_append, hstep]
     omega
    rw [if_pos hl3, hstep, w_id (n := (i : Int) + 1) (by omega) (by omega)]
    exact ih (i + 1) k'' (by omega) (by omega)
  exact loop n.toNat 0 k (by omega) (by omega)
def inr (l : List Int) : Prop := ∀ p ∈ l, 0 ≤ p ∧ p < 4096
theorem inr_cons {x : Int} {xs : List Int} : inr (x :: xs) ↔ (0 ≤ x ∧ x < 4096) ∧ inr xs := by simp [inr]
theorem vv_l1 : ∀ (suf pre : List Int) (k : Nat), suf.length < k → pre.length + suf.length < 1099511627776 →
  (inr suf → zW.l1 k (pre ++ suf) pre.length = some true) ∧ (¬ inr suf → zW.l1 k (pre ++ suf) pre.length = some false) := by
 intro suf
 induction suf with
 | nil =>
  intro pre k hk hl
  obtain ⟨k, rfl⟩ : ∃ k', k = k' + 1 := ⟨k - 1, by simp at hk; omega⟩
  refine ⟨fun _ => ?_, fun h => absurd (by simp [inr]) h⟩
  rw [zW.l1, if_neg (by simp)]
 | cons x suf IH =>
  intro pre k hk hl
  have hlen := len_mid pre suf x
  simp only [List.length_cons] at hk hl
  obtain ⟨k, rfl⟩ : ∃ k', k = k' + 1 := ⟨k - 1, by omega⟩
  by_cases hx : 0 ≤ x ∧ x < 4096
  ·have ih := IH (pre ++ [x]) k (by omega) (by simp; omega)
   rw [zW.l1, if_pos (by omega), if_pos (by omega), rd_at, if_neg (by omega), if_neg (by omega), w_id (by omega) (by omega), next_pre, next_len]
   exact ⟨fun h => ih.1 (inr_cons.1 h).2, fun h => ih.2 fun h' => h (inr_cons.2 ⟨hx, h'⟩)⟩
  ·have hn : ¬ inr (x :: suf) := fun h => hx (inr_cons.1 h).1
   refine ⟨fun h => absurd h hn, fun _ => ?_⟩
   rw [zW.l1, if_pos (by omega), if_pos (by omega), rd_at]
   split
   ·rfl
   ·rw [if_pos (by omega)]
theorem vv_l0 (n : Int) (shape : List Int) (off : Int) (r : Option Bool) (strides : List Int) (K : Nat) (hfin : ∀ k, K ≤ k → (if n = 0 then some true else (zZ.f k shape strides off 0 off).bind fun t126 => zW.l1 k t126 0) = r) :
  ∀ (suf pre : List Int) (k : Nat), strides = pre ++ suf → K + suf.length < k → pre.length + suf.length ≤ 4 →
  (oks suf → zW.l0 k n pre.length shape strides off = r) ∧ (¬ oks suf → zW.l0 k n pre.length shape strides off = some false) := by
 intro suf
 induction suf with
 | nil =>
  intro pre k hs hk hl
  obtain ⟨k, rfl⟩ : ∃ k', k = k' + 1 := ⟨k - 1, by omega⟩
  refine ⟨fun _ => ?_, fun h => absurd (by simp [oks]) h⟩
  simp only [List.length_nil] at hk
  rw [zW.l0, if_neg (by rw [hs]; simp)]
  exact hfin k (by omega)
 | cons x suf IH =>
  intro pre k hs hk hl
  have hlen := len_mid pre suf x
  rw [← hs] at hlen
  simp only [List.length_cons] at hk hl
  obtain ⟨k, rfl⟩ : ∃ k', k = k' + 1 := ⟨k - 1, by omega⟩
  have r1 : rd strides (pre.length : Int) = x := by rw [hs, rd_at]
  by_cases hx : -4096 ≤ x ∧ x ≤ 4096
  ·have ih := IH (pre ++ [x]) k (by rw [hs]; simp) (by omega) (by simp; omega)
   rw [zW.l0, if_pos (by omega), if_pos (by omega), r1, if_neg (by omega), if_neg (by omega), w_id (by omega) (by omega), next_len]
   exact ⟨fun h => ih.1 (oks_cons.1 h).2, fun h => ih.2 fun h' => h (oks_cons.2 ⟨hx, h'⟩)⟩
  ·have hn : ¬ oks (x :: suf) := fun h => hx (oks_cons.1 h).1
   refine ⟨fun h => absurd h hn, fun _ => ?_⟩
   rw [zW.l0, if_pos (by omega), if_pos (by omega), r1]
   split
   ·rfl
   ·rw [if_pos (by omega)]
theorem vv_bad (n : Int) (shape : List Int) (off : Int) (strides : List Int) :
  ∀ (suf pre : List Int) (k : Nat), strides = pre ++ suf → suf.length < k → pre.length + suf.length ≤ 4 → ¬ oks suf → zW.l0 k n pre.length shape strides off = some false := by
 intro suf
 induction suf with
 | nil => intro pre k hs hk hl h; exact absurd (by simp [oks]) h
 | cons x suf IH =>
  intro pre k hs hk hl h
  have hlen := len_mid pre suf x
  rw [← hs] at hlen
  simp only [List.length_cons] at hk hl
  obtain ⟨k, rfl⟩ : ∃ k', k = k' + 1 := ⟨k - 1, by omega⟩
  have r1 : rd strides (pre.length : Int) = x := by rw [hs, rd_at]
  by_cases hx : -4096 ≤ x ∧ x ≤ 4096
  ·have ih := IH (pre ++ [x]) k (by rw [hs]; simp) (by omega) (by simp; omega)
   rw [zW.l0, if_pos (by omega), if_pos (by omega), r1, if_neg (by omega), if_neg (by omega), w_id (by omega) (by omega), next_len]
   exact ih fun h' => h (oks_cons.2 ⟨hx, h'⟩)
  ·rw [zW.l0, if_pos (by omega), if_pos (by omega), r1]
   split
   ·rfl
   ·rw [if_pos (by omega)]
theorem iv_l0 (shape strides : List Int) (off : Int) (hok : ok shape) (h4 : shape.length ≤ 4) : ∀ (suf pre sufn pren : List Int) (k : Nat) (lo hi : Int), strides = pre ++ suf → shape = pren ++ sufn → pre.length = pren.length → suf.length = sufn.length → suf.length + 6 < k →
  -100000000 + (suf.length : Int) * 16777216 ≤ lo → lo ≤ 100000000 - (suf.length : Int) * 16777216 → -100000000 + (suf.length : Int) * 16777216 ≤ hi → hi ≤ 100000000 - (suf.length : Int) * 16777216 →
  (oks suf → zY.l0 k lo hi strides (strides.length : Int) pre.length shape strides off = (if cnt shape = 0 then some true else if lo + lo0 sufn suf ≥ 0 then some (decide (hi + hi0 sufn suf < 4096)) else some false)) ∧
  (¬ oks suf → zY.l0 k lo hi strides (strides.length : Int) pre.length shape strides off = some false) := by
 intro suf
 induction suf with
 | nil =>
  intro pre sufn pren k lo hi hs hn hl hl2 hk l1 l2 h1 h2
  obtain ⟨k, rfl⟩ : ∃ k', k = k' + 1 := ⟨k - 1, by omega⟩
  obtain rfl : sufn = [] := List.length_eq_zero_iff.1 (by simpa using hl2.symm)
  refine ⟨fun _ => ?_, fun h => absurd (by simp [oks]) h⟩
  simp only [List.length_nil] at hk
  rw [zY.l0, if_neg (by rw [hs]; simp), count_f k shape (by omega) h4 hok]
  simp only [Option.bind_some, lo0, hi0, Int.add_zero]
 | cons x suf IH =>
  intro pre sufn pren k lo hi hs hn hl hl2 hk l1 l2 h1 h2
  obtain ⟨n, ns, rfl⟩ : ∃ n ns, sufn = n :: ns := by cases sufn with | nil => simp at hl2 | cons s ss => exact ⟨s, ss, rfl⟩
  have hlen := len_mid pre suf x
  rw [← hs] at hlen
  have hlen2 := len_mid pren ns n
  rw [← hn] at hlen2
  simp only [List.length_cons] at hk l1 l2 h1 h2 hl2
  obtain ⟨k, rfl⟩ : ∃ k', k = k' + 1 := ⟨k - 1, by omega⟩
  have r1 : rd strides (pre.length : Int) = x := by rw [hs, rd_at]
  have r2 : rd shape (pre.length : Int) = n := by rw [hn, hl, rd_at]
  have hnb : 0 ≤ n ∧ n ≤ 4096 := hok n (by rw [hn]; simp)
  by_cases hx : -4096 ≤ x ∧ x ≤ 4096
  ·have hpb := prod_bound (B := 0) hx.1 hx.2 (show (-4096 : Int) ≤ n - 1 by omega) (show n - 1 ≤ 4096 by omega)
   have m1 : -16777216 ≤ mn (x * (n - 1)) 0 ∧ mn (x * (n - 1)) 0 ≤ 0 := by unfold mn; split <;> omega
   have m2 : mx (x * (n - 1)) 0 ≤ 16777216 ∧ 0 ≤ mx (x * (n - 1)) 0 := by unfold mx; split <;> omega
   have ih := IH (pre ++ [x]) ns (pren ++ [n]) k (lo + mn (x * (n - 1)) 0) (hi + mx (x * (n - 1)) 0) (by rw [hs]; simp) (by rw [hn]; simp) (by simp; omega) (by omega) (by omega) (by omega) (by omega) (by omega) (by omega)
   rw [zY.l0, if_pos (by omega), if_pos (by omega), if_pos (by omega), r1, if_neg (by omega), if_neg (by omega), if_pos (by omega), r2, w_id (n := n - 1) (by omega) (by omega), w_id (n := x * (n - 1)) (by omega) (by omega), w_id (n := lo + _) (by omega) (by omega), w_id (n := hi + _) (by omega) (by omega), w_id (by omega) (by omega), next_len pre x]
   refine ⟨fun h => ?_, fun h => ih.2 fun h' => h (oks_cons.2 ⟨hx, h'⟩)⟩
   rw [ih.1 (oks_cons.1 h).2]
   simp only [lo0, hi0, Int.add_assoc]
   rfl
  ·have hnn : ¬ oks (x :: suf) := fun h => hx (oks_cons.1 h).1
   refine ⟨fun h => absurd h hnn, fun _ => ?_⟩
   rw [zY.l0, if_pos (by omega), if_pos (by omega), if_pos (by omega), r1]
   split
   ·rfl
   ·rw [if_pos (by omega)]
theorem need_le : ∀ (ns : List Int), ok ns → need ns ≤ 4098 * ns.length + 1
 | [], _ => by simp [need]
 | n :: ns, h => by
  have := need_le ns (ok_cons.1 h).2
  have := (ok_cons.1 h).1
  simp only [need, List.length_cons]
  omega
theorem spec_j0 (k : Nat) (n : Int) (x y : List Int) (o : Int) (hk : 0 < k) : zW.j0 k n true x y o = some false := by
 obtain ⟨k, rfl⟩ : ∃ k', k = k' + 1 := ⟨k - 1, by omega⟩
 rw [zW.j0, if_pos rfl]
theorem impl_j0 (k : Nat) (x y : List Int) (o : Int) (hk : 0 < k) : zY.j0 k true x y o = some false := by
 obtain ⟨k, rfl⟩ : ∃ k', k = k' + 1 := ⟨k - 1, by omega⟩
 rw [zY.j0, if_pos rfl]
def VV (xs ys : List Int) (o : Int) : Prop := good xs ∧ ys.length = xs.length ∧ 0 ≤ o ∧ o ≤ 4096 ∧ oks ys ∧ (cnt xs ≠ 0 → inr (places xs ys o))
theorem vv_alike (k : Nat) (xs ys : List Int) (o : Int) (hk : xs.length + ys.length + 100000 ≤ k) : ∃ b, zW.f k xs ys o = some b ∧ zY.f k xs ys o = some b ∧ (b = true → VV xs ys o) := by
 unfold zW.f zY.f
 by_cases hg : good xs
 ·rw [(l2count_f k xs (by omega)).1 hg, (goodShape_f k xs (by omega)).1 hg]
  simp only [Option.bind_some, if_true]
  have h0 : 0 ≤ cnt xs := by
   have : ∀ l : List Int, ok l → 0 ≤ cnt l := by
    intro l
    induction l with
    | nil => intro _; simp [cnt]
    | cons a l ih => intro h; rw [cnt]; exact Int.mul_nonneg (ok_cons.1 h).1.1 (ih (ok_cons.1 h).2)
   exact this xs hg.2.1
  rw [if_neg (by omega)]
  by_cases hl : (ys.length : Int) = (xs.length : Int)
  ·rw [if_pos hl, if_pos hl]
   by_cases ho : o < 0
   ·rw [if_pos ho, if_pos ho]
    exact ⟨false, spec_j0 k _ _ _ _ (by omega), impl_j0 k _ _ _ (by omega), fun h => by cases h⟩
   ·rw [if_neg ho, if_neg ho]
    by_cases ho2 : o > 4096
    ·rw [decide_eq_true ho2]
     exact ⟨false, spec_j0 k _ _ _ _ (by omega), impl_j0 k _ _ _ (by omega), fun h => by cases h⟩
    ·rw [decide_eq_false ho2]
     obtain ⟨k, rfl⟩ : ∃ k', k = k' + 1 := ⟨k - 1, by omega⟩
     rw [zW.j0, zY.j0, if_neg (by simp), if_neg (by simp)]
     have h4 := hg.1
     have hnd := need_le xs hg.2.1
     have I := iv_l0 xs ys o hg.2.1 hg.1 ys [] xs [] k o o rfl rfl rfl (by omega) (by omega) (by omega) (by omega) (by omega) (by omega)
     by_cases hq : oks ys
     ·have I1 := I.1 hq
      by_cases hz : cnt xs = 0
      ·rw [if_pos hz] at I1
       have V := vv_l0 (cnt xs) xs o (some true) ys 50000 (fun k' _ => by rw [if_pos hz]) ys [] k rfl (by omega) (by simpa using (show ys.length ≤ 4 by omega))
       exact ⟨true, V.1 hq, I1, fun _ => ⟨hg, by omega, by omega, by omega, hq, fun h => absurd hz h⟩⟩
      ·rw [if_neg hz] at I1
       have hp := pos_of_cnt hg.2.1 hz
       have R := places_range xs ys o (by omega) hp
       have pl := places_len xs ys o (by omega) hg.2.1
       have P : ∀ k', 50000 ≤ k' → zZ.f k' xs ys o 0 o = some (places xs ys o) := fun k' hk' =>
        places_f xs ys o xs ys [] [] k' o rfl rfl rfl (by omega) (by omega) (by simpa using hg.1) hg.2.1 hp hq hg.2.2 (by omega) (by omega)
       have hc := hg.2.2
       have L := fun k' (hk' : 50000 ≤ k') => vv_l1 (places xs ys o) [] k' (by omega) (by simp; omega)
       by_cases hin : inr (places xs ys o)
       ·have V := vv_l0 (cnt xs) xs o (some true) ys 50000 (fun k' hk' => by rw [if_neg hz, P k' hk']; exact (L k' hk').1 hin) ys [] k rfl (by omega) (by simpa using (show ys.length ≤ 4 by omega))
        have a := hin _ R.2.1
        have b := hin _ R.2.2
        rw [if_pos (by omega), decide_eq_true b.2] at I1
        exact ⟨true, V.1 hq, I1, fun _ => ⟨hg, by omega, by omega, by omega, hq, fun _ => hin⟩⟩
       ·have V := vv_l0 (cnt xs) xs o (some false) ys 50000 (fun k' hk' => by rw [if_neg hz, P k' hk']; exact (L k' hk').2 hin) ys [] k rfl (by omega) (by simpa using (show ys.length ≤ 4 by omega))
        have e : (if o + lo0 xs ys ≥ 0 then some (decide (o + hi0 xs ys < 4096)) else some false) = some false := by
         split
         ·rename_i ha
          rw [decide_eq_false fun hb => hin fun p hp' => ?_]
          have := R.1 p hp'
          omega
         ·rfl
        exact ⟨false, V.1 hq, I1.trans e, fun h => by cases h⟩
     ·have V := vv_bad (cnt xs) xs o ys ys [] k rfl (by omega) (by simpa using (show ys.length ≤ 4 by omega)) hq
      exact ⟨false, V, I.2 hq, fun h => by cases h⟩
  ·rw [if_neg hl, if_neg hl]
   exact ⟨false, spec_j0 k _ _ _ _ (by omega), impl_j0 k _ _ _ (by omega), fun h => by cases h⟩
 ·rw [(l2count_f k xs (by omega)).2 hg, (goodShape_f k xs (by omega)).2 hg]
  simp only [Option.bind_some]
  rw [if_pos (by omega), if_neg (by simp)]
  exact ⟨false, spec_j0 k _ _ _ _ (by omega), impl_j0 k _ _ _ (by omega), fun h => by cases h⟩
section
open Go.ChangeShapes
variable {H : Type} {enc : TypeId × Value → H} {P : Program} {w : World} {base : Nat} {spare : Nat → Bool} {held : Bool}
theorem field_ints {t e : TypeId} {fuel : Nat} {c : Value} {x : DataW H × List MemPlace} (ht : P.underlying t = some (.slice e)) (he : P.underlying e = some (.int .i64)) (hc : P.cellsOf e = 1)
  (h : DataW.trod enc P w base spare held fuel t [c] = some x) :
  ∃ (A : Option Addr) (cap : Nat) (xs : List Int), c = .slice A xs.length cap ∧ xs.length ≤ cap ∧ xs.length ≤ 9223372036854775807 ∧ (Kd.int .i64).C w A xs.length xs := by
 rcases open_ints ht he hc h with ⟨hcs, _⟩ | ⟨a, len, cap, zs, hcs, _, hl, hm, hz, _, hcell, _⟩
 ·obtain rfl : c = .slice none 0 0 := by simpa using hcs
  exact ⟨none, 0, [], rfl, by simp, by simp, Kd.C_of_reads (d := 0) ⟨rfl, by simp, fun h => by simp at h⟩⟩
 ·obtain rfl : c = .slice (some a) len cap := by simpa using hcs
  have hlz : len ≤ zs.length := by rw [hz]; split <;> omega
  have hln : (zs.take len).length = len := by simp; omega
  have hmx : cap ≤ 9223372036854775807 := hm
  refine ⟨some a, cap, zs.take len, by rw [hln], by omega, by omega, Kd.C_of_reads (d := 0) ⟨rfl, by omega, fun _ => ⟨a, rfl, fun j hj => ?_⟩⟩⟩
  rw [hln] at hj
  rw [hcell j (by omega)]
  simp [List.getD, List.getElem?_take, hj]
end
def marks : Nat → Int → List Int
 | 0, _ => []
 | n + 1, a => a :: marks n (a + 1)
theorem mark_l0 : ∀ (suf pre : List Int) (k : Nat) (a : Int), suf.length < k → pre.length + suf.length < 1099511627776 → 0 ≤ a →
  a + suf.length ≤ 2199023255552 → jE.l0 k (pre ++ suf) a pre.length = some (a + suf.length, pre ++ marks suf.length a)
 | [], pre, k, a, hk, _, _, _ => by
  obtain ⟨k, rfl⟩ : ∃ m, k = m + 1 := ⟨k - 1, by omega⟩
  simp only [jE.l0, List.append_nil]
  rw [if_neg (by omega)]
  simp [marks]
 | x :: suf, pre, k, a, hk, hl, h0, h2 => by
  simp only [List.length_cons] at hk hl h2
  obtain ⟨k, rfl⟩ : ∃ m, k = m + 1 := ⟨k - 1, by omega⟩
  have ih := mark_l0 suf (pre ++ [a]) k (a + 1) (by omega) (by simp; omega) (by omega) (by omega)
  simp only [jE.l0]
  rw [if_pos (by rw [len_mid]; omega), if_pos (by omega)]
  rw [w_id (by omega) (by omega), w_id (n := (pre.length : Int) + 1) (by omega) (by omega), next_len pre a]
  have hs : (pre ++ x :: suf).set (pre.length : Int).toNat a = (pre ++ [a]) ++ suf := by simp
  rw [hs, ih]
  simp only [List.length_cons, marks, List.append_assoc, List.cons_append, List.nil_append]
  congr 2
  omega
theorem mark_f (xs : List Int) (k : Nat) (a : Int) (hk : xs.length < k) (hl : xs.length ≤ 1048576) (h0 : 0 ≤ a) (h1 : a ≤ 1099511627) : jE.f k xs a = some (a + xs.length, marks xs.length a) := by
 have := mark_l0 xs [] k a hk (by simp; omega) h0 (by omega)
 simpa [jE.f] using this
theorem toV (k : Nat) (xs ys : List Int) (o : Int) (hx : xs.length ≤ 1048576) (hy : ys.length ≤ 1048576) (hk : 1048576 < k) : laws_toView.f k xs ys o = some (xs, ys, o) := by
 unfold laws_toView.f
 rw [to_f k xs (by omega) (by omega)]; simp only [Option.bind_some]
 rw [to_f k ys (by omega) (by omega)]; rfl
theorem eqV (k : Nat) (xs ys : List Int) (o : Int) (hx : xs.length ≤ 1048576) (hy : ys.length ≤ 1048576) (hk : 1048576 < k) : laws_eqView.f k xs ys o xs ys o = some true := by
 unfold laws_eqView.f
 rw [eq_f k xs (by omega) (by omega), eq_f k ys (by omega) (by omega)]
 simp
theorem markV (k : Nat) (xs ys : List Int) (o a : Int) (hx : xs.length ≤ 1048576) (hy : ys.length ≤ 1048576) (hk : 1048576 < k) (h0 : 0 ≤ a) (h1 : a ≤ 100000000) :
  laws_markView.f k xs ys o a = some (a + xs.length + ys.length, marks xs.length a, marks ys.length (a + xs.length)) := by
 unfold laws_markView.f
 rw [mark_f xs k a (by omega) (by omega) (by omega) (by omega)]; simp only [Option.bind_some]
 rw [mark_f ys k _ (by omega) (by omega) (by omega) (by omega)]; rfl
end Go.Proofs.YtpmdgmnpkdoamabDoor.DFnExactRead
