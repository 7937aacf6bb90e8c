/- Proved here: what the words printed for spec's and impl's functions on views answer, the two alike (plain Lean). Conditions: the lists' lengths. -/
import Derived.Test.YtpmdgmnpkdoamaaViDFnViewsx3
import Derived.Test.YtpmdgmnpkdoamaaViDFnViewsx5
import Derived.Test.YtpmdgmnpkdoamaaViDFnViewsx6
import Derived.Test.YtpmdgmnpkdoamaaViDFnViewsx8
import Derived.Test.YtpmdgmnpkdoamaaViDFnViewsx10
import Derived.Test.YtpmdgmnpkdoamaaViDFnViewsx12
import Derived.Test.YtpmdgmnpkdoamaaViDFnViewsxr
import Derived.Test.YtpmdgmnpkdoamaaViDFnViewsxo
namespace Go.Proofs.Ytpmdgmnpkdoamaa.DFnViews
open Go.RowKit Go.Proofs.YtpmdgmnpkdoamaaW.PrintWords Go.Proofs.YtpmdgmnpkdoamaaW.PrintLast Go.Proofs.YtpmdgmnpkdoamaaW.PrintMore
set_option linter.unusedVariables false
set_option linter.unusedSimpArgs false
theorem w_id {n : Int} (h : -9223372036854775808 ≤ n) (h2 : n < 9223372036854775808) : wrap64 n = n := by unfold wrap64; omega
theorem rd_at (pre suf : List Int) (x : Int) : rd (pre ++ x :: suf) (pre.length : Int) = x := by simp [rd]
theorem len_mid (pre suf : List Int) (x : Int) : ((pre ++ x :: suf).length : Int) = pre.length + 1 + suf.length := by simp; omega
theorem next_pre (pre suf : List Int) (x : Int) : pre ++ x :: suf = (pre ++ [x]) ++ suf := by simp
theorem next_len (pre : List Int) (x : Int) : (pre.length : Int) + 1 = ((pre ++ [x]).length : Int) := by simp
def cnt : List Int → Int
 | [] => 1
 | x :: xs => x * cnt xs
def ok (xs : List Int) : Prop := ∀ x ∈ xs, 0 ≤ x ∧ x ≤ 4096
theorem ok_cons {x : Int} {xs : List Int} : ok (x :: xs) ↔ (0 ≤ x ∧ x ≤ 4096) ∧ ok xs := by simp [ok]
theorem mul_bound {p x : Int} {m : Nat} (h0 : 0 ≤ p) (h1 : p ≤ 4096 ^ m) (x0 : 0 ≤ x) (x1 : x ≤ 4096) : 0 ≤ p * x ∧ p * x ≤ 4096 ^ (m + 1) :=
 ⟨Int.mul_nonneg h0 x0, by rw [Int.pow_succ]; exact Int.mul_le_mul h1 x1 x0 (Int.le_of_lt (Int.pow_pos (by omega)))⟩
theorem pow_le4 {m : Nat} (h : m ≤ 4) : (4096 : Int) ^ m ≤ 281474976710656 := by
 have : m = 0 ∨ m = 1 ∨ m = 2 ∨ m = 3 ∨ m = 4 := by omega
 rcases this with rfl | rfl | rfl | rfl | rfl <;> decide
theorem l2count_l0 : ∀ (suf pre : List Int) (k : Nat) (p : Int), suf.length < k → pre.length + suf.length ≤ 4 → 0 ≤ p → p ≤ 4096 ^ pre.length →
  (ok suf → zL.l0 k (pre ++ suf) p pre.length = some (if p * cnt suf > 4096 then -1 else p * cnt suf)) ∧ (¬ ok suf → zL.l0 k (pre ++ suf) p pre.length = some (-1))
 | [], pre, 0, p, hk, hl, h0, h1 => by simp at hk
 | x :: suf, pre, 0, p, hk, hl, h0, h1 => by simp at hk
 | [], pre, k + 1, p, hk, hl, h0, h1 => by
  constructor
  ·intro _
   unfold zL.l0
   rw [if_neg (by simp)]
   simp only [cnt, Int.mul_one]
   split <;> rfl
  ·intro h; exact absurd (by simp [ok]) h
 | x :: suf, pre, k + 1, p, hk, hl, h0, h1 => by
  have hlen := len_mid pre suf x
  simp only [List.length_cons] at hk hl
  by_cases hx : 0 ≤ x ∧ x ≤ 4096
  ·have hb := mul_bound h0 h1 hx.1 hx.2
   have h4 := pow_le4 (m := pre.length + 1) (by omega)
   have hpl : (pre ++ [x]).length = pre.length + 1 := by simp
   have ih := l2count_l0 suf (pre ++ [x]) k (p * x) (by omega) (by omega) hb.1 (by rw [hpl]; exact hb.2)
   have e : zL.l0 (k + 1) (pre ++ x :: suf) p pre.length = zL.l0 k ((pre ++ [x]) ++ suf) (p * x) (pre ++ [x]).length := by
    rw [zL.l0, if_pos (by omega), if_pos (by omega), rd_at, if_neg (by omega), if_neg (by omega), w_id (by omega) (by omega), w_id (by omega) (by omega), next_pre, next_len]
   rw [e]
   constructor
   ·intro h; rw [ih.1 (ok_cons.1 h).2, cnt, Int.mul_assoc]
   ·intro h; exact ih.2 fun h' => h (ok_cons.2 ⟨hx, h'⟩)
  ·have hn : ¬ ok (x :: suf) := fun h => hx (ok_cons.1 h).1
   refine ⟨fun h => absurd h hn, fun _ => ?_⟩
   rw [zL.l0, if_pos (by omega), if_pos (by omega), rd_at]
   split
   ·rfl
   ·rw [if_pos (by omega)]
theorem count_l0 : ∀ (suf pre : List Int) (k : Nat) (p : Int), suf.length < k → pre.length + suf.length ≤ 4 → 0 ≤ p → p ≤ 4096 ^ pre.length → ok suf →
  zM.l0 k p (pre ++ suf) ((pre ++ suf).length : Int) pre.length = some (p * cnt suf)
 | [], pre, 0, p, hk, hl, h0, h1, h => by simp at hk
 | x :: suf, pre, 0, p, hk, hl, h0, h1, h => by simp at hk
 | [], pre, k + 1, p, hk, hl, h0, h1, h => by
  rw [zM.l0, if_neg (by simp)]
  simp [cnt]
 | x :: suf, pre, k + 1, p, hk, hl, h0, h1, h => by
  have hlen := len_mid pre suf x
  simp only [List.length_cons] at hk hl
  obtain ⟨hx, ho⟩ := ok_cons.1 h
  have hb := mul_bound h0 h1 hx.1 hx.2
  have h4 := pow_le4 (m := pre.length + 1) (by omega)
  have hpl : (pre ++ [x]).length = pre.length + 1 := by simp
  have ih := count_l0 suf (pre ++ [x]) k (p * x) (by omega) (by omega) hb.1 (by rw [hpl]; exact hb.2) ho
  rw [zM.l0, if_pos (by omega), if_pos (by omega), if_pos (by omega), rd_at, w_id (by omega) (by omega), w_id (by omega) (by omega), next_pre, next_len, ih, cnt, Int.mul_assoc]
theorem count_f (k : Nat) (xs : List Int) (hk : xs.length < k) (hl : xs.length ≤ 4) (h : ok xs) : zM.f k xs = some (cnt xs) := by
 have := count_l0 xs [] k 1 hk (by simpa using hl) (by omega) (by simp) h
 simpa [zM.f] using this
def good (xs : List Int) : Prop := xs.length ≤ 4 ∧ ok xs ∧ cnt xs ≤ 4096
theorem l2count_f (k : Nat) (xs : List Int) (hk : xs.length < k) : (good xs → zL.f k xs = some (cnt xs)) ∧ (¬ good xs → zL.f k xs = some (-1)) := by
 unfold zL.f
 by_cases hl : xs.length ≤ 4
 ·have := l2count_l0 xs [] k 1 hk (by simpa using hl) (by omega) (by simp)
  simp only [List.nil_append, Int.one_mul, List.length_nil, Int.natCast_zero] at this
  rw [if_neg (by omega)]
  constructor
  ·intro h
   rw [show ((0 : Int)) = ((0 : Nat) : Int) from rfl]
   have e := this.1 h.2.1
   rw [if_neg (by have := h.2.2; omega)] at e
   exact e
  ·intro h
   by_cases ho : ok xs
   ·have e := this.1 ho
    rw [if_pos (by have : ¬ cnt xs ≤ 4096 := fun hc => h ⟨hl, ho, hc⟩; omega)] at e
    exact e
   ·exact this.2 ho
 ·refine ⟨fun h => absurd h.1 hl, fun _ => ?_⟩
  rw [if_pos (by omega)]
theorem good_l0 : ∀ (suf pre : List Int) (k : Nat), suf.length + 5 < k → pre.length + suf.length ≤ 4 → ok pre →
  ((ok suf ∧ cnt (pre ++ suf) ≤ 4096) → zK.l0 k (pre ++ suf) (pre ++ suf) ((pre ++ suf).length : Int) pre.length = some true) ∧
  (¬ (ok suf ∧ cnt (pre ++ suf) ≤ 4096) → zK.l0 k (pre ++ suf) (pre ++ suf) ((pre ++ suf).length : Int) pre.length = some false)
 | [], pre, 0, hk, hl, hp => by simp at hk
 | x :: suf, pre, 0, hk, hl, hp => by simp at hk
 | [], pre, k + 1, hk, hl, hp => by
  simp only [List.length_nil] at hk hl
  have hc := count_f k (pre ++ []) (by simp; omega) (by simpa using hl) (by simpa using hp)
  rw [zK.l0, if_neg (by simp), hc]
  simp only [Option.bind_some, Option.some.injEq]
  constructor
  ·intro h; exact decide_eq_true h.2
  ·intro h; exact decide_eq_false fun hh => h ⟨by simp [ok], hh⟩
 | x :: suf, pre, k + 1, hk, hl, hp => by
  have hlen := len_mid pre suf x
  simp only [List.length_cons] at hk hl
  by_cases hx : 0 ≤ x ∧ x ≤ 4096
  ·have hpl : (pre ++ [x]).length = pre.length + 1 := by simp
   have ih := good_l0 suf (pre ++ [x]) k (by omega) (by omega) (by intro y hy; rcases List.mem_append.1 hy with hy | hy; exact hp y hy; simp at hy; subst hy; exact hx)
   rw [zK.l0, if_pos (by omega), if_pos (by omega), if_pos (by omega), rd_at, if_neg (by omega), if_neg (by omega), w_id (by omega) (by omega), next_pre, next_len]
   exact ⟨fun h => ih.1 ⟨(ok_cons.1 h.1).2, h.2⟩, fun h => ih.2 fun h' => h ⟨ok_cons.2 ⟨hx, h'.1⟩, h'.2⟩⟩
  ·rw [zK.l0, if_pos (by omega), if_pos (by omega), if_pos (by omega), rd_at]
   have hn : ¬ (ok (x :: suf) ∧ cnt (pre ++ x :: suf) ≤ 4096) := fun h => hx (ok_cons.1 h.1).1
   refine ⟨fun h => absurd h hn, fun _ => ?_⟩
   split
   ·rfl
   ·rw [if_pos (by omega)]
theorem goodShape_f (k : Nat) (xs : List Int) (hk : xs.length + 5 < k) : (good xs → zK.f k xs = some true) ∧ (¬ good xs → zK.f k xs = some false) := by
 unfold zK.f
 by_cases hl : xs.length ≤ 4
 ·have := good_l0 xs [] k (by omega) (by simpa using hl) (by simp [ok])
  simp only [List.nil_append, List.length_nil, Int.natCast_zero] at this
  rw [if_neg (by omega)]
  exact ⟨fun h => this.1 ⟨h.2.1, h.2.2⟩, fun h => this.2 fun hh => h ⟨hl, hh.1, hh.2⟩⟩
 ·refine ⟨fun h => absurd h.1 hl, fun _ => ?_⟩
  rw [if_pos (by omega)]
def places : List Int → List Int → Int → List Int
 | n :: ns, s :: ss, at' => (List.range n.toNat).flatMap fun (i : Nat) => places ns ss (at' + (i : Int) * s)
 | _, _, at' => [at']
def lo0 : List Int → List Int → Int
 | n :: ns, s :: ss => mn (s * (n - 1)) 0 + lo0 ns ss
 | _, _ => 0
def hi0 : List Int → List Int → Int
 | n :: ns, s :: ss => mx (s * (n - 1)) 0 + hi0 ns ss
 | _, _ => 0
def oks (ss : List Int) : Prop := ∀ s ∈ ss, -4096 ≤ s ∧ s ≤ 4096
theorem oks_cons {x : Int} {xs : List Int} : oks (x :: xs) ↔ (-4096 ≤ x ∧ x ≤ 4096) ∧ oks xs := by simp [oks]
theorem prod_bound {s m : Int} {B : Nat} (h1 : -4096 ≤ s) (h2 : s ≤ 4096) (m1 : -4096 ≤ m) (m2 : m ≤ 4096) : -16777216 ≤ s * m ∧ s * m ≤ 16777216 := by
 have h : (s * m).natAbs ≤ 4096 * 4096 := by rw [Int.natAbs_mul]; exact Nat.mul_le_mul (by omega) (by omega)
 omega
theorem places_len : ∀ (ns ss : List Int) (a : Int), ns.length = ss.length → ok ns → ((places ns ss a).length : Int) = cnt ns
 | [], [], a, _, _ => by simp [places, cnt]
 | [], _ :: _, a, h, _ => by simp at h
 | _ :: _, [], a, h, _ => by simp at h
 | n :: ns, s :: ss, a, h, ho => by
  have hn := (ok_cons.1 ho).1
  have key : ∀ m : Nat, ((((List.range m).flatMap fun (i : Nat) => places ns ss (a + (i : Int) * s)).length : Nat) : Int) = m * cnt ns := by
   intro m
   induction m with
   | zero => simp
   | succ m ih =>
    rw [List.range_succ, List.flatMap_append, List.length_append]
    have := places_len ns ss (a + (m : Int) * s) (by simpa using h) (ok_cons.1 ho).2
    simp only [List.flatMap_cons, List.flatMap_nil, List.append_nil]
    rw [Int.natCast_add, ih, this]
    rw [Int.natCast_add, Int.natCast_one, Int.add_mul, Int.one_mul]
  rw [places, key, cnt]
  congr 1
  omega
def pos (ns : List Int) : Prop := ∀ n ∈ ns, 1 ≤ n
theorem mul_mono_nonneg {s i m : Int} (h0 : 0 ≤ s) (hi : 0 ≤ i) (him : i ≤ m) : 0 ≤ i * s ∧ i * s ≤ s * m :=
 ⟨Int.mul_nonneg hi h0, by rw [Int.mul_comm s m]; exact Int.mul_le_mul_of_nonneg_right him h0⟩
theorem between {s i n : Int} (hi : 0 ≤ i) (hin : i < n) : mn (s * (n - 1)) 0 ≤ i * s ∧ i * s ≤ mx (s * (n - 1)) 0 := by
 unfold mn mx
 by_cases h : 0 ≤ s
 ·have := mul_mono_nonneg h hi (show i ≤ n - 1 by omega)
  constructor <;> split <;> omega
 ·have := mul_mono_nonneg (s := -s) (by omega) hi (show i ≤ n - 1 by omega)
  rw [Int.mul_neg, Int.neg_mul] at this
  constructor <;> split <;> omega
theorem ends {s n : Int} (hn : 1 ≤ n) : (∃ i : Nat, i < n.toNat ∧ (i : Int) * s = mn (s * (n - 1)) 0) ∧ (∃ i : Nat, i < n.toNat ∧ (i : Int) * s = mx (s * (n - 1)) 0) := by
 have e : ((n.toNat - 1 : Nat) : Int) * s = s * (n - 1) := by rw [Int.mul_comm]; congr 1; omega
 unfold mn mx
 constructor
 ·split
  ·exact ⟨0, by omega, by simp⟩
  ·exact ⟨n.toNat - 1, by omega, e⟩
 ·split
  ·exact ⟨0, by omega, by simp⟩
  ·exact ⟨n.toNat - 1, by omega, e⟩
theorem places_range : ∀ (ns ss : List Int) (a : Int), ns.length = ss.length → pos ns → (∀ p ∈ places ns ss a, a + lo0 ns ss ≤ p ∧ p ≤ a + hi0 ns ss) ∧ a + lo0 ns ss ∈ places ns ss a ∧ a + hi0 ns ss ∈ places ns ss a
 | [], [], a, _, _ => by simp [places, lo0, hi0]
 | [], _ :: _, a, h, _ => by simp at h
 | _ :: _, [], a, h, _ => by simp at h
 | n :: ns, s :: ss, a, h, hp => by
  have hn : 1 ≤ n := hp n (by simp)
  have ih := fun b => places_range ns ss b (by simpa using h) (fun m hm => hp m (by simp [hm]))
  refine ⟨fun p hp' => ?_, ?_, ?_⟩
  ·simp only [places, List.mem_flatMap, List.mem_range] at hp'
   obtain ⟨i, hi, hm⟩ := hp'
   have := (ih _).1 p hm
   have hb := between (s := s) (i := (i : Int)) (n := n) (by omega) (by omega)
   simp only [lo0, hi0]
   omega
  ·obtain ⟨i, hi, he⟩ := (ends (s := s) hn).1
   simp only [places, List.mem_flatMap, List.mem_range]
   refine ⟨i, hi, ?_⟩
   have := (ih (a + (i : Int) * s)).2.1
   rw [he] at this ⊢
   simp only [lo0]
   rw [Int.add_assoc] at this
   exact this
  ·obtain ⟨i, hi, he⟩ := (ends (s := s) hn).2
   simp only [places, List.mem_flatMap, List.mem_range]
   refine ⟨i, hi, ?_⟩
   have := (ih (a + (i : Int) * s)).2.2
   rw [he] at this ⊢
   simp only [hi0]
   rw [Int.add_assoc] at this
   exact this
theorem pos_of_cnt : ∀ {ns : List Int}, ok ns → cnt ns ≠ 0 → pos ns
 | [], _, _ => by simp [pos]
 | n :: ns, ho, hc => by
  have h0 : n ≠ 0 := fun h => hc (by rw [cnt, h, Int.zero_mul])
  have h1 : cnt ns ≠ 0 := fun h => hc (by rw [cnt, h, Int.mul_zero])
  have ih := pos_of_cnt (ok_cons.1 ho).2 h1
  have := (ok_cons.1 ho).1
  intro m hm
  rcases List.mem_cons.1 hm with rfl | hm
  ·omega
  ·exact ih m hm
theorem cnt_tail {n : Int} {ns : List Int} (hp : pos (n :: ns)) (h : cnt (n :: ns) ≤ 4096) : cnt ns ≤ 4096 ∧ 0 ≤ cnt ns := by
 have hc : ∀ {l : List Int}, pos l → 1 ≤ cnt l := by
  intro l
  induction l with
  | nil => intro _; simp [cnt]
  | cons a l ih =>
   intro hl
   have h1 := ih (fun m hm => hl m (by simp [hm]))
   have h2 := hl a (by simp)
   rw [cnt]
   have := Int.mul_le_mul h2 h1 (by omega) (by omega)
   simpa using this
 have h1 := hc (l := ns) (fun m hm => hp m (by simp [hm]))
 have hn : 1 ≤ n := hp n (by simp)
 rw [cnt] at h
 have := Int.mul_le_mul_of_nonneg_right hn (show 0 ≤ cnt ns by omega)
 omega
def need : List Int → Nat
 | [] => 1
 | n :: ns => n.toNat + 2 + need ns
theorem places_f (shape strides : List Int) (off : Int) : ∀ (suf sufs pre pres : List Int) (k : Nat) (a : Int), shape = pre ++ suf → strides = pres ++ sufs → pre.length = pres.length → suf.length = sufs.length → need suf ≤ k → pre.length + suf.length ≤ 4 → ok suf → pos suf → oks sufs → cnt suf ≤ 4096 →
  -100000000 + (suf.length : Int) * 16777216 ≤ a → a ≤ 100000000 - (suf.length : Int) * 16777216 →
  zJ.f k shape strides off pre.length a = some (places suf sufs a) := by
 intro suf
 induction suf with
 | nil =>
  intro sufs pre pres k a hs ht hl hl2 hk h4 ho hp hq hc a1 a2
  cases sufs with
  | cons _ _ => simp at hl2
  | nil =>
   cases k with
   | zero => simp [need] at hk
   | succ k => rw [zJ.f, if_pos (by rw [hs]; simp), places]; simp
 | cons n ns IH =>
  intro sufs pre pres k a hs ht hl hl2 hk h4 ho hp hq hc a1 a2
  obtain ⟨s, ss, rfl⟩ : ∃ s ss, sufs = s :: ss := by cases sufs with | nil => simp at hl2 | cons s ss => exact ⟨s, ss, rfl⟩
  obtain ⟨k, rfl⟩ : ∃ k', k = k' + 1 := ⟨k - 1, by simp [need] at hk; omega⟩
  have hlen := len_mid pre ns n
  have hlen2 := len_mid pres ss s
  rw [← hs] at hlen
  rw [← ht] at hlen2
  have hn := (ok_cons.1 ho).1
  have hsb := (oks_cons.1 hq).1
  have hct := cnt_tail hp hc
  have hpl := places_len (n :: ns) (s :: ss) a hl2 ho
  simp only [List.length_cons, need] at hk h4 hl2 a1 a2
  rw [zJ.f, if_neg (by omega)]
  have r1 : rd shape (pre.length : Int) = n := by rw [hs, rd_at]
  have r2 : rd strides (pre.length : Int) = s := by rw [ht, hl, rd_at]
  have loop : ∀ (m i k' : Nat), i + m = n.toNat → m + 1 + need ns ≤ k' →
    zJ.l0 k' (pre.length : Int) a ((List.range i).flatMap fun (i : Nat) => places ns ss (a + (i : Int) * s)) (i : Int) shape strides off = some (places (n :: ns) (s :: ss) a) := by
   intro m
   induction m with
   | zero =>
    intro i k' hi hk'
    obtain ⟨k'', rfl⟩ : ∃ k'', k' = k'' + 1 := ⟨k' - 1, by omega⟩
    rw [zJ.l0, if_pos (by omega), if_pos (by omega), r1, if_neg (by omega), places]
    rw [show i = n.toNat by omega]
   | succ m ih =>
    intro i k' hi hk'
    obtain ⟨k'', rfl⟩ : ∃ k'', k' = k'' + 1 := ⟨k' - 1, by omega⟩
    have hpb := prod_bound (B := 0) hsb.1 hsb.2 (show (-4096 : Int) ≤ (i : Int) by omega) (show (i : Int) ≤ 4096 by omega)
    rw [Int.mul_comm] at hpb
    have hrec := IH ss (pre ++ [n]) (pres ++ [s]) k'' (a + (i : Int) * s) (by rw [hs]; simp) (by rw [ht]; simp) (by simp; omega) (by omega) (by omega) (by simp; omega) (ok_cons.1 ho).2 (fun m hm => hp m (by simp [hm])) (oks_cons.1 hq).2 hct.1 (by omega) (by omega)
    rw [zJ.l0, if_pos (by omega), if_pos (by omega), r1, if_pos (by omega), if_pos (by omega), r2, w_id (n := (i : Int) * s) (by omega) (by omega), w_id (n := a + (i : Int) * s) (by omega) (by omega), w_id (by omega) (by omega), next_len pre n, hrec]
    simp only [Option.bind_some]
    have hstep : ((List.range i).flatMap fun (i : Nat) => places ns ss (a + (i : Int) * s)) ++ places ns ss (a + (i : Int) * s) = (List.range (i + 1)).flatMap fun (i : Nat) => places ns ss (a + (i : Int) * s) := by
     rw [List.range_succ, List.flatMap_append]; simp
    have hlenle : ((List.range (i + 1)).flatMap fun (i : Nat) => places ns ss (a + (i : Int) * s)).length ≤ (places (n :: ns) (s :: ss) a).length := by
     rw [places]
     obtain ⟨d, hd⟩ : ∃ d, n.toNat = (i + 1) + d := ⟨n.toNat - (i + 1), by omega⟩
     have e : List.range n.toNat = List.range (i + 1) ++ (List.range d).map (i + 1 + ·) := by rw [hd, List.range_add]
     rw [e, List.flatMap_append, List.length_append]
     omega
    have hl3 : ((List.range i).flatMap fun (i : Nat) => places ns ss (a + (i : Int) * s)).length + (places ns ss (a + (i : Int) * s)).length < 17592186044416 := by
     rw [← List.length_append, hstep]
     omega
    rw [if_pos hl3, hstep, w_id (n := (i : Int) + 1) (by omega) (by omega)]
    exact ih (i + 1) k'' (by omega) (by omega)
  exact loop n.toNat 0 k (by omega) (by omega)
def inr (l : List Int) : Prop := ∀ p ∈ l, 0 ≤ p ∧ p < 4096
theorem inr_cons {x : Int} {xs : List Int} : inr (x :: xs) ↔ (0 ≤ x ∧ x < 4096) ∧ inr xs := by simp [inr]
theorem vv_l1 : ∀ (suf pre : List Int) (k : Nat), suf.length < k → pre.length + suf.length < 1099511627776 →
  (inr suf → zH.l1 k (pre ++ suf) pre.length = some true) ∧ (¬ inr suf → zH.l1 k (pre ++ suf) pre.length = some false) := by
 intro suf
 induction suf with
 | nil =>
  intro pre k hk hl
  obtain ⟨k, rfl⟩ : ∃ k', k = k' + 1 := ⟨k - 1, by simp at hk; omega⟩
  refine ⟨fun _ => ?_, fun h => absurd (by simp [inr]) h⟩
  rw [zH.l1, if_neg (by simp)]
 | cons x suf IH =>
  intro pre k hk hl
  have hlen := len_mid pre suf x
  simp only [List.length_cons] at hk hl
  obtain ⟨k, rfl⟩ : ∃ k', k = k' + 1 := ⟨k - 1, by omega⟩
  by_cases hx : 0 ≤ x ∧ x < 4096
  ·have ih := IH (pre ++ [x]) k (by omega) (by simp; omega)
   rw [zH.l1, if_pos (by omega), if_pos (by omega), rd_at, if_neg (by omega), if_neg (by omega), w_id (by omega) (by omega), next_pre, next_len]
   exact ⟨fun h => ih.1 (inr_cons.1 h).2, fun h => ih.2 fun h' => h (inr_cons.2 ⟨hx, h'⟩)⟩
  ·have hn : ¬ inr (x :: suf) := fun h => hx (inr_cons.1 h).1
   refine ⟨fun h => absurd h hn, fun _ => ?_⟩
   rw [zH.l1, if_pos (by omega), if_pos (by omega), rd_at]
   split
   ·rfl
   ·rw [if_pos (by omega)]
theorem vv_l0 (n : Int) (shape : List Int) (off : Int) (r : Option Bool) (strides : List Int) (K : Nat) (hfin : ∀ k, K ≤ k → (if n = 0 then some true else (zJ.f k shape strides off 0 off).bind fun t126 => zH.l1 k t126 0) = r) :
  ∀ (suf pre : List Int) (k : Nat), strides = pre ++ suf → K + suf.length < k → pre.length + suf.length ≤ 4 →
  (oks suf → zH.l0 k n pre.length shape strides off = r) ∧ (¬ oks suf → zH.l0 k n pre.length shape strides off = some false) := by
 intro suf
 induction suf with
 | nil =>
  intro pre k hs hk hl
  obtain ⟨k, rfl⟩ : ∃ k', k = k' + 1 := ⟨k - 1, by omega⟩
  refine ⟨fun _ => ?_, fun h => absurd (by simp [oks]) h⟩
  simp only [List.length_nil] at hk
  rw [zH.l0, if_neg (by rw [hs]; simp)]
  exact hfin k (by omega)
 | cons x suf IH =>
  intro pre k hs hk hl
  have hlen := len_mid pre suf x
  rw [← hs] at hlen
  simp only [List.length_cons] at hk hl
  obtain ⟨k, rfl⟩ : ∃ k', k = k' + 1 := ⟨k - 1, by omega⟩
  have r1 : rd strides (pre.length : Int) = x := by rw [hs, rd_at]
  by_cases hx : -4096 ≤ x ∧ x ≤ 4096
  ·have ih := IH (pre ++ [x]) k (by rw [hs]; simp) (by omega) (by simp; omega)
   rw [zH.l0, if_pos (by omega), if_pos (by omega), r1, if_neg (by omega), if_neg (by omega), w_id (by omega) (by omega), next_len]
   exact ⟨fun h => ih.1 (oks_cons.1 h).2, fun h => ih.2 fun h' => h (oks_cons.2 ⟨hx, h'⟩)⟩
  ·have hn : ¬ oks (x :: suf) := fun h => hx (oks_cons.1 h).1
   refine ⟨fun h => absurd h hn, fun _ => ?_⟩
   rw [zH.l0, if_pos (by omega), if_pos (by omega), r1]
   split
   ·rfl
   ·rw [if_pos (by omega)]
theorem vv_bad (n : Int) (shape : List Int) (off : Int) (strides : List Int) :
  ∀ (suf pre : List Int) (k : Nat), strides = pre ++ suf → suf.length < k → pre.length + suf.length ≤ 4 → ¬ oks suf → zH.l0 k n pre.length shape strides off = some false := by
 intro suf
 induction suf with
 | nil => intro pre k hs hk hl h; exact absurd (by simp [oks]) h
 | cons x suf IH =>
  intro pre k hs hk hl h
  have hlen := len_mid pre suf x
  rw [← hs] at hlen
  simp only [List.length_cons] at hk hl
  obtain ⟨k, rfl⟩ : ∃ k', k = k' + 1 := ⟨k - 1, by omega⟩
  have r1 : rd strides (pre.length : Int) = x := by rw [hs, rd_at]
  by_cases hx : -4096 ≤ x ∧ x ≤ 4096
  ·have ih := IH (pre ++ [x]) k (by rw [hs]; simp) (by omega) (by simp; omega)
   rw [zH.l0, if_pos (by omega), if_pos (by omega), r1, if_neg (by omega), if_neg (by omega), w_id (by omega) (by omega), next_len]
   exact ih fun h' => h (oks_cons.2 ⟨hx, h'⟩)
  ·rw [zH.l0, if_pos (by omega), if_pos (by omega), r1]
   split
   ·rfl
   ·rw [if_pos (by omega)]
theorem iv_l0 (shape strides : List Int) (off : Int) (hok : ok shape) (h4 : shape.length ≤ 4) : ∀ (suf pre sufn pren : List Int) (k : Nat) (lo hi : Int), strides = pre ++ suf → shape = pren ++ sufn → pre.length = pren.length → suf.length = sufn.length → suf.length + 6 < k →
  -100000000 + (suf.length : Int) * 16777216 ≤ lo → lo ≤ 100000000 - (suf.length : Int) * 16777216 → -100000000 + (suf.length : Int) * 16777216 ≤ hi → hi ≤ 100000000 - (suf.length : Int) * 16777216 →
  (oks suf → zI.l0 k lo hi strides (strides.length : Int) pre.length shape strides off = (if cnt shape = 0 then some true else if lo + lo0 sufn suf ≥ 0 then some (decide (hi + hi0 sufn suf < 4096)) else some false)) ∧
  (¬ oks suf → zI.l0 k lo hi strides (strides.length : Int) pre.length shape strides off = some false) := by
 intro suf
 induction suf with
 | nil =>
  intro pre sufn pren k lo hi hs hn hl hl2 hk l1 l2 h1 h2
  obtain ⟨k, rfl⟩ : ∃ k', k = k' + 1 := ⟨k - 1, by omega⟩
  obtain rfl : sufn = [] := List.length_eq_zero_iff.1 (by simpa using hl2.symm)
  refine ⟨fun _ => ?_, fun h => absurd (by simp [oks]) h⟩
  simp only [List.length_nil] at hk
  rw [zI.l0, if_neg (by rw [hs]; simp), count_f k shape (by omega) h4 hok]
  simp only [Option.bind_some, lo0, hi0, Int.add_zero]
 | cons x suf IH =>
  intro pre sufn pren k lo hi hs hn hl hl2 hk l1 l2 h1 h2
  obtain ⟨n, ns, rfl⟩ : ∃ n ns, sufn = n :: ns := by cases sufn with | nil => simp at hl2 | cons s ss => exact ⟨s, ss, rfl⟩
  have hlen := len_mid pre suf x
  rw [← hs] at hlen
  have hlen2 := len_mid pren ns n
  rw [← hn] at hlen2
  simp only [List.length_cons] at hk l1 l2 h1 h2 hl2
  obtain ⟨k, rfl⟩ : ∃ k', k = k' + 1 := ⟨k - 1, by omega⟩
  have r1 : rd strides (pre.length : Int) = x := by rw [hs, rd_at]
  have r2 : rd shape (pre.length : Int) = n := by rw [hn, hl, rd_at]
  have hnb : 0 ≤ n ∧ n ≤ 4096 := hok n (by rw [hn]; simp)
  by_cases hx : -4096 ≤ x ∧ x ≤ 4096
  ·have hpb := prod_bound (B := 0) hx.1 hx.2 (show (-4096 : Int) ≤ n - 1 by omega) (show n - 1 ≤ 4096 by omega)
   have m1 : -16777216 ≤ mn (x * (n - 1)) 0 ∧ mn (x * (n - 1)) 0 ≤ 0 := by unfold mn; split <;> omega
   have m2 : mx (x * (n - 1)) 0 ≤ 16777216 ∧ 0 ≤ mx (x * (n - 1)) 0 := by unfold mx; split <;> omega
   have ih := IH (pre ++ [x]) ns (pren ++ [n]) k (lo + mn (x * (n - 1)) 0) (hi + mx (x * (n - 1)) 0) (by rw [hs]; simp) (by rw [hn]; simp) (by simp; omega) (by omega) (by omega) (by omega) (by omega) (by omega) (by omega)
   rw [zI.l0, if_pos (by omega), if_pos (by omega), if_pos (by omega), r1, if_neg (by omega), if_neg (by omega), if_pos (by omega), r2, w_id (n := n - 1) (by omega) (by omega), w_id (n := x * (n - 1)) (by omega) (by omega), w_id (n := lo + _) (by omega) (by omega), w_id (n := hi + _) (by omega) (by omega), w_id (by omega) (by omega), next_len pre x]
   refine ⟨fun h => ?_, fun h => ih.2 fun h' => h (oks_cons.2 ⟨hx, h'⟩)⟩
   rw [ih.1 (oks_cons.1 h).2]
   simp only [lo0, hi0, Int.add_assoc]
   rfl
  ·have hnn : ¬ oks (x :: suf) := fun h => hx (oks_cons.1 h).1
   refine ⟨fun h => absurd h hnn, fun _ => ?_⟩
   rw [zI.l0, if_pos (by omega), if_pos (by omega), if_pos (by omega), r1]
   split
   ·rfl
   ·rw [if_pos (by omega)]
theorem need_le : ∀ (ns : List Int), ok ns → need ns ≤ 4098 * ns.length + 1
 | [], _ => by simp [need]
 | n :: ns, h => by
  have := need_le ns (ok_cons.1 h).2
  have := (ok_cons.1 h).1
  simp only [need, List.length_cons]
  omega
theorem spec_j0 (k : Nat) (n : Int) (x y : List Int) (o : Int) (hk : 0 < k) : zH.j0 k n true x y o = some false := by
 obtain ⟨k, rfl⟩ : ∃ k', k = k' + 1 := ⟨k - 1, by omega⟩
 rw [zH.j0, if_pos rfl]
theorem impl_j0 (k : Nat) (x y : List Int) (o : Int) (hk : 0 < k) : zI.j0 k true x y o = some false := by
 obtain ⟨k, rfl⟩ : ∃ k', k = k' + 1 := ⟨k - 1, by omega⟩
 rw [zI.j0, if_pos rfl]
def VV (xs ys : List Int) (o : Int) : Prop := good xs ∧ ys.length = xs.length ∧ 0 ≤ o ∧ o ≤ 4096 ∧ oks ys ∧ (cnt xs ≠ 0 → inr (places xs ys o))
theorem vv_alike (k : Nat) (xs ys : List Int) (o : Int) (hk : xs.length + ys.length + 100000 ≤ k) : ∃ b, zH.f k xs ys o = some b ∧ zI.f k xs ys o = some b ∧ (b = true → VV xs ys o) := by
 unfold zH.f zI.f
 by_cases hg : good xs
 ·rw [(l2count_f k xs (by omega)).1 hg, (goodShape_f k xs (by omega)).1 hg]
  simp only [Option.bind_some, if_true]
  have h0 : 0 ≤ cnt xs := by
   have : ∀ l : List Int, ok l → 0 ≤ cnt l := by
    intro l
    induction l with
    | nil => intro _; simp [cnt]
    | cons a l ih => intro h; rw [cnt]; exact Int.mul_nonneg (ok_cons.1 h).1.1 (ih (ok_cons.1 h).2)
   exact this xs hg.2.1
  rw [if_neg (by omega)]
  by_cases hl : (ys.length : Int) = (xs.length : Int)
  ·rw [if_pos hl, if_pos hl]
   by_cases ho : o < 0
   ·rw [if_pos ho, if_pos ho]
    exact ⟨false, spec_j0 k _ _ _ _ (by omega), impl_j0 k _ _ _ (by omega), fun h => by cases h⟩
   ·rw [if_neg ho, if_neg ho]
    by_cases ho2 : o > 4096
    ·rw [decide_eq_true ho2]
     exact ⟨false, spec_j0 k _ _ _ _ (by omega), impl_j0 k _ _ _ (by omega), fun h => by cases h⟩
    ·rw [decide_eq_false ho2]
     obtain ⟨k, rfl⟩ : ∃ k', k = k' + 1 := ⟨k - 1, by omega⟩
     rw [zH.j0, zI.j0, if_neg (by simp), if_neg (by simp)]
     have h4 := hg.1
     have hnd := need_le xs hg.2.1
     have I := iv_l0 xs ys o hg.2.1 hg.1 ys [] xs [] k o o rfl rfl rfl (by omega) (by omega) (by omega) (by omega) (by omega) (by omega)
     by_cases hq : oks ys
     ·have I1 := I.1 hq
      by_cases hz : cnt xs = 0
      ·rw [if_pos hz] at I1
       have V := vv_l0 (cnt xs) xs o (some true) ys 50000 (fun k' _ => by rw [if_pos hz]) ys [] k rfl (by omega) (by simpa using (show ys.length ≤ 4 by omega))
       exact ⟨true, V.1 hq, I1, fun _ => ⟨hg, by omega, by omega, by omega, hq, fun h => absurd hz h⟩⟩
      ·rw [if_neg hz] at I1
       have hp := pos_of_cnt hg.2.1 hz
       have R := places_range xs ys o (by omega) hp
       have pl := places_len xs ys o (by omega) hg.2.1
       have P : ∀ k', 50000 ≤ k' → zJ.f k' xs ys o 0 o = some (places xs ys o) := fun k' hk' =>
        places_f xs ys o xs ys [] [] k' o rfl rfl rfl (by omega) (by omega) (by simpa using hg.1) hg.2.1 hp hq hg.2.2 (by omega) (by omega)
       have hc := hg.2.2
       have L := fun k' (hk' : 50000 ≤ k') => vv_l1 (places xs ys o) [] k' (by omega) (by simp; omega)
       by_cases hin : inr (places xs ys o)
       ·have V := vv_l0 (cnt xs) xs o (some true) ys 50000 (fun k' hk' => by rw [if_neg hz, P k' hk']; exact (L k' hk').1 hin) ys [] k rfl (by omega) (by simpa using (show ys.length ≤ 4 by omega))
        have a := hin _ R.2.1
        have b := hin _ R.2.2
        rw [if_pos (by omega), decide_eq_true b.2] at I1
        exact ⟨true, V.1 hq, I1, fun _ => ⟨hg, by omega, by omega, by omega, hq, fun _ => hin⟩⟩
       ·have V := vv_l0 (cnt xs) xs o (some false) ys 50000 (fun k' hk' => by rw [if_neg hz, P k' hk']; exact (L k' hk').2 hin) ys [] k rfl (by omega) (by simpa using (show ys.length ≤ 4 by omega))
        have e : (if o + lo0 xs ys ≥ 0 then some (decide (o + hi0 xs ys < 4096)) else some false) = some false := by
         split
         ·rename_i ha
          rw [decide_eq_false fun hb => hin fun p hp' => ?_]
          have := R.1 p hp'
          omega
         ·rfl
        exact ⟨false, V.1 hq, I1.trans e, fun h => by cases h⟩
     ·have V := vv_bad (cnt xs) xs o ys ys [] k rfl (by omega) (by simpa using (show ys.length ≤ 4 by omega)) hq
      exact ⟨false, V, I.2 hq, fun h => by cases h⟩
  ·rw [if_neg hl, if_neg hl]
   exact ⟨false, spec_j0 k _ _ _ _ (by omega), impl_j0 k _ _ _ (by omega), fun h => by cases h⟩
 ·rw [(l2count_f k xs (by omega)).2 hg, (goodShape_f k xs (by omega)).2 hg]
  simp only [Option.bind_some]
  rw [if_pos (by omega), if_neg (by simp)]
  exact ⟨false, spec_j0 k _ _ _ _ (by omega), impl_j0 k _ _ _ (by omega), fun h => by cases h⟩
theorem cnt_nonneg : ∀ {xs : List Int}, ok xs → 0 ≤ cnt xs
 | [], _ => by simp [cnt]
 | x :: xs, h => by
  have := cnt_nonneg (ok_cons.1 h).2
  rw [cnt]
  exact Int.mul_nonneg (ok_cons.1 h).1.1 this
def up (i tt st : Int) : Int := if i < tt then (tt - i + st - 1) / st else 0
theorem up_zero {i tt st : Int} (h : ¬ i < tt) : up i tt st = 0 := by unfold up; rw [if_neg h]
theorem up_step {i tt st : Int} (hs : 0 < st) (h : i < tt) : up i tt st = 1 + up (i + st) tt st := by
 unfold up
 rw [if_pos h, show tt - i + st - 1 = (tt - i - 1) + st * 1 by omega, Int.add_mul_ediv_left _ _ (by omega)]
 by_cases h2 : i + st < tt
 ·rw [if_pos h2, show tt - (i + st) + st - 1 = tt - i - 1 by omega]
  omega
 ·rw [if_neg h2, Int.ediv_eq_zero_of_lt (by omega) (by omega)]; omega
theorem up_bound {i tt st : Int} (hs : 0 < st) : 0 ≤ up i tt st ∧ (i < tt → 1 ≤ up i tt st) ∧ (i < tt → up i tt st ≤ tt - i) := by
 unfold up
 by_cases h : i < tt
 ·rw [if_pos h]
  have a : 1 ≤ (tt - i + st - 1) / st := (Int.le_ediv_iff_mul_le hs).2 (by omega)
  have b : (tt - i + st - 1) / st ≤ tt - i := by
   apply Int.ediv_le_of_le_mul hs
   have : st + (tt - i - 1) * 1 ≤ st + (tt - i - 1) * st := Int.add_le_add_left (Int.mul_le_mul_of_nonneg_left (by omega) (by omega)) _
   have e : (tt - i) * st = st + (tt - i - 1) * st := by rw [Int.sub_mul (tt - i), Int.one_mul]; omega
   omega
  exact ⟨by omega, fun _ => a, fun _ => b⟩
 ·rw [if_neg h]; exact ⟨by omega, fun h' => absurd h' h, fun h' => absurd h' h⟩
def Took (out : List Int) (i c : Int) (F : List Int) : Prop := (F.length : Int) = out.length + c ∧ (out = [] → 1 ≤ c → rd F 0 = i) ∧ (out ≠ [] → rd F 0 = rd out 0)
theorem took_snoc {out : List Int} {i i' c : Int} {F : List Int} (h : Took (out ++ [i]) i' c F) (hc : 0 ≤ c) : Took out i (1 + c) F := by
 obtain ⟨h1, _, h3⟩ := h
 have h4 := h3 (by simp)
 refine ⟨by simp at h1; omega, fun e _ => ?_, fun e => ?_⟩
 ·subst e; rw [h4]; simp [rd]
 ·rw [h4]
  cases out with
  | nil => exact absurd rfl e
  | cons a t => simp [rd]
theorem loop_up (ax st tt : Int) (S1 S2 : List Int) (o : Int) (hs : 0 < st ∧ st ≤ 1000000) (hto : -4096 ≤ tt ∧ tt ≤ 4096) : ∀ (d : Nat) (i : Int) (out : List Int) (k : Nat), -4096 ≤ i → i ≤ 2000000 → tt - i ≤ d → d + 10 < k → out.length + d ≤ 100000 →
  ∃ F k', Took out i (up i tt st) F ∧ k ≤ k' + d + 2 ∧ k' < k ∧ spec_Slice.l0 k ax st tt out i S1 S2 o = spec_Slice.j4 k' ax st F S1 S2 o := by
 intro d
 induction d with
 | zero =>
  intro i out k i0 i1 hd hk ho
  obtain ⟨k, rfl⟩ : ∃ m, k = m + 1 := ⟨k - 1, by omega⟩
  have hn : ¬ i < tt := by omega
  refine ⟨out, k, ⟨by rw [up_zero hn]; omega, fun _ h => by rw [up_zero hn] at h; omega, fun _ => rfl⟩, by omega, by omega, ?_⟩
  rw [spec_Slice.l0, if_pos (by omega), if_neg hn, if_neg (by omega)]
 | succ d IH =>
  intro i out k i0 i1 hd hk ho
  obtain ⟨k, rfl⟩ : ∃ m, k = m + 1 := ⟨k - 1, by omega⟩
  by_cases hn : i < tt
  ·obtain ⟨F, k', hF, hk1, hk2, he⟩ := IH (i + st) (out ++ [i]) k (by omega) (by omega) (by omega) (by omega) (by simp; omega)
   refine ⟨F, k', ?_, by omega, by omega, ?_⟩
   ·rw [up_step hs.1 hn]; exact took_snoc hF (up_bound hs.1).1
   ·rw [spec_Slice.l0, if_pos (by omega), if_pos hn, if_pos (by omega), w_id (by omega) (by omega)]
    exact he
  ·refine ⟨out, k, ⟨by rw [up_zero hn]; omega, fun _ h => by rw [up_zero hn] at h; omega, fun _ => rfl⟩, by omega, by omega, ?_⟩
   rw [spec_Slice.l0, if_pos (by omega), if_neg hn, if_neg (by omega)]
theorem loop_down (ax st tt : Int) (S1 S2 : List Int) (o : Int) (hs : st < 0 ∧ -1000000 ≤ st) (hto : -4096 ≤ tt ∧ tt ≤ 4096) : ∀ (d : Nat) (i : Int) (out : List Int) (k : Nat), -2000000 ≤ i → i ≤ 4096 → i - tt ≤ d → d + 10 < k → out.length + d ≤ 100000 →
  ∃ F k', Took out i (up tt i (-st)) F ∧ k ≤ k' + d + 2 ∧ k' < k ∧ spec_Slice.l0 k ax st tt out i S1 S2 o = spec_Slice.j4 k' ax st F S1 S2 o := by
 intro d
 induction d with
 | zero =>
  intro i out k i0 i1 hd hk ho
  obtain ⟨k, rfl⟩ : ∃ m, k = m + 1 := ⟨k - 1, by omega⟩
  have hn : ¬ tt < i := by omega
  refine ⟨out, k, ⟨by rw [up_zero hn]; omega, fun _ h => by rw [up_zero hn] at h; omega, fun _ => rfl⟩, by omega, by omega, ?_⟩
  rw [spec_Slice.l0, if_neg (by omega), if_pos (by omega), if_neg (by omega)]
 | succ d IH =>
  intro i out k i0 i1 hd hk ho
  obtain ⟨k, rfl⟩ : ∃ m, k = m + 1 := ⟨k - 1, by omega⟩
  by_cases hn : tt < i
  ·obtain ⟨F, k', hF, hk1, hk2, he⟩ := IH (i + st) (out ++ [i]) k (by omega) (by omega) (by omega) (by omega) (by simp; omega)
   refine ⟨F, k', ?_, by omega, by omega, ?_⟩
   ·have e : up tt i (-st) = 1 + up tt (i + st) (-st) := by
     unfold up
     rw [if_pos hn, show i - tt + -st - 1 = (i - tt - 1) + -st * 1 by omega, Int.add_mul_ediv_left _ _ (by omega)]
     by_cases h2 : tt < i + st
     ·rw [if_pos h2, show i + st - tt + -st - 1 = i - tt - 1 by omega]; omega
     ·rw [if_neg h2, Int.ediv_eq_zero_of_lt (by omega) (by omega)]; omega
    rw [e]; exact took_snoc hF (up_bound (by omega)).1
   ·rw [spec_Slice.l0, if_neg (by omega), if_pos (by omega), if_pos (by omega), if_pos (by omega), w_id (by omega) (by omega)]
    exact he
  ·refine ⟨out, k, ⟨by rw [up_zero hn]; omega, fun _ h => by rw [up_zero hn] at h; omega, fun _ => rfl⟩, by omega, by omega, ?_⟩
   rw [spec_Slice.l0, if_neg (by omega), if_pos (by omega), if_neg (by omega)]
theorem copy_l0 : ∀ (suf pre : List Int) (k : Nat), suf.length < k → pre.length + suf.length ≤ 1048576 → spec_l2CopyList.l0 k (pre ++ suf) pre pre.length = some (pre ++ suf)
 | [], pre, k, hk, hl => by
  obtain ⟨k, rfl⟩ : ∃ m, k = m + 1 := ⟨k - 1, by omega⟩
  rw [spec_l2CopyList.l0, if_neg (by simp)]; simp
 | x :: suf, pre, k, hk, hl => by
  simp only [List.length_cons] at hk hl
  obtain ⟨k, rfl⟩ : ∃ m, k = m + 1 := ⟨k - 1, by omega⟩
  have ih := copy_l0 suf (pre ++ [x]) k (by omega) (by simp; omega)
  rw [spec_l2CopyList.l0, if_pos (by rw [len_mid]; omega), if_pos (by omega), if_pos (by omega), rd_at, w_id (by omega) (by omega), next_len pre x, next_pre]
  exact ih
theorem copy_f (k : Nat) (xs : List Int) (hk : xs.length < k) (hl : xs.length ≤ 1048576) : spec_l2CopyList.f k xs = some xs := by
 have := copy_l0 xs [] k hk (by simpa using hl)
 simpa [spec_l2CopyList.f] using this
theorem ok_set {xs : List Int} {i : Nat} {m : Int} (h : ok xs) (h0 : 0 ≤ m) (h1 : m ≤ 4096) : ok (xs.set i m) := by
 intro x hx
 rcases List.mem_or_eq_of_mem_set hx with hx | rfl
 ·exact h x hx
 ·exact ⟨h0, h1⟩
theorem cnt_set_le : ∀ {xs : List Int} {i : Nat} {m : Int}, ok xs → i < xs.length → 0 ≤ m → m ≤ xs.getD i 0 → cnt (xs.set i m) ≤ cnt xs
 | [], _, _, _, h, _, _ => by simp at h
 | x :: xs, 0, m, ho, _, h0, h1 => by
  simp only [List.set_cons_zero, cnt]
  simp at h1
  exact Int.mul_le_mul_of_nonneg_right h1 (cnt_nonneg (ok_cons.1 ho).2)
 | x :: xs, i + 1, m, ho, hi, h0, h1 => by
  simp only [List.set_cons_succ, cnt]
  have := cnt_set_le (xs := xs) (i := i) (m := m) (ok_cons.1 ho).2 (by simpa using hi) h0 (by simpa using h1)
  exact Int.mul_le_mul_of_nonneg_left this (ok_cons.1 ho).1.1
theorem cnt_set_zero : ∀ {xs : List Int} {i : Nat}, i < xs.length → cnt (xs.set i 0) = 0
 | [], _, h => by simp at h
 | x :: xs, 0, _ => by simp [cnt]
 | x :: xs, i + 1, h => by
  simp only [List.set_cons_succ, cnt]
  rw [cnt_set_zero (by simpa using h), Int.mul_zero]
theorem mul_abs {a b A B : Int} (ha : -A ≤ a ∧ a ≤ A) (hb : -B ≤ b ∧ b ≤ B) : -(A * B) ≤ a * b ∧ a * b ≤ A * B := by
 have h1 : (a * b).natAbs ≤ (A * B).natAbs := by
  rw [Int.natAbs_mul, Int.natAbs_mul]
  exact Nat.mul_le_mul (by omega) (by omega)
 have h2 : 0 ≤ A * B := Int.mul_nonneg (by omega) (by omega)
 omega
theorem up_last {i tt st : Int} (hs : 0 < st) (h : i < tt) : i + (up i tt st - 1) * st < tt := by
 unfold up
 rw [if_pos h]
 have := Int.ediv_mul_le (tt - i + st - 1) (show st ≠ 0 by omega)
 rw [Int.sub_mul, Int.one_mul]
 omega
def SL (xs ys : List Int) (o : Int) (a : Nat) (st : Int) (L1 L2 : List Int) (p : Int) : Prop :=
 ∃ (m : Nat) (f : Int), L1 = xs.set a (m : Int) ∧ (m : Int) ≤ xs.getD a 0 ∧ (1 ≤ m → 0 ≤ f ∧ f < xs.getD a 0 ∧ 0 ≤ f + ((m : Int) - 1) * st ∧ f + ((m : Int) - 1) * st < xs.getD a 0) ∧
  (cnt L1 = 0 → L2 = ys ∧ p = o) ∧ (cnt L1 ≠ 0 → 1 ≤ m ∧ p = o + f * ys.getD a 0 ∧ L2 = if 1 < m then ys.set a (st * ys.getD a 0) else ys)
theorem fin (xs ys : List Int) (o : Int) (hv : VV xs ys o) (a : Nat) (ha : a < xs.length) (st from' : Int) (F : List Int) (hF : F.length ≤ xs.getD a 0) (hst : -1000000 ≤ st ∧ st ≤ 1000000) (hin : 1 ≤ F.length → 0 ≤ from' ∧ from' < xs.getD a 0 ∧ 0 ≤ from' + ((F.length : Int) - 1) * st ∧ from' + ((F.length : Int) - 1) * st < xs.getD a 0) (hfr : 1 ≤ F.length → rd F 0 = from') (k k' : Nat) (hk : 100 < k) (hk' : 100 < k') :
  ∃ L1 L2 p, SL xs ys o a st L1 L2 p ∧ spec_Slice.j4 k a st F xs ys o = some (0, L1, L2, p) ∧ impl_Slice.j1 k' a from' st F.length xs ys o = some (0, L1, L2, p) := by
 obtain ⟨gx, lxy, o0, o1, oy, _⟩ := hv
 have g4 := gx.1
 have hxa : 0 ≤ xs.getD a 0 ∧ xs.getD a 0 ≤ 4096 := by
  rw [List.getD_eq_getElem?_getD, List.getElem?_eq_getElem ha]
  exact gx.2.1 _ (List.getElem_mem ha)
 have gs : good (xs.set a (F.length : Int)) := ⟨by simpa using g4, ok_set gx.2.1 (by omega) (by omega), Int.le_trans (cnt_set_le gx.2.1 ha (by omega) hF) gx.2.2⟩
 have n0 := cnt_nonneg gs.2.1
 have hya : -4096 ≤ ys.getD a 0 ∧ ys.getD a 0 ≤ 4096 := by
  rw [List.getD_eq_getElem?_getD, List.getElem?_eq_getElem (by omega)]
  exact oy _ (List.getElem_mem _)
 have hry : rd ys (a : Int) = ys.getD a 0 := by unfold rd; rw [Int.toNat_natCast]
 obtain ⟨k, rfl⟩ : ∃ m, k = m + 1 := ⟨k - 1, by omega⟩
 obtain ⟨k', rfl⟩ : ∃ m, k' = m + 1 := ⟨k' - 1, by omega⟩
 have c1 := (l2count_f k _ (by simp; omega)).1 gs
 have c2 := count_f k' _ (by simp; omega) (by simpa using g4) gs.2.1
 have ex : spec_l2CopyView.f k xs ys o = some (xs, ys, o) := by
  unfold spec_l2CopyView.f
  rw [copy_f k xs (by omega) (by omega)]; simp only [Option.bind_some]
  rw [copy_f k ys (by omega) (by omega)]; rfl
 have ei : impl_copyView.f k' xs ys o = some (xs, ys, o) := by
  unfold impl_copyView.f slices_Clone_int64_int64.f
  rw [if_pos (by omega)]; simp only [Option.bind_some]
  rw [if_pos (by omega)]; rfl
 have S0 : spec_Slice.j4 (k + 1) a st F xs ys o = if cnt (xs.set a (F.length : Int)) = 0 then some (0, xs.set a (F.length : Int), ys, o) else (if 0 < (F.length : Int) then (if (a : Int) < (ys.length : Int) then (if (F.length : Int) > 1 then (if (a : Int) < (ys.length : Int) then some (0, xs.set a (F.length : Int), ys.set a (wrap64 (st * rd ys a)), wrap64 (o + wrap64 (rd F 0 * rd ys a))) else none) else some (0, xs.set a (F.length : Int), ys, wrap64 (o + wrap64 (rd F 0 * rd ys a)))) else none) else none) := by
  rw [spec_Slice.j4, ex]
  simp only [Option.bind_some]
  rw [if_pos (show (0 : Int) ≤ (a : Int) by omega), if_pos (show (a : Int) < (xs.length : Int) by omega)]
  simp only [Option.bind_some, Int.toNat_natCast]
  rw [c1]
  simp only [Option.bind_some]
 have I0 : impl_Slice.j1 (k' + 1) a from' st F.length xs ys o = if cnt (xs.set a (F.length : Int)) = 0 then some (0, xs.set a (F.length : Int), ys, o) else (if (F.length : Int) ≥ 2 then (if (a : Int) < (ys.length : Int) then (if (a : Int) < (ys.length : Int) then some (0, xs.set a (F.length : Int), ys.set a (wrap64 (rd ys a * st)), wrap64 (o + wrap64 (from' * rd ys a))) else none) else none) else (if (a : Int) < (ys.length : Int) then some (0, xs.set a (F.length : Int), ys, wrap64 (o + wrap64 (from' * rd ys a))) else none)) := by
  rw [impl_Slice.j1, ei]
  simp only [Option.bind_some]
  rw [if_pos (show (0 : Int) ≤ (a : Int) by omega), if_pos (show (a : Int) < (xs.length : Int) by omega)]
  simp only [Option.bind_some, Int.toNat_natCast]
  rw [c2]
  simp only [Option.bind_some]
 have hy : (a : Int) < (ys.length : Int) := by omega
 rw [S0, I0]
 by_cases hc : cnt (xs.set a (F.length : Int)) = 0
 ·rw [if_pos hc, if_pos hc]
  exact ⟨_, _, _, ⟨F.length, from', rfl, hF, hin, fun _ => ⟨rfl, rfl⟩, fun h => absurd hc h⟩, rfl, rfl⟩
 ·rw [if_neg hc, if_neg hc]
  have hF1 : 1 ≤ F.length := by
   rcases Nat.eq_zero_or_pos F.length with h | h
   ·exfalso; apply hc; rw [h]; exact cnt_set_zero ha
   ·exact h
  have hb := hin hF1
  have m1 := mul_abs (a := st) (b := ys.getD a 0) (A := 1000000) (B := 4096) hst hya
  have m2 := mul_abs (a := from') (b := ys.getD a 0) (A := 4096) (B := 4096) (by omega) hya
  rw [hfr hF1, if_pos (show 0 < (F.length : Int) by omega), hry, w_id (n := from' * ys.getD a 0) (by omega) (by omega), w_id (n := o + from' * ys.getD a 0) (by omega) (by omega)]
  simp only [hy, if_true]
  by_cases h2 : (F.length : Int) > 1
  ·rw [if_pos h2, if_pos (show (F.length : Int) ≥ 2 by omega), Int.mul_comm (ys.getD a 0) st, w_id (n := st * ys.getD a 0) (by omega) (by omega)]
   exact ⟨_, _, _, ⟨F.length, from', rfl, hF, hin, fun h => absurd h hc, fun _ => ⟨hF1, rfl, by rw [if_pos (by omega)]⟩⟩, rfl, rfl⟩
  ·rw [if_neg h2, if_neg (show ¬ (F.length : Int) ≥ 2 by omega)]
   exact ⟨_, _, _, ⟨F.length, from', rfl, hF, hin, fun h => absurd h hc, fun _ => ⟨hF1, rfl, by rw [if_neg (by omega)]⟩⟩, rfl, rfl⟩
theorem right_f (x n lo hi : Int) (hx : -1000000 ≤ x ∧ x ≤ 1000000) (hn : 0 ≤ n ∧ n ≤ 4096) (hl : -1 ≤ lo ∧ lo ≤ 0) (hh : -1 ≤ hi ∧ hi ≤ n) (hlh : lo ≤ hi) : ∃ e, spec_l2Right.f x n lo hi = some e ∧ impl_end.f x n lo hi = some e ∧ lo ≤ e ∧ (e ≤ hi ∨ e < n) ∧ (hi = n → e ≤ n) := by
 unfold spec_l2Right.f impl_end.f
 rw [w_id (n := x + n) (by omega) (by omega)]
 unfold mx mn
 by_cases h : x < 0
 ·rw [if_pos h, if_pos h]
  by_cases h2 : x + n < lo
  ·rw [if_pos h2]
   refine ⟨lo, rfl, by congr 1; split <;> omega, by omega, by omega, by omega⟩
  ·rw [if_neg h2]
   refine ⟨x + n, rfl, by congr 1; split <;> omega, by omega, by omega, by omega⟩
 ·rw [if_neg h, if_neg h]
  by_cases h2 : x > hi
  ·rw [if_pos h2]
   refine ⟨hi, rfl, by congr 1; split <;> omega, by omega, by omega, by omega⟩
  ·rw [if_neg h2]
   refine ⟨x, rfl, by congr 1; split <;> omega, by omega, by omega, by omega⟩
theorem far_f (x : Int) : impl_far.f x = some (decide (x < -1000000 ∨ x > 1000000)) := by
 unfold impl_far.f
 by_cases h : x < -1000000
 ·rw [if_pos h, decide_eq_true (Or.inl h)]
 ·rw [if_neg h]; congr 1; apply decide_eq_decide.2; omega
def Good (b c d : Int) : Prop := d ≠ 0 ∧ (-1000000 ≤ d ∧ d ≤ 1000000) ∧ (-1000000 ≤ b ∧ b ≤ 1000000) ∧ (-1000000 ≤ c ∧ c ≤ 1000000)
theorem sj1_true (q : Nat) (a b c d : Int) (xs ys : List Int) (o : Int) (hq : 0 < q) : spec_Slice.j1 q a b c d true xs ys o = some (8, [], [], 0) := by
 obtain ⟨q, rfl⟩ : ∃ m, q = m + 1 := ⟨q - 1, by omega⟩
 rw [spec_Slice.j1, if_pos rfl]
theorem sj0 (q : Nat) (a b c d : Int) (xs ys : List Int) (o : Int) (hq : 0 < q) :
  (¬ Good b c d → spec_Slice.j0 (q + 1) a b c d false xs ys o = some (8, [], [], 0)) ∧ (Good b c d → spec_Slice.j0 (q + 1) a b c d false xs ys o = spec_Slice.j1 q a b c d false xs ys o) := by
 have T := sj1_true q a b c d xs ys o hq
 unfold Good
 rw [spec_Slice.j0, if_neg (by decide)]
 by_cases h1 : d = 0
 ·rw [if_pos h1]; exact ⟨fun _ => T, fun h => absurd h1 h.1⟩
 rw [if_neg h1]
 by_cases h2 : d < -1000000
 ·rw [if_pos h2]; exact ⟨fun _ => T, fun h => by omega⟩
 rw [if_neg h2]
 by_cases h3 : d > 1000000
 ·rw [if_pos h3]; exact ⟨fun _ => T, fun h => by omega⟩
 rw [if_neg h3]
 by_cases h4 : b < -1000000
 ·rw [if_pos h4]; exact ⟨fun _ => T, fun h => by omega⟩
 rw [if_neg h4]
 by_cases h5 : b > 1000000
 ·rw [if_pos h5]; exact ⟨fun _ => T, fun h => by omega⟩
 rw [if_neg h5]
 by_cases h6 : c < -1000000
 ·rw [if_pos h6]; exact ⟨fun _ => T, fun h => by omega⟩
 rw [if_neg h6]
 by_cases h7 : c > 1000000
 ·rw [decide_eq_true h7]; exact ⟨fun _ => T, fun h => by omega⟩
 ·rw [decide_eq_false h7]; exact ⟨fun h => absurd ⟨h1, ⟨by omega, by omega⟩, ⟨by omega, by omega⟩, ⟨by omega, by omega⟩⟩ h, fun _ => rfl⟩
theorem ij0_bad (q : Nat) (a b c d : Int) (xs ys : List Int) (o : Int) (h : ¬ Good b c d) : impl_Slice.j0 (q + 1) a b c d false xs ys o = some (8, [], [], 0) := by
 rw [impl_Slice.j0, if_neg (by decide)]
 by_cases h1 : d = 0
 ·rw [if_pos h1]
 rw [if_neg h1, far_f, far_f, far_f]
 simp only [Option.bind_some, decide_eq_true_eq]
 by_cases h2 : b < -1000000 ∨ b > 1000000
 ·rw [if_pos h2]
 rw [if_neg h2]
 by_cases h3 : c < -1000000 ∨ c > 1000000
 ·rw [if_pos h3]
 rw [if_neg h3]
 by_cases h4 : d < -1000000 ∨ d > 1000000
 ·rw [if_pos h4]
 ·exact absurd ⟨h1, ⟨by omega, by omega⟩, ⟨by omega, by omega⟩, ⟨by omega, by omega⟩⟩ h
theorem main (xs ys : List Int) (o : Int) (hv : VV xs ys o) (a : Nat) (ha : a < xs.length) (b c d : Int) (hg : Good b c d) (q : Nat) (hq : 10000 < q) :
  ∃ L1 L2 p, SL xs ys o a d L1 L2 p ∧ spec_Slice.j1 q a b c d false xs ys o = some (0, L1, L2, p) ∧ impl_Slice.j0 q a b c d false xs ys o = some (0, L1, L2, p) := by
 obtain ⟨h1, h2, h3, h4⟩ := hg
 obtain ⟨gx, lxy, o0, o1, oy, _⟩ := id hv
 have g4 := gx.1
 have hr : rd xs (a : Int) = xs.getD a 0 := by unfold rd; rw [Int.toNat_natCast]
 have hxa : 0 ≤ xs.getD a 0 ∧ xs.getD a 0 ≤ 4096 := by
  rw [List.getD_eq_getElem?_getD, List.getElem?_eq_getElem ha]
  exact gx.2.1 _ (List.getElem_mem ha)
 obtain ⟨q, rfl⟩ : ∃ m, q = m + 3 := ⟨q - 3, by omega⟩
 rw [impl_Slice.j0, if_neg (by decide), if_neg h1, far_f, far_f, far_f]
 simp only [Option.bind_some, decide_eq_true_eq]
 rw [if_neg (by omega), if_neg (by omega), if_neg (by omega), if_pos (by omega), if_pos (by omega)]
 rw [spec_Slice.j1, if_neg (by decide), if_pos (by omega), if_pos (by omega), hr]
 have F0 := fun (st from' : Int) (F : List Int) hF hst hin hfr k k' hk hk' => fin xs ys o hv a ha st from' F hF hst hin hfr k k' hk hk'
 unfold SL at F0 ⊢
 generalize xs.getD a 0 = n at *
 have cnv : ∀ x y : Int, 0 ≤ x → x ≤ 3000000 → 1 ≤ y → y ≤ 1000000 → wrap64 (Int.tdiv x y) = x / y := by
  intro x y x0 x1 y0 y1
  rw [Int.tdiv_eq_ediv_of_nonneg x0]
  have a1 : 0 ≤ x / y := Int.ediv_nonneg x0 (by omega)
  have a2 : x / y ≤ x := Int.ediv_le_self _ x0
  exact w_id (by omega) (by omega)
 by_cases hs : d < 0
 ·rw [if_pos hs, if_neg (show ¬ d > 0 by omega), w_id (n := n - 1) (by omega) (by omega)]
  obtain ⟨e1, s1, i1, l1, u1, _⟩ := right_f b n (-1) (n - 1) h3 hxa (by omega) (by omega) (by omega)
  obtain ⟨e2, s2, i2, l2, u2, _⟩ := right_f c n (-1) (n - 1) h4 hxa (by omega) (by omega) (by omega)
  rw [spec_Slice.j2, s1, s2, i1, i2]
  simp only [Option.bind_some]
  obtain ⟨F, k', hF, hk1, hk2, he⟩ := loop_down a d e2 xs ys o ⟨hs, h2.1⟩ (by omega) 4097 e1 [] (q + 1) (by omega) (by omega) (by omega) (by omega) (by simp)
  rw [he]
  obtain ⟨f1, f2, _⟩ := hF
  have ub := up_bound (i := e2) (tt := e1) (st := -d) (by omega)
  simp only [List.length_nil, Int.natCast_zero, Int.zero_add] at f1
  have hFn : (F.length : Int) ≤ n := by
   by_cases hc : e2 < e1
   ·have := ub.2.2 hc; omega
   ·rw [f1, up_zero hc]; omega
  have hm : ∀ X, (if e1 > e2 then (if wrap64 (-d) = 0 then none else impl_Slice.j1 (q + 2) a e1 d (wrap64 (Int.tdiv (wrap64 (wrap64 (wrap64 (e1 - e2) - d) - 1)) (wrap64 (-d)))) xs ys o) else impl_Slice.j1 (q + 2) a e1 d 0 xs ys o) = X ↔ impl_Slice.j1 (q + 2) a e1 d F.length xs ys o = X := by
   intro X
   by_cases hc : e2 < e1
   ·rw [if_pos hc, w_id (n := -d) (by omega) (by omega), if_neg (by omega), w_id (n := e1 - e2) (by omega) (by omega), w_id (n := e1 - e2 - d) (by omega) (by omega), w_id (n := e1 - e2 - d - 1) (by omega) (by omega), cnv _ _ (by omega) (by omega) (by omega) (by omega)]
    have : (e1 - e2 - d - 1) / -d = (F.length : Int) := by rw [f1]; unfold up; rw [if_pos hc]; congr 1; try omega
    rw [this]
   ·rw [if_neg hc]
    have : (F.length : Int) = 0 := by rw [f1, up_zero hc]
    rw [this]
  obtain ⟨L1, L2, p, b1, r1, r2⟩ := F0 d e1 F hFn h2 (fun h => by
   have hc : e2 < e1 := by
    rcases Int.lt_or_le e2 e1 with hc | hc
    ·exact hc
    ·rw [up_zero (by omega)] at f1; omega
   have := up_last (i := e2) (tt := e1) (st := -d) (by omega) hc
   rw [← f1] at this
   have e : ((F.length : Int) - 1) * d = -(((F.length : Int) - 1) * -d) := by rw [Int.mul_neg, Int.neg_neg]
   have t0 : 0 ≤ ((F.length : Int) - 1) * -d := Int.mul_nonneg (by omega) (by omega)
   refine ⟨by omega, by omega, by omega, by omega⟩) (fun h => f2 rfl (by omega)) k' (q + 2) (by omega) (by omega)
  exact ⟨L1, L2, p, b1, r1, (hm _).2 r2⟩
 ·rw [if_neg hs, if_pos (show d > 0 by omega)]
  obtain ⟨e1, s1, i1, l1, _, u1⟩ := right_f b n 0 n h3 hxa (by omega) (by omega) (by omega)
  obtain ⟨e2, s2, i2, l2, _, u2⟩ := right_f c n 0 n h4 hxa (by omega) (by omega) (by omega)
  have u1 := u1 rfl
  have u2 := u2 rfl
  rw [spec_Slice.j2, s1, s2, i1, i2]
  simp only [Option.bind_some]
  obtain ⟨F, k', hF, hk1, hk2, he⟩ := loop_up a d e2 xs ys o ⟨by omega, h2.2⟩ (by omega) 4097 e1 [] (q + 1) (by omega) (by omega) (by omega) (by omega) (by simp)
  rw [he]
  obtain ⟨f1, f2, _⟩ := hF
  have ub := up_bound (i := e1) (tt := e2) (st := d) (by omega)
  simp only [List.length_nil, Int.natCast_zero, Int.zero_add] at f1
  have hFn : (F.length : Int) ≤ n := by
   by_cases hc : e1 < e2
   ·have := ub.2.2 hc; omega
   ·rw [f1, up_zero hc]; omega
  have hm : ∀ X, (if e2 > e1 then impl_Slice.j1 (q + 2) a e1 d (wrap64 (Int.tdiv (wrap64 (wrap64 (wrap64 (e2 - e1) + d) - 1)) d)) xs ys o else impl_Slice.j1 (q + 2) a e1 d 0 xs ys o) = X ↔ impl_Slice.j1 (q + 2) a e1 d F.length xs ys o = X := by
   intro X
   by_cases hc : e1 < e2
   ·rw [if_pos hc, w_id (n := e2 - e1) (by omega) (by omega), w_id (n := e2 - e1 + d) (by omega) (by omega), w_id (n := e2 - e1 + d - 1) (by omega) (by omega), cnv _ _ (by omega) (by omega) (by omega) (by omega)]
    have : (e2 - e1 + d - 1) / d = (F.length : Int) := by rw [f1]; unfold up; rw [if_pos hc]
    rw [this]
   ·rw [if_neg hc]
    have : (F.length : Int) = 0 := by rw [f1, up_zero hc]
    rw [this]
  obtain ⟨L1, L2, p, b1, r1, r2⟩ := F0 d e1 F hFn h2 (fun h => by
   have hc : e1 < e2 := by
    rcases Int.lt_or_le e1 e2 with hc | hc
    ·exact hc
    ·rw [up_zero (by omega)] at f1; omega
   have := up_last (i := e1) (tt := e2) (st := d) (by omega) hc
   rw [← f1] at this
   have t0 : 0 ≤ ((F.length : Int) - 1) * d := Int.mul_nonneg (by omega) (by omega)
   refine ⟨by omega, by omega, by omega, by omega⟩) (fun h => f2 rfl (by omega)) k' (q + 2) (by omega) (by omega)
  exact ⟨L1, L2, p, b1, r1, (hm _).2 r2⟩
theorem slice_alike (xs ys : List Int) (o a b c d : Int) (k : Nat) (hx : xs.length ≤ 1048576) (hy : ys.length ≤ 1048576) (hk : 4000000 < k) :
  ∃ e L1 L2 p, spec_Slice.f k xs ys o a b c d = some (e, L1, L2, p) ∧ impl_Slice.f k xs ys o a b c d = some (e, L1, L2, p) ∧ ((e ≠ 0 ∧ L1 = [] ∧ L2 = [] ∧ p = 0) ∨ (e = 0 ∧ VV xs ys o ∧ ∃ i : Nat, a = (i : Int) ∧ i < xs.length ∧ SL xs ys o i d L1 L2 p)) := by
 obtain ⟨v, h1, h2, h3⟩ := vv_alike k xs ys o (by omega)
 unfold spec_Slice.f impl_Slice.f
 rw [h1, h2]
 simp only [Option.bind_some]
 cases v with
 | false => exact ⟨12, [], [], 0, rfl, rfl, .inl ⟨by decide, rfl, rfl, rfl⟩⟩
 | true =>
  have hv := h3 rfl
  rw [if_pos rfl, if_pos rfl]
  obtain ⟨q, rfl⟩ : ∃ q, k = q + 1 := ⟨k - 1, by omega⟩
  have bad : spec_Slice.j0 (q + 1) a b c d true xs ys o = some (5, [], [], 0) ∧ impl_Slice.j0 (q + 1) a b c d true xs ys o = some (5, [], [], 0) := ⟨by rw [spec_Slice.j0, if_pos rfl], by rw [impl_Slice.j0, if_pos rfl]⟩
  by_cases ha : a < 0
  ·rw [if_pos ha, if_pos ha]
   exact ⟨5, [], [], 0, bad.1, bad.2, .inl ⟨by decide, rfl, rfl, rfl⟩⟩
  rw [if_neg ha, if_neg ha]
  by_cases ha2 : a ≥ (xs.length : Int)
  ·rw [decide_eq_true ha2]
   exact ⟨5, [], [], 0, bad.1, bad.2, .inl ⟨by decide, rfl, rfl, rfl⟩⟩
  rw [decide_eq_false ha2]
  by_cases hg : Good b c d
  ·obtain ⟨n, rfl⟩ := Int.eq_ofNat_of_zero_le (show 0 ≤ a by omega)
   rw [(sj0 q n b c d xs ys o (by omega)).2 hg]
   obtain ⟨L1, L2, p, b1, r1, r2⟩ := main xs ys o hv n (by omega) b c d hg q (by omega)
   exact ⟨0, L1, L2, p, r1, impl_Slice.mono_l q |>.1 _ _ _ _ _ _ _ _ _ r2, .inr ⟨rfl, hv, n, rfl, by omega, b1⟩⟩
  ·exact ⟨8, [], [], 0, (sj0 q a b c d xs ys o (by omega)).1 hg, ij0_bad q a b c d xs ys o hg, .inl ⟨by decide, rfl, rfl, rfl⟩⟩
def tans (n : Nat) (xs ys : List Int) (o : Int) : List Int → List Int → Int × List Int × List Int × Int
 | pre, [] => (0, pre.map (rd xs), pre.map (rd ys), o)
 | pre, p :: suf => if p < 0 ∨ (n : Int) ≤ p ∨ p ∈ pre then (5, [], [], 0) else tans n xs ys o (pre ++ [p]) suf
theorem spec_l1 (perm xs ys : List Int) (o : Int) (pre suf : List Int) (p : Int) (hp : perm = pre ++ p :: suf) (h4 : perm.length ≤ 4) (p0 : 0 ≤ p) (px : p < (xs.length : Int)) (py : p < (ys.length : Int)) (K : Nat) (r : Option (Int × List Int × List Int × Int))
  (hr : ∀ k, K ≤ k → spec_Transpose.l0 k perm (wrap64 ((pre.length : Int) + 1)) xs ys o (pre.map (rd xs) ++ [rd xs p]) (pre.map (rd ys) ++ [rd ys p]) o = r) :
  ∀ (b a : List Int) (k : Nat), pre = a ++ b → p ∉ a → K + b.length < k → spec_Transpose.l1 k perm pre.length a.length xs ys o (pre.map (rd xs)) (pre.map (rd ys)) o = if p ∈ b then some (5, [], [], 0) else r := by
 intro b
 have rp : rd perm (pre.length : Int) = p := by rw [hp, rd_at]
 have hl : (perm.length : Int) = pre.length + 1 + suf.length := by rw [hp, len_mid]
 induction b with
 | nil =>
  intro a k ha hn hk
  obtain ⟨k, rfl⟩ : ∃ m, k = m + 1 := ⟨k - 1, by omega⟩
  have := hr k (by simp at hk; omega)
  have ha' : a.length = pre.length := by rw [ha]; simp
  rw [spec_Transpose.l1, if_neg (by omega), if_pos (by omega), if_pos (by omega), rp, if_pos p0, if_pos px, if_pos (by simp; omega), if_pos py, if_pos (by simp; omega), this]
  simp
 | cons q b IH =>
  intro a k ha hn hk
  obtain ⟨k, rfl⟩ : ∃ m, k = m + 1 := ⟨k - 1, by omega⟩
  simp only [List.length_cons] at hk
  have hla : (pre.length : Int) = a.length + 1 + b.length := by rw [ha, len_mid]
  have rq : rd perm (a.length : Int) = q := by rw [hp, ha, List.append_assoc, List.cons_append, rd_at]
  have e2 : wrap64 ((a.length : Int) + 1) = ((a ++ [q]).length : Int) := by rw [w_id (by omega) (by omega)]; simp
  rw [spec_Transpose.l1, if_pos (by omega), if_pos (by omega), if_pos (by omega), if_pos (by omega), if_pos (by omega), rq, rp, e2]
  by_cases c : q = p
  ·rw [if_pos c, if_pos (by simp [c])]
  ·rw [if_neg c, IH (a ++ [q]) k (by rw [ha]; simp) (by simp; exact ⟨hn, fun h => c h.symm⟩) (by omega)]
   have : (p ∈ q :: b) ↔ p ∈ b := by simp; intro h; exact absurd h.symm c
   simp only [this]
theorem spec_l0 (perm xs ys : List Int) (o : Int) (h4 : perm.length ≤ 4) (hx : xs.length = perm.length) (hy : ys.length = perm.length) : ∀ (suf pre : List Int) (k : Nat), perm = pre ++ suf → 12 * suf.length < k →
  spec_Transpose.l0 k perm pre.length xs ys o (pre.map (rd xs)) (pre.map (rd ys)) o = some (tans perm.length xs ys o pre suf) := by
 intro suf
 induction suf with
 | nil =>
  intro pre k hp hk
  obtain ⟨k, rfl⟩ : ∃ m, k = m + 1 := ⟨k - 1, by omega⟩
  rw [spec_Transpose.l0, if_neg (by rw [hp]; simp)]
  rfl
 | cons p suf IH =>
  intro pre k hp hk
  simp only [List.length_cons] at hk
  obtain ⟨k, rfl⟩ : ∃ m, k = m + 1 := ⟨k - 1, by omega⟩
  obtain ⟨k, rfl⟩ : ∃ m, k = m + 1 := ⟨k - 1, by omega⟩
  have hl : (perm.length : Int) = pre.length + 1 + suf.length := by rw [hp, len_mid]
  have rp : rd perm (pre.length : Int) = p := by rw [hp, rd_at]
  rw [spec_Transpose.l0, if_pos (by omega), if_pos (by omega), rp]
  unfold tans
  by_cases c1 : p < 0
  ·rw [if_pos c1, spec_Transpose.j1, if_pos rfl, if_pos (.inl c1)]
  ·rw [if_neg c1]
   by_cases c2 : p ≥ (perm.length : Int)
   ·rw [decide_eq_true c2, spec_Transpose.j1, if_pos rfl, if_pos (.inr (.inl c2))]
   ·rw [decide_eq_false c2, spec_Transpose.j1, if_neg (by decide)]
    have e2 : wrap64 ((pre.length : Int) + 1) = ((pre ++ [p]).length : Int) := by rw [w_id (by omega) (by omega)]; simp
    have S := spec_l1 perm xs ys o pre suf p hp h4 (by omega) (by omega) (by omega) (12 * suf.length + 1) (some (tans perm.length xs ys o (pre ++ [p]) suf)) (by
     intro k hk
     rw [e2]
     have := IH (pre ++ [p]) k (by rw [hp]; simp) (by omega)
     rw [← this]
     simp) pre [] k rfl (by simp) (by omega)
    have S := (show spec_Transpose.l1 k perm pre.length ((0 : Nat) : Int) xs ys o (pre.map (rd xs)) (pre.map (rd ys)) o = _ from S)
    rw [Int.natCast_zero] at S
    rw [S]
    by_cases c3 : p ∈ pre
    ·rw [if_pos c3, if_pos (.inr (.inr c3))]
    ·rw [if_neg c3, if_neg (by rintro (h | h | h); exact c1 h; exact c2 h; exact c3 h)]
def sn (pre : List Int) : List Bool := (List.range 4).map fun (i : Nat) => decide ((i : Int) ∈ pre)
theorem sn_nil : sn [] = List.replicate 4 false := by decide
theorem sn_rd (pre : List Int) (p : Int) (h0 : 0 ≤ p) (h4 : p < 4) : rdOf false (sn pre) p = decide (p ∈ pre) := by
 obtain ⟨q, rfl⟩ := Int.eq_ofNat_of_zero_le h0
 have hq : q < 4 := by omega
 unfold rdOf sn
 simp [List.getD_eq_getElem?_getD, List.getElem?_map, List.getElem?_range hq]
theorem sn_set (pre : List Int) (p : Int) (h0 : 0 ≤ p) : (sn pre).set p.toNat true = sn (pre ++ [p]) := by
 obtain ⟨q, rfl⟩ := Int.eq_ofNat_of_zero_le h0
 unfold sn
 apply List.ext_getElem (by simp)
 intro i h1 h2
 simp at h1 h2
 simp only [List.getElem_set, List.getElem_map, List.getElem_range, List.mem_append, List.mem_singleton, Int.toNat_natCast]
 by_cases e : q = i
 ·subst e; simp
 ·have : ¬ (i : Int) = (q : Int) := by omega
  simp [e, this]
theorem sn_len (pre : List Int) : (sn pre).length = 4 := by simp [sn]
theorem impl_l0 (perm xs ys : List Int) (o : Int) (h4 : perm.length ≤ 4) (hx : xs.length = perm.length) (hy : ys.length = perm.length) : ∀ (suf pre : List Int) (k : Nat), perm = pre ++ suf → suf.length < k →
  impl_Transpose.l0 k perm (sn pre) perm perm.length pre.length xs ys o (pre.map (rd xs)) (pre.map (rd ys)) o = some (tans perm.length xs ys o pre suf) := by
 intro suf
 induction suf with
 | nil =>
  intro pre k hp hk
  obtain ⟨k, rfl⟩ : ∃ m, k = m + 1 := ⟨k - 1, by omega⟩
  rw [impl_Transpose.l0, if_neg (by rw [hp]; simp)]
  rfl
 | cons p suf IH =>
  intro pre k hp hk
  simp only [List.length_cons] at hk
  obtain ⟨k, rfl⟩ : ∃ m, k = m + 1 := ⟨k - 1, by omega⟩
  have hl : (perm.length : Int) = pre.length + 1 + suf.length := by rw [hp, len_mid]
  have rp : rd perm (pre.length : Int) = p := by rw [hp, rd_at]
  rw [impl_Transpose.l0, if_pos (by omega), if_pos (by omega), if_pos (by omega), rp]
  unfold tans
  by_cases c1 : p < 0
  ·rw [if_pos c1, if_pos (.inl c1)]
  ·rw [if_neg c1]
   by_cases c2 : p ≥ (perm.length : Int)
   ·rw [if_pos c2, if_pos (.inr (.inl c2))]
   ·rw [if_neg c2, if_pos (by omega), if_pos (by rw [sn_len]; omega), sn_rd pre p (by omega) (by omega)]
    by_cases c3 : p ∈ pre
    ·rw [if_pos (decide_eq_true c3), if_pos (.inr (.inr c3))]
    ·have e2 : wrap64 ((pre.length : Int) + 1) = ((pre ++ [p]).length : Int) := by rw [w_id (by omega) (by omega)]; simp
     have ih := IH (pre ++ [p]) k (by rw [hp]; simp) (by omega)
     rw [if_neg (by simpa using c3), if_neg (show ¬ (p < 0 ∨ (perm.length : Int) ≤ p ∨ p ∈ pre) by rintro (h | h | h); exact c1 h; exact c2 h; exact c3 h), if_pos (by omega), if_pos (by simp; omega), if_pos (by omega), if_pos (by simp; omega), e2, sn_set pre p (by omega), ← ih]
     simp
def bstr : List Int → List Int → List Int → Option (List Int)
 | s :: ss, x :: xs, y :: ys => if x = s then (bstr ss xs ys).bind fun r => some (y :: r) else if x = 1 then (bstr ss xs ys).bind fun r => some (0 :: r) else none
 | _, _, _ => some []
theorem bstr_len : ∀ (ss xs ys L : List Int), xs.length = ss.length → ys.length = ss.length → bstr ss xs ys = some L → L.length = ss.length
 | [], [], [], L, _, _, h => by simp [bstr] at h; simp [← h]
 | [], _ :: _, _, _, h, _, _ => by simp at h
 | [], [], _ :: _, _, _, h, _ => by simp at h
 | _ :: _, [], _, _, h, _, _ => by simp at h
 | _ :: _, _ :: _, [], _, _, h, _ => by simp at h
 | s :: ss, x :: xs, y :: ys, L, h1, h2, h => by
  simp only [bstr] at h
  split at h
  ·obtain ⟨r, hr, h⟩ := Option.bind_eq_some_iff.1 h
   obtain rfl := Option.some.inj h
   simp [bstr_len ss xs ys r (by simpa using h1) (by simpa using h2) hr]
  ·split at h
   ·obtain ⟨r, hr, h⟩ := Option.bind_eq_some_iff.1 h
    obtain rfl := Option.some.inj h
    simp [bstr_len ss xs ys r (by simpa using h1) (by simpa using h2) hr]
   ·cases h
def bans (shape B : List Int) (o : Int) (s : Option (List Int)) : Option (Int × List Int × List Int × Int) :=
 match s with
 | none => some (6, [], [], 0)
 | some L => some (0, shape, B ++ L, o)
theorem spec_hi (shape xs ys : List Int) (o : Int) (new : Nat) (hn : shape.length ≤ 4) : ∀ (suf xs' ys' pre prex prey B : List Int) (k : Nat), shape = pre ++ suf → xs = prex ++ xs' → ys = prey ++ ys' → suf.length = xs'.length → suf.length = ys'.length →
  pre.length = new + prex.length → prey.length = prex.length → B.length = pre.length → suf.length < k → spec_Broadcast.l0 k shape new pre.length xs ys o pre B o = bans shape B o (bstr suf xs' ys') := by
 intro suf
 induction suf with
 | nil =>
  intro xs' ys' pre prex prey B k hs hx hy l1 l2 l3 l4 l5 hk
  obtain ⟨k, rfl⟩ : ∃ m, k = m + 1 := ⟨k - 1, by omega⟩
  rw [spec_Broadcast.l0, if_neg (by rw [hs]; simp)]
  simp [bstr, bans, hs]
 | cons s suf IH =>
  intro xs' ys' pre prex prey B k hs hx hy l1 l2 l3 l4 l5 hk
  obtain ⟨x, xs', rfl⟩ : ∃ x t, xs' = x :: t := by cases xs' with | nil => simp at l1 | cons a t => exact ⟨a, t, rfl⟩
  obtain ⟨y, ys', rfl⟩ : ∃ y t, ys' = y :: t := by cases ys' with | nil => simp at l2 | cons a t => exact ⟨a, t, rfl⟩
  simp only [List.length_cons] at l1 l2 hk
  obtain ⟨k, rfl⟩ : ∃ m, k = m + 1 := ⟨k - 1, by omega⟩
  have hsl := len_mid pre suf s
  rw [← hs] at hsl
  have hxl := len_mid prex xs' x
  rw [← hx] at hxl
  have hyl := len_mid prey ys' y
  rw [← hy] at hyl
  have r1 : rd shape (pre.length : Int) = s := by rw [hs, rd_at]
  have r2 : rd xs (prex.length : Int) = x := by rw [hx, rd_at]
  have r3 : rd ys (prex.length : Int) = y := by rw [hy, ← l4, rd_at]
  have e1 : wrap64 ((pre.length : Int) - (new : Int)) = (prex.length : Int) := by rw [w_id (by omega) (by omega)]; omega
  have e2 : wrap64 ((pre.length : Int) + 1) = ((pre ++ [s]).length : Int) := by rw [w_id (by omega) (by omega)]; simp
  have ih := fun Q hq => IH xs' ys' (pre ++ [s]) (prex ++ [x]) (prey ++ [y]) (B ++ [Q]) k (by rw [hs]; simp) (by rw [hx]; simp) (by rw [hy]; simp) (by omega) (by omega) (by simp; omega) (by simp; omega) (by simp; omega) hq
  rw [spec_Broadcast.l0, if_pos (by omega), if_pos (by omega), e1, if_pos (by omega), if_pos (by omega), if_pos (by omega), r1, r2, r3, e2]
  simp only [bstr]
  by_cases c1 : x = s
  ·rw [if_pos c1, if_pos (by omega), if_pos (by omega), if_pos (by omega), if_pos c1, ih y (by omega)]
   cases bstr suf xs' ys' <;> simp [bans]
  ·rw [if_neg c1, if_neg c1]
   by_cases c2 : x = 1
   ·rw [if_pos c2, if_pos (by omega), if_pos (by omega), if_pos c2, ih 0 (by omega)]
    cases bstr suf xs' ys' <;> simp [bans]
   ·rw [if_neg c2, if_neg c2]; rfl
theorem spec_lo (shape xs ys : List Int) (o : Int) (new : Nat) (hn : shape.length ≤ 4) (hnew : new ≤ shape.length) (K : Nat) (r : Option (Int × List Int × List Int × Int))
  (hr : ∀ k, K ≤ k → spec_Broadcast.l0 k shape new new xs ys o (shape.take new) (List.replicate new 0) o = r) : ∀ (m i k : Nat), i + m = new → K + m ≤ k → spec_Broadcast.l0 k shape new i xs ys o (shape.take i) (List.replicate i 0) o = r := by
 intro m
 induction m with
 | zero =>
  intro i k hi hk
  obtain rfl : i = new := by omega
  exact hr k (by omega)
 | succ m IH =>
  intro i k hi hk
  obtain ⟨k, rfl⟩ : ∃ q, k = q + 1 := ⟨k - 1, by omega⟩
  have ih := IH (i + 1) k (by omega) (by omega)
  have e2 : wrap64 ((i : Int) + 1) = ((i + 1 : Nat) : Int) := by rw [w_id (by omega) (by omega)]; rfl
  have r1 : shape.take i ++ [rd shape (i : Int)] = shape.take (i + 1) := by
   rw [List.take_succ_eq_append_getElem (by omega)]
   congr 2
   unfold rd
   rw [Int.toNat_natCast, List.getD_eq_getElem?_getD, List.getElem?_eq_getElem (by omega)]; rfl
  rw [spec_Broadcast.l0, if_pos (by omega), if_neg (by omega), if_pos (by omega), if_pos (by simp; omega), if_pos (by simp; omega), e2, r1, ← List.replicate_succ']
  exact ih
theorem w1 {n : Nat} (h : n ≤ 1000000) : wrap64 ((n : Int) + 1) = ((n + 1 : Nat) : Int) := by rw [w_id (by omega) (by omega)]; rfl
theorem w2 {a b c : Nat} (h : a + b ≤ 1000000) (hc : c = b + a) : wrap64 ((a : Int) + (b : Int)) = (c : Int) := by rw [w_id (by omega) (by omega)]; omega
theorem impl_hi (shape xs ys : List Int) (o : Int) (new : Nat) (hn : shape.length ≤ 4) : ∀ (suf xs' ys' pre prex prey B : List Int) (k : Nat), shape = pre ++ suf → xs = prex ++ xs' → ys = prey ++ ys' → suf.length = xs'.length → suf.length = ys'.length →
  pre.length = new + prex.length → prey.length = prex.length → B.length = pre.length → suf.length < k → impl_Broadcast.l0 k shape new xs xs.length prex.length xs ys o shape (B ++ List.replicate suf.length 0) o = bans shape B o (bstr suf xs' ys') := by
 intro suf
 induction suf with
 | nil =>
  intro xs' ys' pre prex prey B k hs hx hy l1 l2 l3 l4 l5 hk
  obtain ⟨k, rfl⟩ : ∃ m, k = m + 1 := ⟨k - 1, by omega⟩
  obtain rfl : xs' = [] := List.length_eq_zero_iff.1 (by simpa using l1.symm)
  rw [impl_Broadcast.l0, if_neg (by rw [hx]; simp)]
  simp [bstr, bans]
 | cons s suf IH =>
  intro xs' ys' pre prex prey B k hs hx hy l1 l2 l3 l4 l5 hk
  obtain ⟨x, xs', rfl⟩ : ∃ x t, xs' = x :: t := by cases xs' with | nil => simp at l1 | cons a t => exact ⟨a, t, rfl⟩
  obtain ⟨y, ys', rfl⟩ : ∃ y t, ys' = y :: t := by cases ys' with | nil => simp at l2 | cons a t => exact ⟨a, t, rfl⟩
  simp only [List.length_cons] at l1 l2 hk
  obtain ⟨k, rfl⟩ : ∃ m, k = m + 1 := ⟨k - 1, by omega⟩
  have hpl : prex.length + new ≤ 4 := by have q := congrArg List.length hs; simp at q; omega
  have hsl := len_mid pre suf s
  rw [← hs] at hsl
  have hxl := len_mid prex xs' x
  rw [← hx] at hxl
  have hyl := len_mid prey ys' y
  rw [← hy] at hyl
  have z0 : (0 : Int) ≤ (prex.length : Int) := by omega
  have z1 : (prex.length : Int) < (xs.length : Int) := by omega
  have z2 : (0 : Int) ≤ (pre.length : Int) := by omega
  have z3 : (pre.length : Int) < (shape.length : Int) := by omega
  have z4 : (prex.length : Int) < (ys.length : Int) := by omega
  have z5 : (pre.length : Int) < ((B ++ List.replicate (s :: suf).length 0).length : Int) := by simp; omega
  have z6 : suf.length < k := by omega
  have ih := fun Q hq => IH xs' ys' (pre ++ [s]) (prex ++ [x]) (prey ++ [y]) (B ++ [Q]) k (by rw [hs]; simp) (by rw [hx]; simp) (by rw [hy]; simp) (by omega) (by omega) (by simp; omega) (by simp; omega) (by simp; omega) hq
  have e1 : wrap64 ((prex.length : Int) + (new : Int)) = (pre.length : Int) := w2 (Nat.le_trans hpl (by decide)) l3
  have e2 : wrap64 ((prex.length : Int) + 1) = ((prex ++ [x]).length : Int) := by rw [w1 (Nat.le_trans (Nat.le_add_right _ _) (Nat.le_trans hpl (by decide)))]; simp
  have r1 : rd shape (pre.length : Int) = s := by rw [hs, rd_at]
  have r2 : rd xs (prex.length : Int) = x := by rw [hx, rd_at]
  have r3 : rd ys (prex.length : Int) = y := by rw [hy, ← l4, rd_at]
  have put : (B ++ List.replicate (s :: suf).length 0).set (pre.length : Int).toNat y = (B ++ [y]) ++ List.replicate suf.length 0 := by
   rw [Int.toNat_natCast, ← l5]; simp [List.replicate_succ]
  have keep : B ++ List.replicate (s :: suf).length 0 = (B ++ [0]) ++ List.replicate suf.length 0 := by simp [List.replicate_succ]
  rw [impl_Broadcast.l0, if_pos z1, if_pos z0, if_pos z1, e1, if_pos z2, if_pos z3, r1, r2, r3, e2]
  simp only [bstr]
  by_cases c1 : x = s
  ·rw [if_pos c1, if_pos z4, if_pos z5, if_pos c1, put, ih y z6]
   cases bstr suf xs' ys' <;> simp [bans]
  ·rw [if_neg c1, if_neg c1]
   by_cases c2 : x = 1
   ·rw [if_pos c2, if_pos c2, keep, ih 0 z6]
    cases bstr suf xs' ys' <;> simp [bans]
   ·rw [if_neg c2, if_neg c2]; rfl
theorem pl_eq : ∀ (xs ys : List Int) (o : Int), Odo.places xs ys o = places xs ys o
 | [], ys, o => by simp [places, Odo.places]
 | _ :: _, [], o => by simp [places, Odo.places]
 | n :: ns, s :: ss, o => by
  simp only [places, Odo.places]
  congr 1
  funext i
  exact pl_eq ns ss _
theorem pr_eq : ∀ xs : List Int, Odo.pr xs = cnt xs
 | [] => rfl
 | x :: xs => by simp only [Odo.pr, cnt, pr_eq xs]
def offs (xs ys : List Int) (o : Int) : List Int := if cnt xs = 0 then [] else places xs ys o
theorem offs_len {xs ys : List Int} {o : Int} (h : VV xs ys o) : (offs xs ys o).length ≤ 4096 := by
 obtain ⟨g, l, o0, o1, oy, r⟩ := h
 unfold offs
 split
 ·simp
 ·have := places_len xs ys o (by omega) g.2.1
  have := g.2.2
  omega
theorem good_of {xs ys : List Int} {o : Int} (h : VV xs ys o) : Odo.Good xs ys o (cnt xs) := by
 obtain ⟨g, l, o0, o1, oy, r⟩ := h
 refine ⟨l, g.1, fun hc => ⟨pos_of_cnt g.2.1 hc, oy, by rw [pr_eq]; exact g.2.2, ?_⟩⟩
 intro x hx
 rw [pl_eq] at hx
 exact r hc x hx
theorem placesOf_eq (xs ys : List Int) (o : Int) : Odo.placesOf xs ys o (cnt xs) = offs xs ys o := by
 unfold Odo.placesOf offs
 rw [pl_eq]
theorem impl_offs {xs ys : List Int} {o : Int} (h : VV xs ys o) (k : Nat) (hk : 100000 ≤ k) : impl_offsets.f k xs ys o = some (offs xs ys o) := by
 unfold impl_offsets.f
 have h4 := h.1.1
 rw [count_f k xs (by omega) h4 h.1.2.1]
 simp only [Option.bind_some]
 rw [if_pos (good_of h), placesOf_eq]
theorem spec_offs {xs ys : List Int} {o : Int} (h : VV xs ys o) (k : Nat) (hk : 100000 ≤ k) : spec_l2Offsets.f k xs ys o = some (offs xs ys o) := by
 obtain ⟨g, l, o0, o1, oy, r⟩ := h
 have h4 := g.1
 unfold spec_l2Offsets.f offs
 rw [(l2count_f k xs (by omega)).1 g]
 simp only [Option.bind_some]
 by_cases hc : cnt xs = 0
 ·rw [if_pos hc, if_pos hc]
 ·rw [if_neg hc, if_neg hc]
  have hnd := need_le xs g.2.1
  have P := places_f xs ys o xs ys [] [] k o rfl rfl rfl (by omega) (by omega) (by simpa using g.1) g.2.1 (pos_of_cnt g.2.1 hc) oy g.2.2 (by omega) (by omega)
  simp only [List.length_nil, Int.natCast_zero] at P
  rw [P]; rfl
namespace Odo
def inRow : List Int → Bool
 | [] => true
 | [_] => true
 | a :: b :: t => decide (b = wrap64 (a + 1)) && inRow (b :: t)
def nx (o : Int) (pre : List Int) : Int := match pre.getLast? with
 | none => o
 | some p => wrap64 (p + 1)
theorem nx_snoc (o : Int) (pre : List Int) (x : Int) : nx o (pre ++ [x]) = wrap64 (x + 1) := by simp [nx]
theorem inRow_snoc (o : Int) : ∀ (pre : List Int) (x : Int), inRow (pre ++ [x]) = (inRow pre && decide (pre = [] ∨ x = nx o pre))
 | [], x => by simp [inRow]
 | [a], x => by simp [inRow, nx]
 | a :: b :: t, x => by
  have ih := inRow_snoc o (b :: t) x
  have e : nx o (a :: b :: t) = nx o (b :: t) := by simp [nx, List.getLast?_cons_cons]
  simp only [List.cons_append, inRow] at ih ⊢
  rw [ih, e]
  simp [Bool.and_assoc]
theorem inRow_left : ∀ (t pre : List Int), inRow (pre ++ t) = true → inRow pre = true
 | [], pre, h => by simpa using h
 | x :: t, pre, h => by
  have := inRow_left t (pre ++ [x]) (by simpa using h)
  rw [inRow_snoc 0, Bool.and_eq_true] at this
  exact this.1
end Odo
theorem row_l0 (sh : List Int) (n o : Int) (A B : List Int) : ∀ (suf p : List Int) (z : Int) (k : Nat), suf.length < k → p.length + suf.length ≤ 5000 → Odo.inRow (p ++ [z]) = true →
  (Odo.inRow (p ++ [z] ++ suf) = true ∧ ∃ k', k ≤ k' + suf.length + 1 ∧ k' < k ∧ spec_Reshape.l0 k sh n (p ++ [z] ++ suf) ((p ++ [z]).length : Int) A B o = (spec_l2CopyList.f k' sh).bind fun t => spec_Reshape.l1 k' sh n 0 t [] o) ∨
  (Odo.inRow (p ++ [z] ++ suf) = false ∧ spec_Reshape.l0 k sh n (p ++ [z] ++ suf) ((p ++ [z]).length : Int) A B o = some (13, [], [], 0))
 | [], p, z, k, hk, hl, hr => by
  obtain ⟨k, rfl⟩ : ∃ m, k = m + 1 := ⟨k - 1, by omega⟩
  refine .inl ⟨by simpa using hr, k, by omega, by omega, ?_⟩
  rw [spec_Reshape.l0, if_neg (by simp)]
 | x :: suf, p, z, k, hk, hl, hr => by
  simp only [List.length_cons] at hk hl
  obtain ⟨k, rfl⟩ : ∃ m, k = m + 1 := ⟨k - 1, by omega⟩
  have hlen := len_mid (p ++ [z]) suf x
  have hpz : ((p ++ [z]).length : Int) = p.length + 1 := by simp
  have r1 : rd (p ++ [z] ++ x :: suf) ((p ++ [z]).length : Int) = x := rd_at _ _ _
  have r2 : rd (p ++ [z] ++ x :: suf) (p.length : Int) = z := by rw [List.append_assoc]; exact rd_at p _ z
  have e1 : wrap64 (((p ++ [z]).length : Int) - 1) = (p.length : Int) := by rw [w_id (by omega) (by omega)]; omega
  have e2 : wrap64 (((p ++ [z]).length : Int) + 1) = ((p ++ [z] ++ [x]).length : Int) := by rw [w_id (by omega) (by omega), next_len]
  have sn := Odo.inRow_snoc 0 (p ++ [z]) x
  rw [Odo.nx_snoc, hr] at sn
  rw [spec_Reshape.l0, if_pos (by omega), if_pos (by omega), e1, if_pos (by omega), if_pos (by omega), r1, r2, e2, next_pre (p ++ [z]) suf x]
  by_cases hx : x = wrap64 (z + 1)
  ·rw [if_pos hx]
   have hr' : Odo.inRow (p ++ [z] ++ [x]) = true := by rw [sn, decide_eq_true (Or.inr hx)]; rfl
   rcases row_l0 sh n o A B suf (p ++ [z]) x k (by omega) (by simp; omega) hr' with ⟨h1, k', h2, h3, h4⟩ | ⟨h1, h2⟩
   ·exact .inl ⟨h1, k', by simp; omega, by omega, h4⟩
   ·exact .inr ⟨h1, h2⟩
  ·rw [if_neg hx]
   refine .inr ⟨?_, rfl⟩
   have hf : Odo.inRow (p ++ [z] ++ [x]) = false := by rw [sn, decide_eq_false (fun h => h.elim (by simp) hx)]; rfl
   cases hb : Odo.inRow (p ++ [z] ++ [x] ++ suf) with
   | false => rfl
   | true => rw [Odo.inRow_left suf _ hb] at hf; cases hf
theorem row_f (sh : List Int) (n o : Int) (A B L : List Int) (k : Nat) (hk : 5001 < k) (hl : L.length ≤ 4096) :
  (Odo.inRow L = true ∧ ∃ k', k ≤ k' + 4100 ∧ k' < k ∧ spec_Reshape.l0 k sh n L 1 A B o = (spec_l2CopyList.f k' sh).bind fun t => spec_Reshape.l1 k' sh n 0 t [] o) ∨
  (Odo.inRow L = false ∧ spec_Reshape.l0 k sh n L 1 A B o = some (13, [], [], 0)) := by
 cases L with
 | nil =>
  obtain ⟨k, rfl⟩ : ∃ m, k = m + 1 := ⟨k - 1, by omega⟩
  refine .inl ⟨rfl, k, by omega, by omega, ?_⟩
  rw [spec_Reshape.l0, if_neg (by simp)]
 | cons z t =>
  simp only [List.length_cons] at hl
  rcases row_l0 sh n o A B t [] z k (by omega) (by simp; omega) rfl with ⟨h1, k', h2, h3, h4⟩ | ⟨h1, h2⟩
  ·exact .inl ⟨h1, k', by omega, by omega, h4⟩
  ·exact .inr ⟨h1, h2⟩
def str (n : Int) : List Int → List Int
 | [] => []
 | _ :: t => (if n = 0 then 0 else cnt t) :: str n t
theorem str_len (n : Int) : ∀ sh : List Int, (str n sh).length = sh.length
 | [] => rfl
 | _ :: t => by simp [str, str_len n t]
theorem prod_l2 (sh : List Int) (n i o : Int) (A B : List Int) (hsl : sh.length ≤ 4) (hB : B.length ≤ 100) (i1 : 0 ≤ i) (i2 : i ≤ 100) : ∀ (suf pre : List Int) (m k : Nat) (p : Int), sh = pre ++ suf → suf.length < k → m + suf.length ≤ 4 → 0 ≤ p → p ≤ 4096 ^ m → ok suf →
  ∃ k', k ≤ k' + suf.length + 1 ∧ k' < k ∧ spec_Reshape.l2 k sh n i p pre.length A B o = spec_Reshape.l1 k' sh n (i + 1) A (B ++ [if n = 0 then 0 else p * cnt suf]) o
 | [], pre, m, k, p, hs, hk, hl, h0, h1, h => by
  obtain ⟨k, rfl⟩ : ∃ m, k = m + 1 := ⟨k - 1, by omega⟩
  refine ⟨k, by simp, by omega, ?_⟩
  rw [spec_Reshape.l2, if_neg (by rw [hs]; simp), w_id (by omega) (by omega)]
  by_cases hn : n = 0
  ·rw [if_pos hn, if_pos (by omega), if_pos hn]
  ·rw [if_neg hn, if_pos (by omega), if_neg hn]; simp [cnt]
 | x :: suf, pre, m, k, p, hs, hk, hl, h0, h1, h => by
  simp only [List.length_cons] at hk hl
  obtain ⟨k, rfl⟩ : ∃ m, k = m + 1 := ⟨k - 1, by omega⟩
  obtain ⟨hx, ho⟩ := ok_cons.1 h
  have hlen := len_mid pre suf x
  rw [← hs] at hlen
  have hb := mul_bound h0 h1 hx.1 hx.2
  have h4 := pow_le4 (m := m + 1) (by omega)
  have r1 : rd sh (pre.length : Int) = x := by rw [hs, rd_at]
  obtain ⟨k', h2, h3, h5⟩ := prod_l2 sh n i o A B hsl hB i1 i2 suf (pre ++ [x]) (m + 1) k (p * x) (by rw [hs]; simp) (by omega) (by omega) hb.1 hb.2 ho
  refine ⟨k', by simp; omega, by omega, ?_⟩
  rw [spec_Reshape.l2, if_pos (by omega), if_pos (by omega), r1, w_id (by omega) (by omega), w_id (by omega) (by omega), next_len pre x, h5, cnt, Int.mul_assoc]
theorem str_l1 (sh : List Int) (n o : Int) (A : List Int) (hsl : sh.length ≤ 4) : ∀ (suf pre B : List Int) (k : Nat), sh = pre ++ suf → B.length = pre.length → 10 * suf.length + 10 < k → ok suf →
  spec_Reshape.l1 k sh n pre.length A B o = some (0, A, B ++ str n suf, o)
 | [], pre, B, k, hs, hB, hk, h => by
  obtain ⟨k, rfl⟩ : ∃ m, k = m + 1 := ⟨k - 1, by omega⟩
  rw [spec_Reshape.l1, if_neg (by rw [hs]; simp)]
  simp [str]
 | x :: suf, pre, B, k, hs, hB, hk, h => by
  simp only [List.length_cons] at hk
  obtain ⟨k, rfl⟩ : ∃ m, k = m + 1 := ⟨k - 1, by omega⟩
  have hlen := len_mid pre suf x
  rw [← hs] at hlen
  obtain ⟨k', h2, h3, h5⟩ := prod_l2 sh n pre.length o A B hsl (by omega) (by omega) (by omega) suf (pre ++ [x]) 0 k 1 (by rw [hs]; simp) (by omega) (by omega) (by omega) (by simp) (ok_cons.1 h).2
  have ih := str_l1 sh n o A hsl suf (pre ++ [x]) (B ++ [if n = 0 then 0 else 1 * cnt suf]) k' (by rw [hs]; simp) (by simp; omega) (by omega) (ok_cons.1 h).2
  rw [spec_Reshape.l1, if_pos (by omega), w_id (by omega) (by omega), next_len pre x, h5, next_len pre x, ih]
  simp [str]
theorem tans_spec (n : Nat) (xs ys : List Int) (o : Int) : ∀ (suf pre : List Int), (∀ q ∈ pre, 0 ≤ q ∧ q < (n : Int)) → pre.Nodup → tans n xs ys o pre suf = (5, [], [], 0) ∨ (tans n xs ys o pre suf = (0, (pre ++ suf).map (rd xs), (pre ++ suf).map (rd ys), o) ∧ (∀ q ∈ pre ++ suf, 0 ≤ q ∧ q < (n : Int)) ∧ (pre ++ suf).Nodup)
 | [], pre, h, hn => .inr ⟨by simp [tans], by simpa using h, by simpa using hn⟩
 | p :: suf, pre, h, hn => by
  unfold tans
  by_cases hc : p < 0 ∨ (n : Int) ≤ p ∨ p ∈ pre
  ·rw [if_pos hc]; exact .inl rfl
  ·rw [if_neg hc]
   simp only [not_or] at hc
   have := tans_spec n xs ys o suf (pre ++ [p]) (by intro q hq; simp at hq; rcases hq with hq | rfl; exact h q hq; omega) (by
    rw [List.nodup_append]; refine ⟨hn, by simp, ?_⟩; intro a ha b hb; simp at hb; subst hb; intro e; subst e; exact hc.2.2 ha)
   simpa using this
theorem transpose_alike (xs ys shape : List Int) (o : Int) (k : Nat) (hx : xs.length ≤ 1048576) (hy : ys.length ≤ 1048576) (hs : shape.length ≤ 1048576) (hk : 4000000 < k) :
  ∃ c L1 L2 p, spec_Transpose.f k xs ys o shape = some (c, L1, L2, p) ∧ impl_Transpose.f k xs ys o shape = some (c, L1, L2, p) ∧ ((c ≠ 0 ∧ L1 = [] ∧ L2 = [] ∧ p = 0) ∨ (c = 0 ∧ VV xs ys o ∧ p = o ∧ shape.length = xs.length ∧ (∀ q ∈ shape, 0 ≤ q ∧ q < (xs.length : Int)) ∧ shape.Nodup ∧ L1 = shape.map (rd xs) ∧ L2 = shape.map (rd ys))) := by
 obtain ⟨b, h1, h2, h3⟩ := vv_alike k xs ys o (by omega)
 unfold spec_Transpose.f impl_Transpose.f
 rw [h1, h2]
 simp only [Option.bind_some]
 cases b with
 | false => exact ⟨12, [], [], 0, rfl, rfl, .inl ⟨by decide, rfl, rfl, rfl⟩⟩
 | true =>
  have hvv := h3 rfl
  obtain ⟨gx, lxy, o0, o1, oy, _⟩ := h3 rfl
  rw [if_pos rfl, if_pos rfl]
  have x4 := gx.1
  by_cases hl : (shape.length : Int) = (xs.length : Int)
  ·rw [if_pos hl, if_pos hl, if_pos (by omega)]
   have S := spec_l0 shape xs ys o (by omega) (by omega) (by omega) shape [] k (by simp) (by omega)
   have I := impl_l0 shape xs ys o (by omega) (by omega) (by omega) shape [] k (by simp) (by omega)
   rw [sn_nil] at I
   simp only [List.length_nil, Int.natCast_zero, List.map_nil] at S I
   rw [S, I]
   refine ⟨(tans shape.length xs ys o [] shape).1, (tans shape.length xs ys o [] shape).2.1, (tans shape.length xs ys o [] shape).2.2.1, (tans shape.length xs ys o [] shape).2.2.2, rfl, rfl, ?_⟩
   rcases tans_spec shape.length xs ys o shape [] (by simp) (by simp) with h | ⟨h, h5, h6⟩
   ·rw [h]; exact .inl ⟨by decide, rfl, rfl, rfl⟩
   ·rw [h]; exact .inr ⟨rfl, hvv, rfl, by omega, fun q hq => by have := h5 q (by simpa using hq); omega, by simpa using h6, by simp, by simp⟩
  ·rw [if_neg hl, if_neg hl]
   exact ⟨5, [], [], 0, rfl, rfl, .inl ⟨by decide, rfl, rfl, rfl⟩⟩
theorem broadcast_alike (xs ys shape : List Int) (o : Int) (k : Nat) (hx : xs.length ≤ 1048576) (hy : ys.length ≤ 1048576) (hs : shape.length ≤ 1048576) (hk : 4000000 < k) :
  ∃ c L1 L2 p, spec_Broadcast.f k xs ys o shape = some (c, L1, L2, p) ∧ impl_Broadcast.f k xs ys o shape = some (c, L1, L2, p) ∧ ((c ≠ 0 ∧ L1 = [] ∧ L2 = [] ∧ p = 0) ∨ (c = 0 ∧ VV xs ys o ∧ p = o ∧ good shape ∧ xs.length ≤ shape.length ∧ L1 = shape ∧ ∃ L, bstr (shape.drop (shape.length - xs.length)) xs ys = some L ∧ L2 = List.replicate (shape.length - xs.length) 0 ++ L)) := by
 obtain ⟨b, h1, h2, h3⟩ := vv_alike k xs ys o (by omega)
 have cs := l2count_f k shape (by omega)
 have gs := goodShape_f k shape (by omega)
 unfold spec_Broadcast.f impl_Broadcast.f
 rw [h1, h2]
 simp only [Option.bind_some]
 cases b with
 | false => exact ⟨12, [], [], 0, rfl, rfl, .inl ⟨by decide, rfl, rfl, rfl⟩⟩
 | true =>
  have hvv := h3 rfl
  obtain ⟨gx, lxy, o0, o1, oy, _⟩ := h3 rfl
  rw [if_pos rfl, if_pos rfl]
  obtain ⟨q, rfl⟩ : ∃ q, k = q + 1 := ⟨k - 1, by omega⟩
  have e0 : wrap64 ((shape.length : Int) - (xs.length : Int)) = (shape.length : Int) - (xs.length : Int) := w_id (by omega) (by omega)
  by_cases g : good shape
  ·have n1 := cnt_nonneg g.2.1
   rw [cs.1 g, gs.1 g]
   simp only [Option.bind_some]
   rw [if_neg (by omega), if_pos trivial, e0]
   by_cases hl : (shape.length : Int) < (xs.length : Int)
   ·rw [decide_eq_true hl, decide_eq_true (show (shape.length : Int) - (xs.length : Int) < 0 by omega)]
    exact ⟨6, [], [], 0, by rw [spec_Broadcast.j0, if_pos rfl], by rw [impl_Broadcast.j0, if_pos rfl], .inl ⟨by decide, rfl, rfl, rfl⟩⟩
   ·rw [decide_eq_false hl, decide_eq_false (show ¬ (shape.length : Int) - (xs.length : Int) < 0 by omega)]
    have g4 := g.1
    have hnew : (shape.length : Int) - (xs.length : Int) = ((shape.length - xs.length : Nat) : Int) := by omega
    rw [spec_Broadcast.j0, impl_Broadcast.j0, if_neg (by decide), if_neg (by decide), e0, hnew]
    generalize hN : shape.length - xs.length = new at *
    have S1 := fun k (hk : 10 ≤ k) => spec_hi shape xs ys o new g4 (shape.drop new) xs ys (shape.take new) [] [] (List.replicate new 0) k (by simp) rfl rfl (by simp; omega) (by simp; omega) (by simp; omega) rfl (by simp; omega) (by simp; omega)
    have htl : (shape.take new).length = new := by simp; omega
    rw [htl] at S1
    have S := spec_lo shape xs ys o new g4 (by omega) 10 _ S1 new 0 q (by omega) (by omega)
    have I := impl_hi shape xs ys o new g4 (shape.drop new) xs ys (shape.take new) [] [] (List.replicate new 0) q (by simp) rfl rfl (by simp; omega) (by simp; omega) (by simp; omega) rfl (by simp; omega) (by simp; omega)
    have hrep : List.replicate new (0 : Int) ++ List.replicate (shape.drop new).length 0 = List.replicate shape.length 0 := by rw [List.replicate_append_replicate]; congr 1; simp; omega
    rw [hrep] at I
    simp only [List.take_zero, List.replicate_zero, Int.natCast_zero] at S
    simp only [List.length_nil, Int.natCast_zero] at I
    unfold slices_Clone_int64_int64.f
    rw [if_pos (by omega)]
    simp only [Option.bind_some, Int.toNat_natCast]
    rw [if_pos (by omega), if_pos (by omega), S, I]
    cases hb : bstr (shape.drop new) xs ys with
    | none => exact ⟨6, [], [], 0, rfl, rfl, .inl ⟨by decide, rfl, rfl, rfl⟩⟩
    | some L =>
     exact ⟨0, shape, List.replicate new 0 ++ L, o, rfl, rfl, .inr ⟨rfl, hvv, rfl, g, by omega, rfl, L, rfl, rfl⟩⟩
  ·rw [cs.2 g, gs.2 g]
   simp only [Option.bind_some]
   rw [if_pos (by omega), if_neg (by simp)]
   exact ⟨6, [], [], 0, by rw [spec_Broadcast.j0, if_pos rfl], by rw [impl_Broadcast.j0, if_pos rfl], .inl ⟨by decide, rfl, rfl, rfl⟩⟩
theorem reshape_some (xs ys shape : List Int) (o : Int) (k : Nat) (hx : xs.length ≤ 1048576) (hy : ys.length ≤ 1048576) (hs : shape.length ≤ 1048576) (hk : 4000000 < k) :
  ∃ c L1 L2 p, spec_Reshape.f k xs ys o shape = some (c, L1, L2, p) ∧ L1.length = L2.length ∧ L1.length ≤ 4 := by
 obtain ⟨b, h1, h2, h3⟩ := vv_alike k xs ys o (by omega)
 have cs := l2count_f k shape (by omega)
 have gs := goodShape_f k shape (by omega)
 unfold spec_Reshape.f
 rw [h1]
 simp only [Option.bind_some]
 cases b with
 | false => exact ⟨12, [], [], 0, rfl, by simp, by simp⟩
 | true =>
  have v := h3 rfl
  have gx := v.1
  have x4 := gx.1
  rw [if_pos rfl]
  obtain ⟨q, rfl⟩ : ∃ q, k = q + 1 := ⟨k - 1, by omega⟩
  by_cases g : good shape
  ·have n1 := cnt_nonneg g.2.1
   have g4 := g.1
   rw [cs.1 g]
   simp only [Option.bind_some]
   rw [if_neg (by omega), (l2count_f (q + 1) xs (by omega)).1 gx]
   simp only [Option.bind_some]
   by_cases hn : cnt shape = cnt xs
   ·rw [show (cnt shape != cnt xs) = false from bne_eq_false_iff_eq.mpr hn, spec_Reshape.j0, if_neg (by decide), spec_offs v q (by omega)]
    simp only [Option.bind_some]
    rcases row_f shape (cnt shape) o xs ys (offs xs ys o) q (by omega) (offs_len v) with ⟨r1, k', k1, k2, r2⟩ | ⟨r1, r2⟩
    ·rw [r2, copy_f k' shape (by omega) (by omega)]
     simp only [Option.bind_some]
     have S := str_l1 shape (cnt shape) o shape g4 shape [] [] k' rfl rfl (by omega) g.2.1
     simp only [List.length_nil, Int.natCast_zero, List.nil_append] at S
     rw [S]
     exact ⟨0, shape, str (cnt shape) shape, o, rfl, by rw [str_len], by omega⟩
    ·rw [r2]
     exact ⟨13, [], [], 0, rfl, by simp, by simp⟩
   ·rw [show (cnt shape != cnt xs) = true from bne_iff_ne.mpr hn, spec_Reshape.j0, if_pos rfl]
    exact ⟨6, [], [], 0, rfl, by simp, by simp⟩
  ·rw [cs.2 g]
   simp only [Option.bind_some]
   rw [if_pos (by omega), spec_Reshape.j0, if_pos rfl]
   exact ⟨6, [], [], 0, rfl, by simp, by simp⟩
end Go.Proofs.Ytpmdgmnpkdoamaa.DFnViews
