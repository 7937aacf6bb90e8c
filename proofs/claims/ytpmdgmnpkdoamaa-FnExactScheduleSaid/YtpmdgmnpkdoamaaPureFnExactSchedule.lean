/- Proved here: what the words printed for the law on Schedule come to: the law answers true (plain Lean). Conditions: the arguments' bounds. -/
import Derived.Test.YtpmdgmnpkdoamaaBFnExactSchedule
namespace Go.Proofs.Ytpmdgmnpkdoamaa.DFnExactSchedule
open Go.RowKit Go.Proofs.YtpmdgmnpkdoamaaW.PrintWords Go.Proofs.YtpmdgmnpkdoamaaW.PrintLast Go.Proofs.YtpmdgmnpkdoamaaW.PrintMore
set_option linter.unusedVariables false
set_option linter.unusedSimpArgs false
/-- How many workers hold a tile. -/
def hld : List Int → Int
  | [] => 0
  | x :: xs => (if 0 ≤ x then 1 else 0) + hld xs
theorem hld_nn : ∀ xs, 0 ≤ hld xs
  | [] => by simp [hld]
  | x :: xs => by
    have := hld_nn xs
    unfold hld
    split <;> omega
theorem hld_set : ∀ (xs : List Int) (i : Nat) (v : Int), i < xs.length → hld (xs.set i v) = hld xs - (if 0 ≤ xs.getD i 0 then 1 else 0) + (if 0 ≤ v then 1 else 0)
  | [], _, _, h => by simp at h
  | x :: xs, 0, v, _ => by simp [hld]; omega
  | x :: xs, i + 1, v, h => by
    have := hld_set xs i v (by simpa using h)
    simp only [List.set_cons_succ, hld, List.getD_cons_succ, this]
    omega
theorem hld_some : ∀ xs, 0 < hld xs → ∃ i, i < xs.length ∧ 0 ≤ xs.getD i 0
  | [], h => by simp [hld] at h
  | x :: xs, h => by
    by_cases c : 0 ≤ x
    · exact ⟨0, by simp, by simpa using c⟩
    · unfold hld at h
      rw [if_neg c] at h
      obtain ⟨i, hi, hv⟩ := hld_some xs (by omega)
      exact ⟨i + 1, by simpa using hi, by simpa using hv⟩
theorem hld_rep : ∀ n, hld (List.replicate n (-1)) = 0
  | 0 => rfl
  | n + 1 => by simp [List.replicate_succ, hld, hld_rep n]
theorem least (P : Nat → Prop) : ∀ d, P d → ∃ e, e ≤ d ∧ P e ∧ ∀ j, j < e → ¬ P j := by
  intro d
  induction d using Nat.strongRecOn with
  | ind d ih =>
    intro h
    by_cases c : ∃ j, j < d ∧ P j
    · obtain ⟨j, hj, hp⟩ := c
      obtain ⟨e, he, hpe, hne⟩ := ih j hj hp
      exact ⟨e, by omega, hpe, hne⟩
    · exact ⟨d, Nat.le_refl _, h, fun j hj hp => c ⟨j, hj, hp⟩⟩
/-- The worker that is i steps behind w. -/
def cur (w W : Int) (i : Nat) : Int := (w + i) % W
theorem cur_rng {W : Int} (hW : 0 < W) (w : Int) (i : Nat) : 0 ≤ cur w W i ∧ cur w W i < W := ⟨Int.emod_nonneg _ (by omega), Int.emod_lt_of_pos _ hW⟩
theorem cur_step (w W : Int) (i : Nat) : (cur w W i + 1) % W = cur w W (i + 1) := by
  unfold cur
  rw [Int.emod_add_emod]
  congr 1
  omega
def Can (H : List Int) (more : Bool) (x : Int) : Prop := rd H x ≥ 0 ∨ more = true
theorem spec_find (H : List Int) (more : Bool) (w W : Int) (hW : 0 < W) (hW2 : W ≤ 64) (hl : (H.length : Int) = W) (hw : 0 ≤ w) (hw2 : w < W) : ∀ (d i k : Nat), d < k → (i : Int) + d < W → Can H more (cur w W (i + d)) → (∀ j, j < d → ¬ Can H more (cur w W (i + j))) →
    spec_l3Worker.l0 k H more w W i = some (cur w W (i + d)) := by
  intro d
  induction d with
  | zero =>
    intro i k hk hi hp _
    obtain ⟨k, rfl⟩ : ∃ m, k = m + 1 := ⟨k - 1, by omega⟩
    have e : Int.tmod (wrap64 (w + i)) W = cur w W i := by rw [w_id (by omega) (by omega), Int.tmod_eq_emod_of_nonneg (by omega)]; rfl
    obtain ⟨r0, r1⟩ := cur_rng hW w i
    rw [Nat.add_zero] at hp ⊢
    rw [spec_l3Worker.l0, if_pos (by omega), if_neg (by omega), e, if_pos r0, if_pos (by omega)]
    by_cases c : rd H (cur w W i) ≥ 0
    · rw [if_pos c]; rfl
    · rw [if_neg c, if_pos (hp.resolve_left c)]; rfl
  | succ d IH =>
    intro i k hk hi hp hn
    obtain ⟨k, rfl⟩ : ∃ m, k = m + 1 := ⟨k - 1, by omega⟩
    have e : Int.tmod (wrap64 (w + i)) W = cur w W i := by rw [w_id (by omega) (by omega), Int.tmod_eq_emod_of_nonneg (by omega)]; rfl
    obtain ⟨r0, r1⟩ := cur_rng hW w i
    have h0 := hn 0 (by omega)
    rw [Nat.add_zero] at h0
    have e2 : wrap64 ((i : Int) + 1) = ((i + 1 : Nat) : Int) := by rw [w_id (by omega) (by omega)]; rfl
    rw [spec_l3Worker.l0, if_pos (by omega), if_neg (by omega), e, if_pos r0, if_pos (by omega), if_neg (fun c => h0 (.inl c)), if_neg (fun c => h0 (.inr c)), e2]
    rw [IH (i + 1) k (by omega) (by omega) (by rw [show i + 1 + d = i + (d + 1) by omega]; exact hp) (fun j hj => by rw [show i + 1 + j = i + (j + 1) by omega]; exact hn (j + 1) (by omega)), show i + 1 + d = i + (d + 1) by omega]
theorem impl_find (H : List Int) (out : List S90) (picks : List Int) (w W T2 t s0 s n T : Int) (hW : 0 < W) (hW2 : W ≤ 64) (hl : (H.length : Int) = W) : ∀ (d i k : Nat), (∀ j, j < d → ¬ Can H (decide (n < T)) (cur w W (i + j))) →
    impl_Schedule.l2 (k + d) W picks H out (cur w W i) T2 t s0 s n T = impl_Schedule.l2 k W picks H out (cur w W (i + d)) T2 t s0 s n T := by
  intro d
  induction d with
  | zero => intro i k _; rfl
  | succ d IH =>
    intro i k hn
    obtain ⟨r0, r1⟩ := cur_rng hW w i
    have h0 := hn 0 (by omega)
    rw [Nat.add_zero] at h0
    have hm : decide (n < T) = false := by
      cases c : decide (n < T) with
      | false => rfl
      | true => exact absurd (.inr c) h0
    have e : Int.tmod (wrap64 (cur w W i + 1)) W = cur w W (i + 1) := by rw [w_id (by omega) (by omega), Int.tmod_eq_emod_of_nonneg (by omega), cur_step]
    rw [show k + (d + 1) = (k + d) + 1 by omega, impl_Schedule.l2, if_pos r0, if_pos (by omega), if_pos (by have : ¬ rd H (cur w W i) ≥ 0 := fun c => h0 (.inl c); omega)]
    unfold impl_queue_more.f
    simp only [Option.bind_some, hm]
    rw [if_neg (by decide), if_neg (by omega), e, IH (i + 1) k (fun j hj => by rw [show i + 1 + j = i + (j + 1) by omega]; exact hn (j + 1) (by omega)), show i + 1 + d = i + (d + 1) by omega]
/-- There is one that can do something, and the nearest is found. -/
theorem find_ex (H : List Int) (more : Bool) (w W : Int) (hW : 0 < W) (hl : (H.length : Int) = W) (hw : 0 ≤ w) (hw2 : w < W) (hex : more = true ∨ 0 < hld H) :
    ∃ d : Nat, (d : Int) < W ∧ Can H more (cur w W d) ∧ ∀ j, j < d → ¬ Can H more (cur w W j) := by
  have : ∃ d : Nat, (d : Int) < W ∧ Can H more (cur w W d) := by
    rcases hex with h | h
    · exact ⟨0, by omega, .inr h⟩
    · obtain ⟨i, hi, hv⟩ := hld_some H h
      by_cases c : w ≤ i
      · refine ⟨((i : Int) - w).toNat, by omega, .inl ?_⟩
        have e : cur w W ((i : Int) - w).toNat = i := by
          unfold cur
          rw [show w + (((i : Int) - w).toNat : Int) = i by omega]
          exact Int.emod_eq_of_lt (by omega) (by omega)
        rw [e]
        simpa [rd] using hv
      · refine ⟨((i : Int) + W - w).toNat, by omega, .inl ?_⟩
        have e : cur w W ((i : Int) + W - w).toNat = i := by
          unfold cur
          rw [show w + (((i : Int) + W - w).toNat : Int) = i + W by omega, Int.add_emod_right]
          exact Int.emod_eq_of_lt (by omega) (by omega)
        rw [e]
        simpa [rd] using hv
  obtain ⟨d, hd, hc⟩ := this
  obtain ⟨e, he, hp, hn⟩ := least (fun d => Can H more (cur w W d)) d hc
  exact ⟨e, by omega, hp, hn⟩
/-- The worker that is picked. -/
def pk (W p : Int) : Int := if Int.tmod p W < 0 then Int.tmod p W + W else Int.tmod p W
theorem pk_rng {W : Int} (hW : 0 < W) (p : Int) : 0 ≤ pk W p ∧ pk W p < W := by
  have h1 := Int.tmod_lt_of_pos p hW
  have h2 := Int.lt_tmod_of_pos p hW
  unfold pk
  split <;> omega
theorem pk_impl {W : Int} (hW : 0 < W) (hW2 : W ≤ 64) (p : Int) : Int.tmod (wrap64 (Int.tmod p W + W)) W = pk W p := by
  have h1 := Int.tmod_lt_of_pos p hW
  have h2 := Int.lt_tmod_of_pos p hW
  rw [w_id (by omega) (by omega), Int.tmod_eq_emod_of_nonneg (by omega)]
  unfold pk
  split
  · exact Int.emod_eq_of_lt (by omega) (by omega)
  · rw [Int.add_emod_right]
    exact Int.emod_eq_of_lt (by omega) (by omega)
theorem pk_spec {W : Int} (hW : 0 < W) (hW2 : W ≤ 64) (p : Int) (h : Int.tmod p W < 0) : wrap64 (Int.tmod p W + W) = pk W p := by
  have h1 := Int.tmod_lt_of_pos p hW
  have h2 := Int.lt_tmod_of_pos p hW
  rw [w_id (by omega) (by omega)]
  unfold pk
  rw [if_pos h]
theorem rd_set_same (H : List Int) (w v : Int) (h0 : 0 ≤ w) (h1 : w < (H.length : Int)) : rd (H.set w.toNat v) w = v := by
  unfold rd
  rw [List.getD_eq_getElem?_getD, List.getElem?_set_self (by omega)]
  rfl
theorem main (T W : Int) (picks : List Int) (hT0 : 0 ≤ T) (hT : T ≤ 4096) (hW : 0 < W) (hW2 : W ≤ 64) (hpl : (picks.length : Int) ≤ 10000) (s : Int) : ∀ (m : Nat) (t n : Int) (H : List Int) (out : List S90), (H.length : Int) = W → 0 ≤ n → n ≤ T → 0 ≤ t → t + m = 2 * T → t = 2 * n - hld H → (out.length : Int) ≤ t →
    ∃ R : List S90, R.length ≤ out.length + m ∧ ∀ ks ki : Nat, 70 + m ≤ ks → 70 * m + 70 ≤ ki → spec_Schedule.l1 ks T W picks out H n t = some R ∧ impl_Schedule.l1 ki W picks H out (2 * T) t 0 s n T = some R := by
  intro m
  induction m with
  | zero =>
    intro t n H out hl n0 n1 t0 ht hh ho
    refine ⟨out, Nat.le_refl _, fun ks ki h1 h2 => ?_⟩
    obtain ⟨ks, rfl⟩ : ∃ m, ks = m + 1 := ⟨ks - 1, by omega⟩
    obtain ⟨ki, rfl⟩ : ∃ m, ki = m + 1 := ⟨ki - 1, by omega⟩
    rw [spec_Schedule.l1, if_neg (by rw [w_id (by omega) (by omega)]; omega), impl_Schedule.l1, if_neg (by omega)]
    exact ⟨rfl, rfl⟩
  | succ m IH =>
    intro t n H out hl n0 n1 t0 ht hh ho
    have hnn := hld_nn H
    -- the worker that is asked first
    obtain ⟨w, w0, w1, hs, hi⟩ : ∃ w : Int, 0 ≤ w ∧ w < W ∧ (∀ ks, spec_Schedule.l1 (ks + 1) T W picks out H n t = (spec_l3Worker.f ks H (decide (n < T)) w).bind fun x => (if 0 ≤ x then (if x < (H.length : Int) then (if (rd H x) ≥ 0 then (if out.length < 5864062014805 then (spec_Schedule.l1 ks T W picks (out ++ [(⟨x, rd H x, true⟩ : S90)]) (H.set (x : Int).toNat (-1)) n (wrap64 (t + 1))) else (none)) else (if out.length < 5864062014805 then (spec_Schedule.l1 ks T W picks (out ++ [(⟨x, n, false⟩ : S90)]) (H.set (x : Int).toNat n) (wrap64 (n + 1)) (wrap64 (t + 1))) else (none))) else (none)) else (none))) ∧
        ∀ ki, impl_Schedule.l1 (ki + 1) W picks H out (2 * T) t 0 s n T = impl_Schedule.j3 ki W picks H out w (2 * T) t 0 s n T := by
      by_cases c : t < (picks.length : Int)
      · refine ⟨pk W (rd picks t), (pk_rng hW _).1, (pk_rng hW _).2, fun ks => ?_, fun ki => ?_⟩
        · rw [spec_Schedule.l1, if_pos (by rw [w_id (by omega) (by omega)]; omega), if_pos c, if_pos t0, if_neg (by omega)]
          by_cases c2 : Int.tmod (rd picks t) W < 0
          · rw [if_pos c2, pk_spec hW hW2 _ c2]
          · rw [if_neg c2, show pk W (rd picks t) = Int.tmod (rd picks t) W by unfold pk; rw [if_neg c2]]
        · rw [impl_Schedule.l1, if_pos (by omega), if_pos c, if_pos t0, if_neg (by omega), pk_impl hW hW2]
      · refine ⟨0, by omega, hW, fun ks => ?_, fun ki => ?_⟩
        · rw [spec_Schedule.l1, if_pos (by rw [w_id (by omega) (by omega)]; omega), if_neg c]
        · rw [impl_Schedule.l1, if_pos (by omega), if_neg c]
    obtain ⟨d, hd, hc, hn⟩ := find_ex H (decide (n < T)) w W hW hl w0 w1 (by
      by_cases c : n < T
      · exact .inl (decide_eq_true c)
      · exact .inr (by omega))
    obtain ⟨r0, r1⟩ := cur_rng hW w d
    have S := fun ks (hk : d < ks) => spec_find H (decide (n < T)) w W hW hW2 hl w0 w1 d 0 ks hk (by simpa using hd) (by simpa using hc) (by simpa using hn)
    have I := fun k => impl_find H out picks w W (2 * T) t 0 s n T hW hW2 hl d 0 k (by simpa using hn)
    have c0 : cur w W 0 = w := by unfold cur; rw [Int.natCast_zero, Int.add_zero]; exact Int.emod_eq_of_lt w0 w1
    simp only [Nat.zero_add, c0, Int.natCast_zero] at S I
    generalize hx : cur w W d = x at *
    have et : wrap64 (t + 1) = t + 1 := w_id (by omega) (by omega)
    have en : wrap64 (n + 1) = n + 1 := w_id (by omega) (by omega)
    have hxl : x.toNat < H.length := by omega
    have hgd : H.getD x.toNat 0 = rd H x := rfl
    by_cases cv : rd H x ≥ 0
    · -- the tile that it holds is done
      have hs2 := hld_set H x.toNat (-1) hxl
      rw [hgd, if_pos cv, if_neg (by omega)] at hs2
      obtain ⟨R, hR, hall⟩ := IH (t + 1) n (H.set x.toNat (-1)) (out ++ [(⟨x, rd H x, true⟩ : S90)]) (by simpa using hl) n0 n1 (by omega) (by omega) (by omega) (by simp; omega)
      refine ⟨R, by simp at hR; omega, fun ks ki h1 h2 => ?_⟩
      obtain ⟨ks, rfl⟩ : ∃ m, ks = m + 1 := ⟨ks - 1, by omega⟩
      obtain ⟨kj, rfl⟩ : ∃ q, ki = ((q + 1) + d + 1) + 1 := ⟨ki - d - 3, by omega⟩
      obtain ⟨a1, a2⟩ := hall ks kj (by omega) (by omega)
      constructor
      · rw [hs ks]
        unfold spec_l3Worker.f
        rw [hl, S ks (by omega), Option.bind_some, if_pos r0, if_pos (by omega), if_pos cv, if_pos (by omega), et]
        exact a1
      · rw [hi, impl_Schedule.j3, I, impl_Schedule.l2, if_pos r0, if_pos (by omega), if_neg (by omega), if_pos cv, if_pos (by omega), et]
        exact a2
    · have hm : n < T := of_decide_eq_true (hc.resolve_left cv)
      have hs2 := hld_set H x.toNat n hxl
      rw [hgd, if_neg cv, if_pos n0] at hs2
      obtain ⟨R, hR, hall⟩ := IH (t + 1) (n + 1) (H.set x.toNat n) (out ++ [(⟨x, n, false⟩ : S90)]) (by simpa using hl) (by omega) (by omega) (by omega) (by omega) (by omega) (by simp; omega)
      refine ⟨R, by simp at hR; omega, fun ks ki h1 h2 => ?_⟩
      obtain ⟨ks, rfl⟩ : ∃ m, ks = m + 1 := ⟨ks - 1, by omega⟩
      obtain ⟨kj, rfl⟩ : ∃ q, ki = ((q + 1) + d + 1) + 1 := ⟨ki - d - 3, by omega⟩
      obtain ⟨a1, a2⟩ := hall ks kj (by omega) (by omega)
      constructor
      · rw [hs ks]
        unfold spec_l3Worker.f
        rw [hl, S ks (by omega), Option.bind_some, if_pos r0, if_pos (by omega), if_neg cv, if_pos (by omega), et, en]
        exact a1
      · rw [hi, impl_Schedule.j3, I, impl_Schedule.l2, if_pos r0, if_pos (by omega), if_pos (by omega)]
        unfold impl_queue_more.f impl_queue_take.f
        simp only [Option.bind_some, decide_eq_true hm, if_true]
        rw [if_neg cv]
        try simp only [Option.bind_some]
        rw [en, show wrap64 (n + 1 - 1) = n by rw [w_id (by omega) (by omega)]; omega, rd_set_same H x n r0 (by omega), if_pos (by omega), et]
        exact a2
theorem spec_fill (T W : Int) (picks : List Int) (hW : 0 < W) (hW2 : W ≤ 64) (K : Nat) (r : Option (List S90)) (hr : ∀ k, K ≤ k → spec_Schedule.l1 k T W picks [] (List.replicate W.toNat (-1)) 0 0 = r) : ∀ (m i k : Nat), i + m = W.toNat → K + m < k →
    spec_Schedule.l0 k T W picks [] (List.replicate i (-1)) i = r := by
  intro m
  induction m with
  | zero =>
    intro i k hi hk
    obtain ⟨k, rfl⟩ : ∃ m, k = m + 1 := ⟨k - 1, by omega⟩
    rw [spec_Schedule.l0, if_neg (by omega), show i = W.toNat by omega]
    exact hr k (by omega)
  | succ m IH =>
    intro i k hi hk
    obtain ⟨k, rfl⟩ : ∃ m, k = m + 1 := ⟨k - 1, by omega⟩
    have e : wrap64 ((i : Int) + 1) = ((i + 1 : Nat) : Int) := by rw [w_id (by omega) (by omega)]; rfl
    rw [spec_Schedule.l0, if_pos (by omega), if_pos (by simp; omega), e, ← List.replicate_succ']
    exact IH (i + 1) k (by omega) (by omega)
theorem impl_fill (T W : Int) (picks : List Int) (hW : 0 < W) (hW2 : W ≤ 64) (K : Nat) (r : Option (List S90)) (s0 s n q : Int) (hr : ∀ k, K ≤ k → impl_Schedule.l1 k W picks (List.replicate W.toNat (-1)) [] (wrap64 (2 * T)) 0 s0 s n q = r) : ∀ (m i k : Nat), i + m = W.toNat → K + m < k →
    impl_Schedule.l0 k T W picks (List.replicate i (-1) ++ List.replicate m 0) W i s0 s n q = r := by
  intro m
  induction m with
  | zero =>
    intro i k hi hk
    obtain ⟨k, rfl⟩ : ∃ m, k = m + 1 := ⟨k - 1, by omega⟩
    rw [impl_Schedule.l0, if_neg (by omega), show i = W.toNat by omega]
    simp only [List.replicate_zero, List.append_nil]
    exact hr k (by omega)
  | succ m IH =>
    intro i k hi hk
    obtain ⟨k, rfl⟩ : ∃ m, k = m + 1 := ⟨k - 1, by omega⟩
    have e : wrap64 ((i : Int) + 1) = ((i + 1 : Nat) : Int) := by rw [w_id (by omega) (by omega)]; rfl
    have e2 : (List.replicate i (-1 : Int) ++ List.replicate (m + 1) 0).set (i : Int).toNat (-1) = List.replicate (i + 1) (-1) ++ List.replicate m 0 := by
      rw [Int.toNat_natCast, List.set_append_right _ _ (by simp), List.length_replicate, Nat.sub_self, List.replicate_succ, List.set_cons_zero, List.replicate_succ', List.append_assoc]; rfl
    rw [impl_Schedule.l0, if_pos (by omega), if_pos (by omega), if_pos (by simp; omega), e2, e]
    exact IH (i + 1) k (by omega) (by omega)
theorem alike (T W : Int) (picks : List Int) (k : Nat) (hk : 4000000 < k) : ∃ R : List S90, R.length ≤ 1048576 ∧ spec_Schedule.f k T W picks = some R ∧ impl_Schedule.f k T W picks = some R := by
  obtain ⟨k, rfl⟩ : ∃ m, k = m + 1 := ⟨k - 1, by omega⟩
  have bad : spec_Schedule.j0 (k + 1) T W picks [] true = some [] ∧ impl_Schedule.j0 (k + 1) T W picks true = some [] := ⟨by rw [spec_Schedule.j0, if_pos rfl], by rw [impl_Schedule.j0, if_pos rfl]⟩
  unfold spec_Schedule.f impl_Schedule.f
  simp only [Option.bind_some]
  by_cases c1 : T < 0
  · rw [if_pos c1, if_pos c1]; exact ⟨[], by simp, bad⟩
  rw [if_neg c1, if_neg c1]
  by_cases c2 : T > 4096
  · rw [if_pos c2, if_pos c2]; exact ⟨[], by simp, bad⟩
  rw [if_neg c2, if_neg c2]
  by_cases c3 : W < 1
  · rw [if_pos c3, if_pos c3]; exact ⟨[], by simp, bad⟩
  rw [if_neg c3, if_neg c3]
  by_cases c4 : W > 64
  · rw [if_pos c4, if_pos c4]; exact ⟨[], by simp, bad⟩
  rw [if_neg c4, if_neg c4]
  by_cases c5 : (picks.length : Int) > 10000
  · rw [decide_eq_true c5]; exact ⟨[], by simp, bad⟩
  rw [decide_eq_false c5]
  have hrep : (List.replicate W.toNat (-1 : Int)).length = W.toNat := by simp
  obtain ⟨R, hR, hall⟩ := main T W picks (by omega) (by omega) (by omega) (by omega) (by omega) 0 (2 * T).toNat 0 0 (List.replicate W.toNat (-1)) [] (by rw [hrep]; omega) (by omega) (by omega) (by omega) (by omega) (by rw [hld_rep]; omega) (by simp)
  refine ⟨R, by simp at hR; omega, ?_, ?_⟩
  · rw [spec_Schedule.j0, if_neg (by decide)]
    have := spec_fill T W picks (by omega) (by omega) 1000000 (some R) (fun k hk => (hall k 1000000 (by omega) (by omega)).1) W.toNat 0 k (by omega) (by omega)
    simpa using this
  · rw [impl_Schedule.j0, if_neg (by decide)]
    unfold impl_newQueue.f
    simp only [Option.bind_some]
    rw [if_pos (by omega), if_pos (by omega)]
    have e : wrap64 (2 * T) = 2 * T := w_id (by omega) (by omega)
    have := impl_fill T W picks (by omega) (by omega) 1000000 (some R) 0 0 0 T (fun k hk => by rw [e]; exact (hall 1000000 k (by omega) (by omega)).2) W.toNat 0 k (by omega) (by omega)
    rw [show (((List.replicate W.toNat (0 : Int)).length : Nat) : Int) = W by simp; omega]
    simpa using this
/-! ### the harness -/
def tmarks : Nat → Int → List S90
  | 0, _ => []
  | n + 1, a => ⟨a, a + 1, Int.tmod (a + 2) 3 == 0⟩ :: tmarks n (a + 3)
theorem rdT_at (pre suf : List S90) (x : S90) : rd_T90 (pre ++ x :: suf) (pre.length : Int) = x := by simp [rd_T90]
theorem lenT (pre suf : List S90) (x : S90) : ((pre ++ x :: suf).length : Int) = pre.length + 1 + suf.length := by simp; omega
theorem setT (pre suf : List S90) (x y : S90) : (pre ++ x :: suf).set (pre.length : Int).toNat y = pre ++ y :: suf := by simp
theorem eqT_l0 : ∀ (suf pre : List S90) (k : Nat), suf.length < k → pre.length + suf.length < 1099511627776 → laws_eqTurnS.l0 k (pre ++ suf) (pre ++ suf) pre.length = some true
  | [], pre, k, hk, _ => by
    obtain ⟨k, rfl⟩ : ∃ m, k = m + 1 := ⟨k - 1, by omega⟩
    rw [laws_eqTurnS.l0, if_neg (by simp)]
  | x :: suf, pre, k, hk, hl => by
    simp only [List.length_cons] at hk hl
    obtain ⟨k, rfl⟩ : ∃ m, k = m + 1 := ⟨k - 1, by omega⟩
    have ih := eqT_l0 suf (pre ++ [x]) k (by omega) (by simp; omega)
    have e : wrap64 ((pre.length : Int) + 1) = ((pre ++ [x]).length : Int) := by rw [w_id (by omega) (by omega)]; simp
    rw [laws_eqTurnS.l0, if_pos (by rw [lenT]; omega), if_pos (by omega), if_pos (by rw [lenT]; omega), rdT_at]
    unfold laws_eqTurn.f
    rw [if_pos rfl, if_pos rfl, if_neg (by simp)]
    simp only [Option.bind_some]
    rw [if_pos trivial, e, show pre ++ x :: suf = (pre ++ [x]) ++ suf by simp, ih]
theorem eqT (k : Nat) (xs : List S90) (hk : xs.length < k) (hl : xs.length ≤ 1048576) : laws_eqTurnS.f k xs xs = some true := by
  have := eqT_l0 xs [] k hk (by simp; omega)
  unfold laws_eqTurnS.f
  rw [if_pos rfl]
  simpa using this
theorem markT_l0 : ∀ (suf pre : List S90) (k : Nat) (a : Int), suf.length < k → pre.length + suf.length < 1099511627776 → 0 ≤ a → a + 3 * suf.length ≤ 2199023255552 →
    laws_markTurnS.l0 k (pre ++ suf) a pre.length = some (a + 3 * (suf.length : Int), pre ++ tmarks suf.length a)
  | [], pre, k, a, hk, _, _, _ => by
    obtain ⟨k, rfl⟩ : ∃ m, k = m + 1 := ⟨k - 1, by omega⟩
    rw [laws_markTurnS.l0, if_neg (by simp)]
    simp [tmarks]
  | x :: suf, pre, k, a, hk, hl, h0, h2 => by
    simp only [List.length_cons] at hk hl h2
    obtain ⟨k, rfl⟩ : ∃ m, k = m + 1 := ⟨k - 1, by omega⟩
    have ih := markT_l0 suf (pre ++ [⟨a, a + 1, Int.tmod (a + 2) 3 == 0⟩]) k (a + 3) (by omega) (by simp; omega) (by omega) (by omega)
    have e : wrap64 ((pre.length : Int) + 1) = ((pre ++ [(⟨a, a + 1, Int.tmod (a + 2) 3 == 0⟩ : S90)]).length : Int) := by rw [w_id (by omega) (by omega)]; simp
    have a1 : wrap64 (a + 1) = a + 1 := w_id (by omega) (by omega)
    have a2 : wrap64 (a + 1 + 1) = a + 2 := by rw [w_id (by omega) (by omega)]; omega
    have a3 : wrap64 (a + 2 + 1) = a + 3 := by rw [w_id (by omega) (by omega)]; omega
    rw [laws_markTurnS.l0, if_pos (by rw [lenT]; omega), if_pos (by omega)]
    simp only [setT, rdT_at, Option.bind_some, a1, a2, a3, e]
    rw [show pre ++ (⟨a, a + 1, Int.tmod (a + 2) 3 == 0⟩ : S90) :: suf = (pre ++ [⟨a, a + 1, Int.tmod (a + 2) 3 == 0⟩]) ++ suf by simp, ih]
    simp only [List.length_cons, tmarks, List.append_assoc, List.cons_append, List.nil_append]
    congr 2
    omega
theorem markT (k : Nat) (xs : List S90) (hk : xs.length < k) (hl : xs.length ≤ 1048576) : laws_markTurnS.f k xs 1 = some (1 + 3 * (xs.length : Int), tmarks xs.length 1) := by
  have := markT_l0 xs [] k 1 hk (by simp; omega) (by omega) (by omega)
  simpa [laws_markTurnS.f] using this
theorem heldT_l0 : ∀ (n : Nat) (pre : List S90) (k : Nat) (a : Int), n < k → pre.length + n < 1099511627776 → 0 ≤ a → a + 3 * n ≤ 2199023255552 →
    laws_heldTurnS.l0 k (pre ++ tmarks n a) a pre.length = some (a + 3 * (n : Int))
  | 0, pre, k, a, hk, _, _, _ => by
    obtain ⟨k, rfl⟩ : ∃ m, k = m + 1 := ⟨k - 1, by omega⟩
    rw [laws_heldTurnS.l0, if_neg (by simp [tmarks])]
    simp
  | n + 1, pre, k, a, hk, hl, h0, h2 => by
    obtain ⟨k, rfl⟩ : ∃ m, k = m + 1 := ⟨k - 1, by omega⟩
    have ih := heldT_l0 n (pre ++ [⟨a, a + 1, Int.tmod (a + 2) 3 == 0⟩]) k (a + 3) (by omega) (by simp; omega) (by omega) (by omega)
    have e : wrap64 ((pre.length : Int) + 1) = ((pre ++ [(⟨a, a + 1, Int.tmod (a + 2) 3 == 0⟩ : S90)]).length : Int) := by rw [w_id (by omega) (by omega)]; simp
    have a1 : wrap64 (a + 1) = a + 1 := w_id (by omega) (by omega)
    have a2 : wrap64 (a + 1 + 1) = a + 2 := by rw [w_id (by omega) (by omega)]; omega
    have a3 : wrap64 (a + 2 + 1) = a + 3 := by rw [w_id (by omega) (by omega)]; omega
    rw [show tmarks (n + 1) a = ⟨a, a + 1, Int.tmod (a + 2) 3 == 0⟩ :: tmarks n (a + 3) from rfl]
    rw [laws_heldTurnS.l0, if_pos (by rw [lenT]; omega), if_pos (by omega), rdT_at]
    simp only [a1, a2, a3, e]
    rw [if_pos trivial, if_pos trivial, if_neg (by simp), show pre ++ (⟨a, a + 1, Int.tmod (a + 2) 3 == 0⟩ : S90) :: tmarks n (a + 3) = (pre ++ [⟨a, a + 1, Int.tmod (a + 2) 3 == 0⟩]) ++ tmarks n (a + 3) by simp, ih]
    congr 1
    omega
theorem heldT (n k : Nat) (hk : n < k) (hl : n ≤ 1048576) : laws_heldTurnS.f k (tmarks n 1) 1 = some (1 + 3 * (n : Int)) := by
  have := heldT_l0 n [] k 1 hk (by simp; omega) (by omega) (by omega)
  simpa [laws_heldTurnS.f] using this
end Go.Proofs.Ytpmdgmnpkdoamaa.DFnExactSchedule
namespace Go.Proofs.Ytpmdgmnpkdoamaa.Pure
open Go.RowKit Go.Proofs.Ytpmdgmnpkdoamaa.DFnExactSchedule Go.Proofs.YtpmdgmnpkdoamaaW.PrintWords Go.Proofs.YtpmdgmnpkdoamaaW.PrintLast
theorem FnExactSchedule : laws_FnExactSchedule.Pure := by
  intro T W picks _ _ _ _ _
  refine ⟨8000001, ?_⟩
  unfold laws_FnExactSchedule.f
  by_cases hs : (picks.length : Int) > 1048576
  · rw [if_pos hs]
  rw [if_neg hs]
  have hp : picks.length ≤ 1048576 := by omega
  obtain ⟨R, hR, S, I⟩ := alike T W picks 8000001 (by omega)
  rw [to_f 8000001 picks (by omega) (by omega)]; simp only [Option.bind_some]
  rw [S]; simp only [Option.bind_some]
  rw [I]; simp only [Option.bind_some]
  rw [eqT 8000001 R (by omega) hR]; simp only [Option.bind_some]
  rw [if_pos trivial, eq_f 8000001 picks (by omega) (by omega)]; simp only [Option.bind_some]
  rw [if_pos trivial, mark_f picks 8000001 1 (by omega) (by omega) (by omega) (by omega)]; simp only [Option.bind_some]
  rw [if_neg (by omega)]
  obtain ⟨R2, hR2, S2, I2⟩ := alike T W picks 8000000 (by omega)
  have e := spec_Schedule.mono T W picks 8000000 _ S2
  rw [S] at e
  obtain rfl := Option.some.inj e
  rw [show (8000001 : Nat) = 8000000 + 1 from rfl, laws_FnExactSchedule.j0, if_neg (by decide)]
  rw [markT 8000000 R (by omega) hR]; simp only [Option.bind_some]
  rw [heldT R.length 8000000 (by omega) hR]; simp only [Option.bind_some]
  rw [if_neg (by omega), if_pos trivial, to_f 8000000 picks (by omega) (by omega)]; simp only [Option.bind_some]
  rw [I2]; simp only [Option.bind_some]
  rw [eqT 8000000 R (by omega) hR]; simp only [Option.bind_some]
  rw [if_pos trivial, if_neg (by omega), if_pos trivial]
end Go.Proofs.Ytpmdgmnpkdoamaa.Pure
