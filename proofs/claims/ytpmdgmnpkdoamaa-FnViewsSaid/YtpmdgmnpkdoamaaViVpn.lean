/- Proved here: what the printed functions of laws.lwPlaces answer (plain laws). Conditions: those that stand ahead in each theorem. -/
import Derived.Test.YtpmdgmnpkdoamaaViVpm
import Derived.Test.YtpmdgmnpkdoamaaViDFnViewsxp
import Derived.Test.YtpmdgmnpkdoamaaViDFnViewsx20
namespace Go.Proofs.Ytpmdgmnpkdoamaa.DFnViews
open Go.RowKit Go.Proofs.YtpmdgmnpkdoamaaW.PrintWords Go.Proofs.YtpmdgmnpkdoamaaW.PrintLast Go.Proofs.YtpmdgmnpkdoamaaW.PrintMore
set_option linter.unusedVariables false
set_option linter.unusedSimpArgs false
theorem w_ex (a : Int) : ∃ q : Int, wrap64 a = a + 18446744073709551616 * q := ⟨-((a + 9223372036854775808) / 18446744073709551616), by unfold wrap64; rw [Int.emod_def]; omega⟩
theorem w_per (a q : Int) : wrap64 (a + 18446744073709551616 * q) = wrap64 a := by unfold wrap64; omega
theorem w_add (a b : Int) : wrap64 (wrap64 a + wrap64 b) = wrap64 (a + b) := by unfold wrap64; omega
theorem w_mul (a b : Int) : wrap64 (wrap64 a * b) = wrap64 (a * b) := by
 obtain ⟨q, e⟩ := w_ex a
 rw [e, Int.add_mul, Int.mul_assoc, w_per]
theorem rd_n (xs : List Int) (i : Nat) : rd xs (i : Int) = xs.getD i 0 := by simp [rd]
theorem vv_true {xs ys : List Int} {o : Int} (h : VV xs ys o) (k : Nat) (hk : 200000 ≤ k) : zI.f k xs ys o = some true := by
 obtain ⟨hg, hl, h0, h1, hq, hr⟩ := h
 have h4 := hg.1
 unfold zI.f
 rw [(goodShape_f k xs (by omega)).1 hg]
 simp only [Option.bind_some, if_true]
 rw [if_pos (by omega), if_neg (by omega), decide_eq_false (by omega)]
 obtain ⟨k, rfl⟩ : ∃ k', k = k' + 1 := ⟨k - 1, by omega⟩
 rw [zI.j0, if_neg (by simp)]
 have I := iv_l0 xs ys o hg.2.1 hg.1 ys [] xs [] k o o rfl rfl rfl (by omega) (by omega) (by omega) (by omega) (by omega) (by omega)
 refine (I.1 hq).trans ?_
 by_cases hz : cnt xs = 0
 ·rw [if_pos hz]
 ·rw [if_neg hz]
  have R := places_range xs ys o (by omega) (pos_of_cnt hg.2.1 hz)
  have a := hr hz _ R.2.1
  have b := hr hz _ R.2.2
  rw [if_pos (by omega), decide_eq_true b.2]
theorem offsets_f {xs ys : List Int} {o : Int} (h : VV xs ys o) (k : Nat) (hk : 200000 ≤ k) : impl_Offsets.f k xs ys o = some (offs xs ys o) := by
 unfold impl_Offsets.f
 rw [vv_true h k hk]
 simp only [Option.bind_some, if_true]
 rw [impl_offs h k (by omega)]
 rfl
theorem same_l0 : ∀ (suf pre : List Int) (k : Nat), suf.length < k → pre.length + suf.length < 1000000 → laws_lwSame.l0 k (pre ++ suf) (pre ++ suf) pre.length = some true
 | [], pre, 0, hk, hl => by simp at hk
 | _ :: _, pre, 0, hk, hl => by simp at hk
 | [], pre, k + 1, hk, hl => by rw [laws_lwSame.l0, if_neg (by simp)]
 | x :: suf, pre, k + 1, hk, hl => by
  have hlen := len_mid pre suf x
  simp only [List.length_cons] at hk hl
  rw [laws_lwSame.l0, if_pos (by omega), if_pos (by omega), if_pos (by omega), if_pos rfl, w_id (by omega) (by omega), next_pre, next_len]
  exact same_l0 suf (pre ++ [x]) k (by omega) (by simp; omega)
theorem same_self (xs : List Int) (hl : xs.length ≤ 100) : laws_lwSame.f 5000000 xs xs = some true := by
 unfold laws_lwSame.f
 rw [if_pos rfl]
 exact same_l0 xs [] 5000000 (by omega) (by simp; omega)
theorem lwcount_l0 : ∀ (suf pre : List Int) (k : Nat) (p : Int), suf.length < k → pre.length + suf.length ≤ 4 → 0 ≤ p → p ≤ 4096 ^ pre.length → ok suf → laws_lwCount.l0 k (pre ++ suf) p pre.length = some (p * cnt suf)
 | [], pre, 0, p, hk, hl, h0, h1, h => by simp at hk
 | x :: suf, pre, 0, p, hk, hl, h0, h1, h => by simp at hk
 | [], pre, k + 1, p, hk, hl, h0, h1, h => by
  rw [laws_lwCount.l0, if_neg (by simp)]
  simp [cnt]
 | x :: suf, pre, k + 1, p, hk, hl, h0, h1, h => by
  have hlen := len_mid pre suf x
  simp only [List.length_cons] at hk hl
  obtain ⟨hx, ho⟩ := ok_cons.1 h
  have hb := mul_bound h0 h1 hx.1 hx.2
  have h4 := pow_le4 (m := pre.length + 1) (by omega)
  have hpl : (pre ++ [x]).length = pre.length + 1 := by simp
  have ih := lwcount_l0 suf (pre ++ [x]) k (p * x) (by omega) (by omega) hb.1 (by rw [hpl]; exact hb.2) ho
  rw [laws_lwCount.l0, if_pos (by omega), if_pos (by omega), rd_at, w_id (by omega) (by omega), w_id (by omega) (by omega), next_pre, next_len, ih, cnt, Int.mul_assoc]
theorem lwcount_f (k : Nat) (xs : List Int) (hk : xs.length < k) (hl : xs.length ≤ 4) (h : ok xs) : laws_lwCount.f k xs = some (cnt xs) := by
 have := lwcount_l0 xs [] k 1 hk (by simpa using hl) (by omega) (by simp) h
 simpa [laws_lwCount.f] using this
theorem index_l0 (ns : List Int) (h4 : ns.length ≤ 4) (ho : ok ns) : ∀ (j : Nat) (ms suf E : List Int) (v k : Nat), ms.length = j → ns = ms ++ suf → E.length = suf.length → pos ms → (v : Int) < cnt ms → v ≤ 4096 → j < k →
  laws_lwIndex.l0 k ns v (List.replicate j 0 ++ E) ((j : Int) - 1) = some (dig ms v ++ E)
 | 0, ms, suf, E, v, k, hj, hn, hE, hp, hv, hv4, hk => by
  obtain ⟨k, rfl⟩ : ∃ k', k = k' + 1 := ⟨k - 1, by omega⟩
  have : ms = [] := List.length_eq_zero_iff.1 hj
  subst this
  rw [laws_lwIndex.l0, if_neg (by omega)]
  simp [dig]
 | j + 1, ms, suf, E, v, k, hj, hn, hE, hp, hv, hv4, hk => by
  obtain ⟨k, rfl⟩ : ∃ k', k = k' + 1 := ⟨k - 1, by omega⟩
  obtain ⟨ms', n, rfl⟩ : ∃ ms' n, ms = ms' ++ [n] := ⟨ms.dropLast, ms.getLast (by intro e; rw [e] at hj; simp at hj), (List.dropLast_concat_getLast _).symm⟩
  have hj' : ms'.length = j := by simpa using hj
  have hp' : pos ms' := fun x hx => hp x (by simp [hx])
  have hn1 : 1 ≤ n := hp n (by simp)
  subst hn
  have hlen : ((ms' ++ [n] ++ suf).length : Int) = j + 1 + suf.length := by simp; omega
  have hn2 : n ≤ 4096 := (ho n (by simp)).2
  have hr : rd (ms' ++ [n] ++ suf) ((j : Nat) : Int) = n := by
   rw [← hj', List.append_assoc]; exact rd_at ms' suf n
  have hlE : ((List.replicate (j + 1) (0 : Int) ++ E).length : Int) = j + 1 + suf.length := by simp; omega
  have e1 : ((j + 1 : Nat) : Int) - 1 = (j : Int) := by omega
  obtain ⟨N, rfl⟩ : ∃ N : Nat, n = (N : Int) := ⟨n.toNat, by omega⟩
  rw [e1, laws_lwIndex.l0, if_pos (by omega), if_pos (by omega), if_pos (by omega), hr, if_neg (by omega), if_pos (by omega)]
  have ed : Int.tdiv (v : Int) (N : Int) = ((v / N : Nat) : Int) := rfl
  have em : Int.tmod (v : Int) (N : Int) = ((v % N : Nat) : Int) := rfl
  have hle := Nat.div_le_self v N
  have hdl : ((ms' ++ [(N : Int)] ++ suf).length : Int) ≤ 4 := Int.ofNat_le.2 h4
  rw [ed, em, w_id (n := ((v / N : Nat) : Int)) (by have := Int.natCast_nonneg (v / N); omega) (by have := Int.ofNat_le.2 hle; omega), w_id (n := (j : Int) - 1) (by omega) (by simp at h4; omega)]
  have es : (List.replicate (j + 1) (0 : Int) ++ E).set ((j : Int)).toNat ((v % N : Nat) : Int) = List.replicate j 0 ++ ((v % N : Nat) : Int) :: E := by
   rw [Int.toNat_natCast, List.replicate_succ', List.append_assoc, List.set_append, if_neg (by simp)]
   simp
  rw [es]
  have hcl : cnt (ms' ++ [(N : Int)]) = cnt ms' * N := by
   have : ∀ l : List Int, cnt (l ++ [(N : Int)]) = cnt l * N := by
    intro l
    induction l with
    | nil => simp [cnt]
    | cons a l ih => rw [List.cons_append, cnt, cnt, ih, Int.mul_assoc]
   exact this ms'
  have hv2 : ((v / N : Nat) : Int) < cnt ms' := by
   have h2 := cnt_pos hp'
   obtain ⟨c, hc⟩ : ∃ c : Nat, (c : Int) = cnt ms' := ⟨(cnt ms').toNat, by omega⟩
   rw [hcl, ← hc, ← Int.natCast_mul] at hv
   rw [← hc]
   have h5 : v < N * c := by rw [Nat.mul_comm]; exact Int.ofNat_lt.1 hv
   exact Int.ofNat_lt.2 (Nat.div_lt_of_lt_mul h5)
  have ih := index_l0 (ms' ++ [(N : Int)] ++ suf) h4 ho j ms' ((N : Int) :: suf) (((v % N : Nat) : Int) :: E) (v / N) k hj' (by simp) (by simp [hE]) hp' hv2 (by omega) (by omega)
  rw [ih]
  rcases dig_snoc ms' (N : Int) v hp' hn1 with h | h
  ·rw [h]; simp
  ·exact absurd hv h
theorem index_f (ns : List Int) (v k : Nat) (h4 : ns.length ≤ 4) (ho : ok ns) (hp : pos ns) (hv : (v : Int) < cnt ns) (hv4 : v ≤ 4096) (hk : 4 < k) : laws_lwIndex.f k ns v = some (dig ns v) := by
 unfold laws_lwIndex.f
 rw [if_pos (by omega), if_pos (by omega), w_id (by omega) (by omega)]
 have := index_l0 ns h4 ho ns.length ns [] [] v k rfl (by simp) rfl hp hv hv4 (by omega)
 simpa using this
end Go.Proofs.Ytpmdgmnpkdoamaa.DFnViews
