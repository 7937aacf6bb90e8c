/- Proved here: the loops of laws.lwPlaces over a view's places (plain laws). Conditions: those that stand ahead in each theorem. -/
import Derived.Test.YtpmdgmnpkdoamaaViVpn
namespace Go.Proofs.Ytpmdgmnpkdoamaa.DFnViews
open Go.RowKit Go.Proofs.YtpmdgmnpkdoamaaW.PrintWords Go.Proofs.YtpmdgmnpkdoamaaW.PrintLast Go.Proofs.YtpmdgmnpkdoamaaW.PrintMore
set_option linter.unusedVariables false
set_option linter.unusedSimpArgs false
section
variable {st o q fo a3 : Int} {perm offs D xs ys ns ss fs fss : List Int} {x16 : Nat} {F : Nat}
theorem w_sub (r n i : Nat) (h : n ≤ r) (hr : r ≤ 4) (hi : i < n) : wrap64 (wrap64 ((r : Int) - (n : Int)) + (i : Int)) = ((r - n + i : Nat) : Int) := by
 have e1 : wrap64 ((r : Int) - (n : Int)) = (r : Int) - (n : Int) := w_id (by omega) (by omega)
 rw [e1, w_id (by omega) (by omega)]
 omega
theorem pl1_0 (a : Nat) (h16 : x16 < offs.length) (hc : ∀ k', F ≤ k' → laws_lwPlaces.l0 k' 0 (a : Int) st perm offs (wrap64 ((x16 : Int) + 1)) xs ys o ns ss q fs fss fo = some true) (hD : D.length = xs.length) (hy : ys.length = xs.length) (h4 : xs.length ≤ 4) : ∀ (n i k : Nat) (acc : Int), i + n = xs.length → F + 2 * n + 1 ≤ k →
  qS (rd offs (x16 : Int) = wrap64 (acc + sm i n (fun j => (if j = a then D.getD j 0 * st else D.getD j 0) * ys.getD j 0) + (fo - o))) → laws_lwPlaces.l1 k 0 (a : Int) st perm offs x16 D (wrap64 acc) (i : Int) xs ys o ns ss q fs fss fo = some true
 | 0, i, k, acc, hi, hk, hr => by
  obtain ⟨k, rfl⟩ : ∃ k', k = k' + 1 := ⟨k - 1, by omega⟩
  rw [laws_lwPlaces.l1, if_neg (by omega), if_pos rfl, if_pos (by omega), if_pos (by omega), if_pos]
  ·exact hc k (by omega)
  ·rw [hr.out, sm, w_add, Int.add_zero]
 | n + 1, i, k, acc, hi, hk, hr => by
  obtain ⟨k, rfl⟩ : ∃ k', k = k' + 2 := ⟨k - 2, by omega⟩
  rw [laws_lwPlaces.l1, if_pos (by omega), if_pos rfl, if_pos (by omega), if_pos (by omega), rd_n]
  replace hr := hr.out
  rw [sm, ← Int.add_assoc] at hr
  replace hr := qS.mk hr
  have e1 : wrap64 ((i : Int) + 1) = ((i + 1 : Nat) : Int) := by rw [w_id (by omega) (by omega)]; omega
  by_cases e : i = a
  ·rw [if_pos (by omega)]
   replace hr := hr.out
   rw [if_pos e] at hr
   replace hr := qS.mk hr
   rw [laws_lwPlaces.j3, if_neg (by omega), if_neg (by omega), if_pos (by omega), if_pos (by omega), rd_n, w_mul, w_add, e1]
   exact pl1_0 a h16 hc hD hy h4 n (i + 1) k _ (by omega) (by omega) hr
  ·rw [if_neg (by omega)]
   replace hr := hr.out
   rw [if_neg e] at hr
   replace hr := qS.mk hr
   rw [laws_lwPlaces.j3, if_neg (by omega), if_neg (by omega), if_pos (by omega), if_pos (by omega), rd_n, w_add, e1]
   exact pl1_0 a h16 hc hD hy h4 n (i + 1) k _ (by omega) (by omega) hr
def scan : List Int → List Int → Int → Int → Int
 | p :: ps, d :: ds, i, x => scan ps ds i (if p = i then d else x)
 | _, _, _, x => x
theorem pl2 (i : Nat) (acc x : Int) (hi : i < xs.length) (hy : ys.length = xs.length) (h4 : xs.length ≤ 4)
  (hc : ∀ k', F ≤ k' → laws_lwPlaces.l1 k' 1 a3 st perm offs x16 D (wrap64 (wrap64 acc + wrap64 (x * rd ys i))) (wrap64 ((i : Int) + 1)) xs ys o ns ss q fs fss fo = some true) :
  ∀ (ps ds pre pred : List Int) (k : Nat) (x20 : Int), perm = pre ++ ps → D = pred ++ ds → pre.length = pred.length → ps.length = ds.length → perm.length ≤ 4 → F + ps.length + 1 ≤ k → scan ps ds i x20 = x →
  laws_lwPlaces.l2 k 1 a3 st perm offs x16 D (wrap64 acc) (i : Int) x20 pre.length xs ys o ns ss q fs fss fo = some true
 | [], [], pre, pred, k, x20, hp, hD, hl, hl2, hp4, hk, hx => by
  obtain ⟨k, rfl⟩ : ∃ k', k = k' + 1 := ⟨k - 1, by omega⟩
  have e : perm.length = pre.length := by rw [hp]; simp
  simp only [scan] at hx
  subst hx
  rw [laws_lwPlaces.l2, if_neg (by omega), if_neg (by omega), if_pos (by omega), if_pos (by omega)]
  exact hc k (by simp at hk; omega)
 | [], _ :: _, _, _, _, _, _, _, _, h, _, _, _ => by simp at h
 | _ :: _, [], _, _, _, _, _, _, _, h, _, _, _ => by simp at h
 | p :: ps, d :: ds, pre, pred, k, x20, hp, hD, hl, hl2, hp4, hk, hx => by
  obtain ⟨k, rfl⟩ : ∃ k', k = k' + 1 := ⟨k - 1, by omega⟩
  have e : (perm.length : Int) = pre.length + 1 + ps.length := by rw [hp]; exact len_mid pre ps p
  have e2 : (D.length : Int) = pre.length + 1 + ds.length := by rw [hD, hl]; exact len_mid pred ds d
  have r1 : rd perm (pre.length : Int) = p := by rw [hp]; exact rd_at pre ps p
  have r2 : rd D (pre.length : Int) = d := by rw [hD, hl]; exact rd_at pred ds d
  have e3 : wrap64 ((pre.length : Int) + 1) = ((pre ++ [p]).length : Int) := by rw [w_id (by omega) (by omega)]; simp
  rw [scan] at hx
  simp only [List.length_cons] at hk hl2
  have ih := fun x20 hx => pl2 i acc x hi hy h4 hc ps ds (pre ++ [p]) (pred ++ [d]) k x20 (by rw [hp]; simp) (by rw [hD]; simp) (by simp [hl]) (by omega) hp4 (by omega) hx
  rw [laws_lwPlaces.l2, if_pos (by omega), if_pos (by omega), r1, e3]
  by_cases hpi : p = (i : Int)
  ·rw [if_pos hpi, if_pos (by omega), r2]
   rw [if_pos hpi] at hx
   exact ih d hx
  ·rw [if_neg hpi]
   rw [if_neg hpi] at hx
   exact ih x20 hx
theorem pl1_1 (h16 : x16 < offs.length) (hc : ∀ k', F ≤ k' → laws_lwPlaces.l0 k' 1 a3 st perm offs (wrap64 ((x16 : Int) + 1)) xs ys o ns ss q fs fss fo = some true) (hD : perm.length = D.length) (hp4 : perm.length ≤ 4) (hy : ys.length = xs.length) (h4 : xs.length ≤ 4) : ∀ (n i k : Nat) (acc : Int), i + n = xs.length → F + 7 * n + 1 ≤ k →
  qS (rd offs (x16 : Int) = wrap64 (acc + sm i n (fun j => scan perm D j 0 * ys.getD j 0))) → laws_lwPlaces.l1 k 1 a3 st perm offs x16 D (wrap64 acc) (i : Int) xs ys o ns ss q fs fss fo = some true
 | 0, i, k, acc, hi, hk, hr => by
  obtain ⟨k, rfl⟩ : ∃ k', k = k' + 1 := ⟨k - 1, by omega⟩
  rw [laws_lwPlaces.l1, if_neg (by omega), if_neg (by omega), if_pos (by omega), if_pos (by omega), if_pos]
  ·exact hc k (by omega)
  ·rw [hr.out, sm, Int.add_zero]
 | n + 1, i, k, acc, hi, hk, hr => by
  obtain ⟨k, rfl⟩ : ∃ k', k = k' + 2 := ⟨k - 2, by omega⟩
  rw [laws_lwPlaces.l1, if_pos (by omega), if_neg (by omega), laws_lwPlaces.j3, if_pos rfl]
  replace hr := hr.out
  rw [sm, ← Int.add_assoc] at hr
  replace hr := qS.mk hr
  have e1 : wrap64 ((i : Int) + 1) = ((i + 1 : Nat) : Int) := by rw [w_id (by omega) (by omega)]; omega
  refine pl2 (F := F + 7 * n + 1) i acc (scan perm D i 0) (by omega) hy h4 (fun k' hk' => ?_) perm D [] [] k 0 rfl rfl rfl hD hp4 (by omega) rfl
  rw [w_add, e1, rd_n]
  exact pl1_1 h16 hc hD hp4 hy h4 n (i + 1) k' _ (by omega) hk' hr
theorem pl1_2 (h16 : x16 < offs.length) (hc : ∀ k', F ≤ k' → laws_lwPlaces.l0 k' 2 a3 st perm offs (wrap64 ((x16 : Int) + 1)) xs ys o ns ss q fs fss fo = some true) (hD : D.length = ns.length) (hn4 : ns.length ≤ 4) (hx : xs.length ≤ ns.length) (hy : ys.length = xs.length) : ∀ (n i k : Nat) (acc : Int), i + n = xs.length → F + 2 * n + 1 ≤ k →
  qS (rd offs (x16 : Int) = wrap64 (acc + sm i n (fun j => (if xs.getD j 0 = 1 then 0 else D.getD (ns.length - xs.length + j) 0) * ys.getD j 0))) → laws_lwPlaces.l1 k 2 a3 st perm offs x16 D (wrap64 acc) (i : Int) xs ys o ns ss q fs fss fo = some true
 | 0, i, k, acc, hi, hk, hr => by
  obtain ⟨k, rfl⟩ : ∃ k', k = k' + 1 := ⟨k - 1, by omega⟩
  rw [laws_lwPlaces.l1, if_neg (by omega), if_neg (by omega), if_pos (by omega), if_pos (by omega), if_pos]
  ·exact hc k (by omega)
  ·rw [hr.out, sm, Int.add_zero]
 | n + 1, i, k, acc, hi, hk, hr => by
  obtain ⟨k, rfl⟩ : ∃ k', k = k' + 2 := ⟨k - 2, by omega⟩
  rw [laws_lwPlaces.l1, if_pos (by omega), if_neg (by omega), laws_lwPlaces.j3, if_neg (by omega), if_pos rfl, if_pos (by omega), if_pos (by omega), rd_n]
  replace hr := hr.out
  rw [sm, ← Int.add_assoc] at hr
  replace hr := qS.mk hr
  have e1 : wrap64 ((i : Int) + 1) = ((i + 1 : Nat) : Int) := by rw [w_id (by omega) (by omega)]; omega
  have e2 : wrap64 (wrap64 ((ns.length : Int) - (xs.length : Int)) + (i : Int)) = ((ns.length - xs.length + i : Nat) : Int) := w_sub _ _ _ hx hn4 (by omega)
  replace e2 := qS.mk e2
  replace e1 := qS.mk e1
  by_cases e : xs.getD i 0 = 1
  ·rw [if_pos e] at hr
   rw [if_pos e, if_pos (by omega), rd_n, w_add, e1.out]
   exact pl1_2 h16 hc hD hn4 hx hy n (i + 1) k _ (by omega) (by omega) hr
  ·rw [if_neg e] at hr
   rw [if_neg e, e2.out, if_pos (by omega), if_pos (by omega), if_pos (by omega), rd_n, rd_n, w_add, e1.out]
   exact pl1_2 h16 hc hD hn4 hx hy n (i + 1) k _ (by omega) (by omega) hr
theorem pl0 (how : Int) (hv : VV ns ss q) (hoff : offs = DFnViews.offs ns ss q)
  (hs : ∀ (x : Nat) (F k' : Nat), x < offs.length → pos ns → (x : Int) < cnt ns → (∀ k'', F ≤ k'' → laws_lwPlaces.l0 k'' how a3 st perm offs (wrap64 ((x : Int) + 1)) xs ys o ns ss q fs fss fo = some true) → F + 40 ≤ k' → laws_lwPlaces.l1 k' how a3 st perm offs x (dig ns x) o 0 xs ys o ns ss q fs fss fo = some true) :
  ∀ (r x k : Nat), x + r = offs.length → 50 * r + 1 ≤ k → laws_lwPlaces.l0 k how a3 st perm offs (x : Int) xs ys o ns ss q fs fss fo = some true
 | 0, x, k, hx, hk => by
  obtain ⟨k, rfl⟩ : ∃ k', k = k' + 1 := ⟨k - 1, by omega⟩
  rw [laws_lwPlaces.l0, if_neg (by omega)]
 | r + 1, x, k, hx, hk => by
  obtain ⟨k, rfl⟩ : ∃ k', k = k' + 1 := ⟨k - 1, by omega⟩
  have hlen := offs_len hv
  have hg := hv.1
  have hz : cnt ns ≠ 0 := by
   intro h
   rw [hoff, DFnViews.offs, if_pos h] at hx
   simp at hx
  have hp := pos_of_cnt hg.2.1 hz
  have hl : (offs.length : Int) = cnt ns := by rw [hoff, DFnViews.offs, if_neg hz]; exact places_len ns ss q (by have := hv.2.1; omega) hg.2.1
  rw [← hoff] at hlen
  rw [laws_lwPlaces.l0, if_pos (by omega), index_f ns x k hg.1 hg.2.1 hp (by omega) (by omega) (by omega)]
  simp only [Option.bind_some]
  refine hs x (50 * r + 1) k (by omega) hp (by omega) (fun k'' hk'' => ?_) (by omega)
  rw [w_id (by omega) (by omega), show (x : Int) + 1 = ((x + 1 : Nat) : Int) by omega]
  exact pl0 how hv hoff hs r (x + 1) k'' (by omega) hk''
end
end Go.Proofs.Ytpmdgmnpkdoamaa.DFnViews
