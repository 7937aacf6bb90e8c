/- Proved here: the places of a slice, of a transposed and of a broadcast view are those that the indexes say (plain laws over the printed functions). Conditions: those that stand ahead in each theorem. -/
import Derived.Test.YtpmdgmnpkdoamaaViVpo
namespace Go.Proofs.Ytpmdgmnpkdoamaa.DFnViews
open Go.RowKit Go.Proofs.YtpmdgmnpkdoamaaW.PrintWords Go.Proofs.YtpmdgmnpkdoamaaW.PrintLast Go.Proofs.YtpmdgmnpkdoamaaW.PrintMore
set_option linter.unusedVariables false
set_option linter.unusedSimpArgs false
theorem dot_set : ∀ (J ss : List Int) (i : Nat) (x : Int), J.length = ss.length → i < J.length → dot (J.set i x) ss = dot J ss + (x - J.getD i 0) * ss.getD i 0
 | [], _, i, x, _, h => by simp at h
 | _ :: _, [], i, x, h, _ => by simp at h
 | j :: J, s :: ss, 0, x, hl, h => by
  simp only [List.set_cons_zero, dot, List.getD_cons_zero]
  rw [Int.sub_mul]; omega
 | j :: J, s :: ss, i + 1, x, hl, h => by
  simp only [List.set_cons_succ, dot, List.getD_cons_succ]
  rw [dot_set J ss i x (by simpa using hl) (by simpa using h)]; omega
theorem dot_setr : ∀ (J ss : List Int) (i : Nat) (y : Int), J.length = ss.length → i < J.length → dot J (ss.set i y) = dot J ss + J.getD i 0 * (y - ss.getD i 0)
 | [], _, i, x, _, h => by simp at h
 | _ :: _, [], i, x, h, _ => by simp at h
 | j :: J, s :: ss, 0, y, hl, h => by
  simp only [List.set_cons_zero, dot, List.getD_cons_zero]
  rw [Int.mul_sub]; omega
 | j :: J, s :: ss, i + 1, y, hl, h => by
  simp only [List.set_cons_succ, dot, List.getD_cons_succ]
  rw [dot_setr J ss i y (by simpa using hl) (by simpa using h)]; omega
theorem dot_rep : ∀ (n : Nat) (ss : List Int), dot (List.replicate n 0) ss = 0
 | 0, _ => by simp [dot]
 | n + 1, [] => by simp [List.replicate_succ, dot]
 | n + 1, s :: ss => by rw [List.replicate_succ, dot, dot_rep n ss]; simp
theorem inb_zero : ∀ (ns : List Int), pos ns → inb (List.replicate ns.length 0) ns
 | [], _ => trivial
 | n :: ns, h => by
  rw [List.length_cons, List.replicate_succ, inb]
  have := h n (by simp)
  exact ⟨by omega, inb_zero ns (fun x hx => h x (by simp [hx]))⟩
theorem pos_inb : ∀ (J ns : List Int), inb J ns → pos ns
 | [], [], _ => fun x hx => by simp at hx
 | [], _ :: _, h => by simp [inb] at h
 | _ :: _, [], h => by simp [inb] at h
 | j :: J, n :: ns, h => by
  rw [inb] at h
  have := pos_inb J ns h.2
  intro x hx
  rcases List.mem_cons.1 hx with rfl | hx
  ·omega
  ·exact this x hx
theorem cnt_ne {ns : List Int} (h : pos ns) : cnt ns ≠ 0 := by have := cnt_pos h; omega
theorem inr_of {ns ss : List Int} {q : Int} (hl : ns.length = ss.length) (ho : ok ns) (h : ∀ J, inb J ns → 0 ≤ q + dot J ss ∧ q + dot J ss < 4096) (hz : cnt ns ≠ 0) : inr (places ns ss q) := by
 intro p hp
 obtain ⟨J, hJ, rfl⟩ := places_idx hl ho (pos_of_cnt ho hz) hp
 exact h J hJ
theorem lw_f {how a3 st o q fo : Int} {perm xs ys ns ss fs fss : List Int} (hv : VV ns ss q) (hh : how = 0 → fs = ns)
  (hs : ∀ (x : Nat) (F k' : Nat), x < (offs ns ss q).length → rd (offs ns ss q) (x : Int) = q + dot (dig ns x) ss → inb (dig ns x) ns → 0 ≤ q + dot (dig ns x) ss ∧ q + dot (dig ns x) ss < 4096 → (∀ k'', F ≤ k'' → laws_lwPlaces.l0 k'' how a3 st perm (offs ns ss q) (wrap64 ((x : Int) + 1)) xs ys o ns ss q fs fss fo = some true) → F + 40 ≤ k' → laws_lwPlaces.l1 k' how a3 st perm (offs ns ss q) x (dig ns x) o 0 xs ys o ns ss q fs fss fo = some true) :
  laws_lwPlaces.f 5000000 xs ys o ns ss q how a3 fs fss fo st perm = some true := by
 have hg := hv.1
 have hlen := offs_len hv
 have hoc : ((offs ns ss q).length : Int) = cnt ns := by
  unfold offs
  by_cases hz : cnt ns = 0
  ·rw [if_pos hz, hz]; rfl
  ·rw [if_neg hz]; exact places_len ns ss q (by have := hv.2.1; omega) hg.2.1
 have hl0 : laws_lwPlaces.l0 4999999 how a3 st perm (offs ns ss q) 0 xs ys o ns ss q fs fss fo = some true := by
  refine pl0 how hv rfl ?_ (offs ns ss q).length 0 4999999 (by omega) (by omega)
  intro x F k' hx hp hxc hF hk'
  have hz := cnt_ne hp
  have hpl := places_get ns ss q x (by have := hv.2.1; omega) hg.2.1 hp hxc
  have hin := inb_dig ns x hp hxc
  have hr : rd (offs ns ss q) (x : Int) = q + dot (dig ns x) ss := by
   rw [rd_n, List.getD_eq_getElem?_getD, offs, if_neg hz, hpl]; rfl
  exact hs x F k' hx hr hin (hv.2.2.2.2.2 hz _ (places_mem _ _ _ _ hin (by have := hv.2.1; omega))) hF hk'
 have hj : laws_lwPlaces.j0 5000000 how a3 st perm (offs ns ss q) false xs ys o ns ss q fs fss fo = some true := by
  rw [laws_lwPlaces.j0, if_neg (by simp)]; exact hl0
 unfold laws_lwPlaces.f
 rw [vv_true hv _ (by omega)]
 simp only [Option.bind_some, if_true]
 rw [offsets_f hv _ (by omega)]
 simp only [Option.bind_some]
 rw [lwcount_f _ ns (by have := hg.1; omega) hg.1 hg.2.1]
 simp only [Option.bind_some]
 rw [if_pos hoc]
 by_cases h0 : how = 0
 ·rw [if_pos h0, hh h0, same_self ns (by have := hg.1; omega)]
  rw [hh h0] at hj
  exact hj
 ·rw [if_neg h0]; exact hj
theorem w_small {n : Int} (h : 0 ≤ n ∧ n < 4096) : wrap64 n = n := w_id (by omega) (by omega)
theorem getD_inb {J ns : List Int} (h : inb J ns) {i : Nat} (hi : i < ns.length) : 0 ≤ J.getD i 0 ∧ J.getD i 0 < ns.getD i 0 := ((inb_iff J ns).1 h).2 i hi
theorem inb_len {J ns : List Int} (h : inb J ns) : J.length = ns.length := ((inb_iff J ns).1 h).1
theorem getD_set (xs : List Int) (i j : Nat) (x : Int) (h : i < xs.length) : (xs.set i x).getD j 0 = if j = i then x else xs.getD j 0 := by
 rw [List.getD_eq_getElem?_getD, List.getElem?_set, List.getD_eq_getElem?_getD]
 by_cases e : i = j
 ·subst e; rw [if_pos rfl, if_pos h, if_pos rfl]; rfl
 ·rw [if_neg e, if_neg (fun h => e h.symm)]
theorem inb_set {J ns : List Int} {i : Nat} {x m : Int} (hi : i < ns.length) (h : inb J (ns.set i m)) (h0 : 0 ≤ x) (h1 : x < ns.getD i 0) : inb (J.set i x) ns := by
 obtain ⟨hl, hb⟩ := (inb_iff _ _).1 h
 rw [List.length_set] at hl hb
 refine (inb_iff _ _).2 ⟨by simpa using hl, fun j hj => ?_⟩
 have := hb j hj
 rw [getD_set ns i j m hi] at this
 rw [getD_set J i j x (by omega)]
 by_cases e : j = i
 ·rw [if_pos e, e]; exact ⟨h0, h1⟩
 ·rw [if_neg e] at this ⊢; exact this
theorem dot_slice {xs ys : List Int} {i m : Nat} {f d o : Int} {J : List Int} (hi : i < xs.length) (hl : ys.length = xs.length) (hm : 1 ≤ m) (hJ : inb J (xs.set i (m : Int))) :
  dot J (if 1 < m then ys.set i (d * ys.getD i 0) else ys) = dot (J.set i (J.getD i 0 * d)) ys := by
 have hJl := inb_len hJ
 rw [List.length_set] at hJl
 have hJi := getD_inb hJ (i := i) (by simpa using hi)
 rw [getD_set xs i i _ hi, if_pos rfl] at hJi
 rw [dot_set J ys i _ (by omega) (by omega)]
 by_cases h1 : 1 < m
 ·rw [if_pos h1, dot_setr J ys i _ (by omega) (by omega), Int.mul_sub, Int.sub_mul, Int.mul_assoc]
 ·rw [if_neg h1]
  have e : J.getD i 0 = 0 := by omega
  rw [e]; simp
theorem vv_slice {xs ys : List Int} {o d : Int} {i : Nat} {L1 L2 : List Int} {q : Int} (hv : VV xs ys o) (hi : i < xs.length) (hs : SL xs ys o i d L1 L2 q) : VV L1 L2 q ∧ (cnt L1 ≠ 0 → ∀ J, inb J L1 → dot J L2 = dot (J.set i (J.getD i 0 * d)) ys) := by
 obtain ⟨m, f, rfl, hm, hf, hz, hnz⟩ := hs
 obtain ⟨hg, hl, h0, h1, hq, hr⟩ := hv
 have hxi : 0 ≤ xs.getD i 0 ∧ xs.getD i 0 ≤ 4096 := by
  rw [List.getD_eq_getElem?_getD, List.getElem?_eq_getElem hi]; exact hg.2.1 _ (List.getElem_mem hi)
 have hg' : good (xs.set i (m : Int)) := ⟨by simpa using hg.1, ok_set hg.2.1 (by omega) (by omega), Int.le_trans (cnt_set_le hg.2.1 hi (by omega) hm) hg.2.2⟩
 by_cases hc : cnt (xs.set i (m : Int)) = 0
 ·obtain ⟨rfl, rfl⟩ := hz hc
  exact ⟨⟨hg', by simpa using hl, h0, h1, hq, fun h => absurd hc h⟩, fun h => absurd hc h⟩
 ·obtain ⟨hm1, rfl, rfl⟩ := hnz hc
  obtain ⟨f0, f1, f2, f3⟩ := hf hm1
  have hp := pos_of_cnt hg'.2.1 hc
  have D : ∀ J, inb J (xs.set i (m : Int)) → dot J (if 1 < m then ys.set i (d * ys.getD i 0) else ys) = dot (J.set i (J.getD i 0 * d)) ys := fun J hJ => dot_slice (o := o) (f := f) hi hl hm1 hJ
  have B : ∀ J, inb J (xs.set i (m : Int)) → 0 ≤ o + f * ys.getD i 0 + dot J (if 1 < m then ys.set i (d * ys.getD i 0) else ys) ∧ o + f * ys.getD i 0 + dot J (if 1 < m then ys.set i (d * ys.getD i 0) else ys) < 4096 := by
   intro J hJ
   have hJl := inb_len hJ
   rw [List.length_set] at hJl
   have hJi := getD_inb hJ (i := i) (by simpa using hi)
   rw [getD_set xs i i _ hi, if_pos rfl] at hJi
   have hb : 0 ≤ f + J.getD i 0 * d ∧ f + J.getD i 0 * d < xs.getD i 0 := by
    rcases Int.le_total 0 d with hd | hd
    ·have a1 := Int.mul_nonneg hJi.1 hd
     have a2 := Int.mul_le_mul_of_nonneg_right (show J.getD i 0 ≤ (m : Int) - 1 by omega) hd
     omega
    ·have a1 := Int.mul_le_mul_of_nonpos_right (show (0 : Int) ≤ J.getD i 0 from hJi.1) hd
     have a2 := Int.mul_le_mul_of_nonpos_right (show J.getD i 0 ≤ (m : Int) - 1 by omega) hd
     omega
   have hin := inb_set hi hJ hb.1 hb.2
   have hmem := hr (cnt_ne (pos_inb _ _ hin)) _ (places_mem _ _ ys o hin (by omega))
   rw [dot_set J ys i _ (by omega) (by omega)] at hmem
   rw [D J hJ, dot_set J ys i _ (by omega) (by omega)]
   have e : o + f * ys.getD i 0 + (dot J ys + (J.getD i 0 * d - J.getD i 0) * ys.getD i 0) = o + (dot J ys + (f + J.getD i 0 * d - J.getD i 0) * ys.getD i 0) := by
    rw [show f + J.getD i 0 * d - J.getD i 0 = f + (J.getD i 0 * d - J.getD i 0) by omega, Int.add_mul f]; omega
   rw [e]; exact hmem
  have hlen : (if 1 < m then ys.set i (d * ys.getD i 0) else ys).length = xs.length := by split <;> simp [hl]
  have b0 := B _ (inb_zero _ hp)
  rw [dot_rep] at b0
  refine ⟨⟨hg', by simpa using hlen, by omega, by omega, ?_, fun _ => inr_of (by simpa using hlen.symm) hg'.2.1 B hc⟩, fun _ => D⟩
  by_cases h2 : 1 < m
  ·rw [if_pos h2]
   intro s hs'
   rcases List.mem_or_eq_of_mem_set hs' with h | rfl
   ·exact hq s h
   ·have hin : inb ((List.replicate (xs.set i (m : Int)).length 0).set i 1) (xs.set i (m : Int)) := by
     refine inb_set (m := (m : Int)) (by simpa using hi) ?_ (by omega) (by rw [getD_set xs i i _ hi, if_pos rfl]; omega)
     rw [List.set_set]; exact inb_zero _ hp
    have b1 := B _ hin
    rw [dot_set _ _ i _ (by rw [List.length_replicate, List.length_set, hlen]) (by simpa using hi), dot_rep, if_pos h2, getD_set ys i i _ (by omega), if_pos rfl] at b1
    have e : (List.replicate (xs.set i (m : Int)).length (0 : Int)).getD i 0 = 0 := by
     rw [List.getD_eq_getElem?_getD, List.getElem?_replicate]; split <;> rfl
    rw [e] at b1
    omega
  ·rw [if_neg h2]; exact hq
theorem places_slice (xs ys : List Int) (o a d : Int) (i : Nat) (L1 L2 : List Int) (q : Int) (hv : VV xs ys o) (ha : a = (i : Int)) (hi : i < xs.length) (hs : SL xs ys o i d L1 L2 q) : laws_lwPlaces.f 5000000 xs ys o L1 L2 q 0 a L1 L2 q d [] = some true := by
 subst ha
 obtain ⟨hv', hd⟩ := vv_slice hv hi hs
 have hl1 : L1.length = xs.length := by obtain ⟨m, f, rfl, -⟩ := hs; simp
 refine lw_f hv' (fun _ => rfl) ?_
 intro x F k' hx hr hin hb hF hk'
 have hz := cnt_ne (pos_inb _ _ hin)
 have hJl := inb_len hin
 have h4 := hv.1.1
 have hyl := hv.2.1
 have hw : wrap64 o = o := w_id (by have := hv.2.2.1; omega) (by have := hv.2.2.2.1; omega)
 refine Eq.mp (by rw [hw]; rfl) (pl1_0 (ys := ys) i hx hF (by omega) hyl h4 xs.length 0 k' o (by omega) (by omega) ⟨?_⟩)
 rw [hr]
 have e : sm 0 xs.length (fun j => (if j = i then (dig L1 x).getD j 0 * d else (dig L1 x).getD j 0) * ys.getD j 0) = dot ((dig L1 x).set i ((dig L1 x).getD i 0 * d)) ys := by
  rw [dot_sm _ _ (by simp; omega), List.length_set, hJl, hl1]
  refine sm_congr _ _ fun j h1 h2 => ?_
  rw [getD_set _ _ _ _ (by omega)]
  by_cases e : j = i
  ·rw [if_pos e, if_pos e, e]
  ·rw [if_neg e, if_neg e]
 rw [e, ← hd hz _ hin, show o + dot (dig L1 x) L2 + (q - o) = q + dot (dig L1 x) L2 by omega, w_small hb]
theorem pig : ∀ (n : Nat) (l : List Int), l.Nodup → (∀ x ∈ l, 0 ≤ x ∧ x < (n : Int)) → l.length ≤ n
 | 0, l, _, h => by
  cases l with
  | nil => simp
  | cons a l => have := h a (by simp); omega
 | n + 1, l, hn, h => by
  have := pig n (l.erase (n : Int)) (hn.erase _) (fun x hx => by
   have h1 := (hn.mem_erase_iff).1 hx
   have h2 := h x h1.2
   have : x ≠ (n : Int) := h1.1
   omega)
  rw [List.length_erase] at this
  split at this <;> omega
theorem surj {n : Nat} {l : List Int} (hn : l.Nodup) (h : ∀ x ∈ l, 0 ≤ x ∧ x < (n : Int)) (hl : l.length = n) (j : Nat) (hj : j < n) : (j : Int) ∈ l := by
 by_cases hm : (j : Int) ∈ l
 ·exact hm
 ·have := pig n ((j : Int) :: l) (List.nodup_cons.2 ⟨hm, hn⟩) (fun x hx => by
   rcases List.mem_cons.1 hx with rfl | hx
   ·omega
   ·exact h x hx)
  simp at this; omega
theorem scan_not : ∀ (ps J : List Int) (i x : Int), i ∉ ps → scan ps J i x = x
 | [], _, _, _, _ => by simp [scan]
 | _ :: _, [], _, _, _ => by simp [scan]
 | p :: ps, d :: J, i, x, h => by
  rw [scan, if_neg (fun e => h (by simp [e])), scan_not ps J i x (fun e => h (by simp [e]))]
theorem scan_cons {p d : Int} {ps J : List Int} (h : p ∉ ps) (i : Int) : scan (p :: ps) (d :: J) i 0 = if i = p then d else scan ps J i 0 := by
 rw [scan]
 by_cases e : i = p
 ·rw [if_pos e.symm, if_pos e, scan_not ps J i d (by rw [e]; exact h)]
 ·rw [if_neg (fun h => e h.symm), if_neg e]
theorem scan_in (xs : List Int) : ∀ (ps J : List Int), ps.Nodup → inb J (ps.map (rd xs)) → ∀ i ∈ ps, 0 ≤ scan ps J i 0 ∧ scan ps J i 0 < rd xs i
 | [], _, _, _, i, hi => by simp at hi
 | _ :: _, [], _, h, _, _ => by simp [inb] at h
 | p :: ps, d :: J, hn, h, i, hi => by
  obtain ⟨h1, h2⟩ := List.nodup_cons.1 hn
  rw [List.map_cons, inb] at h
  rw [scan_cons h1]
  by_cases e : i = p
  ·rw [if_pos e, e]; exact h.1
  ·rw [if_neg e]
   exact scan_in xs ps J h2 h.2 i (by rcases List.mem_cons.1 hi with h | h; exact absurd h e; exact h)
theorem scan_sum (ys : List Int) (n : Nat) : ∀ (ps J : List Int), ps.Nodup → (∀ x ∈ ps, 0 ≤ x ∧ x < (n : Int)) → J.length = ps.length → sm 0 n (fun j => scan ps J j 0 * ys.getD j 0) = dot J (ps.map (rd ys))
 | [], [], _, _, _ => by
  simp only [scan, Int.zero_mul, List.map_nil, dot]
  exact sm_zero n 0
 | [], _ :: _, _, _, h => by simp at h
 | _ :: _, [], _, _, h => by simp at h
 | p :: ps, d :: J, hn, h, hl => by
  obtain ⟨h1, h2⟩ := List.nodup_cons.1 hn
  have hp := h p (by simp)
  obtain ⟨P, rfl⟩ : ∃ P : Nat, p = (P : Int) := ⟨p.toNat, by omega⟩
  rw [List.map_cons, dot, ← scan_sum ys n ps J h2 (fun x hx => h x (by simp [hx])) (by simpa using hl)]
  have e : sm 0 n (fun j => scan ((P : Int) :: ps) (d :: J) j 0 * ys.getD j 0) = sm 0 n (fun j => if j = P then d * rd ys (P : Int) else scan ps J j 0 * ys.getD j 0) := by
   refine sm_congr _ _ fun j _ _ => ?_
   show scan ((P : Int) :: ps) (d :: J) j 0 * ys.getD j 0 = _
   rw [scan_cons h1]
   by_cases e : j = P
   ·subst e; rw [if_pos rfl, if_pos rfl, rd_n]
   ·rw [if_neg (by omega), if_neg e]
  rw [e, sm_upd n 0 (by omega) (by omega), scan_not ps J _ 0 h1]
  omega
theorem prod_perm (xs : List Int) (n : Nat) : ∀ (ps : List Int), ps.Nodup → (∀ x ∈ ps, 0 ≤ x ∧ x < (n : Int)) → pm 0 n (fun j => if (j : Int) ∈ ps then xs.getD j 0 else 1) = cnt (ps.map (rd xs))
 | [], _, _ => by
  simp only [List.not_mem_nil, if_false, List.map_nil, cnt]
  exact pm_one n 0
 | p :: ps, hn, h => by
  obtain ⟨h1, h2⟩ := List.nodup_cons.1 hn
  have hp := h p (by simp)
  obtain ⟨P, rfl⟩ : ∃ P : Nat, p = (P : Int) := ⟨p.toNat, by omega⟩
  rw [List.map_cons, cnt, ← prod_perm xs n ps h2 (fun x hx => h x (by simp [hx]))]
  rw [← pm_upd (f := fun j => if (j : Int) ∈ ps then xs.getD j 0 else 1) (p := P) (by show (if (P : Int) ∈ ps then _ else _) = _; rw [if_neg h1]) n 0 (by omega) (by omega)]
  refine pm_congr _ _ fun j _ _ => ?_
  show (if (j : Int) ∈ (P : Int) :: ps then xs.getD j 0 else 1) = if j = P then rd xs (P : Int) else if (j : Int) ∈ ps then xs.getD j 0 else 1
  by_cases e : j = P
  ·subst e; rw [if_pos (by simp), if_pos rfl, rd_n]
  ·rw [if_neg e]
   by_cases e2 : (j : Int) ∈ ps
   ·rw [if_pos (by simp [e2]), if_pos e2]
   ·rw [if_neg (fun h => by rcases List.mem_cons.1 h with h | h; exact e (by omega); exact e2 h), if_neg e2]
theorem vv_trans {xs ys ps : List Int} {o : Int} (hv : VV xs ys o) (hl : ps.length = xs.length) (hq : ∀ q ∈ ps, 0 ≤ q ∧ q < (xs.length : Int)) (hn : ps.Nodup) : VV (ps.map (rd xs)) (ps.map (rd ys)) o := by
 obtain ⟨hg, hyl, h0, h1, hs, hr⟩ := hv
 have hcnt : cnt (ps.map (rd xs)) = cnt xs := by
  rw [← prod_perm xs xs.length ps hn hq, cnt_pm xs]
  refine pm_congr _ _ fun j _ hj => ?_
  rw [if_pos (surj hn hq hl j (by omega))]
 have hmem : ∀ (zs : List Int), zs.length = xs.length → ∀ q ∈ ps, rd zs q ∈ zs := by
  intro zs hz q hqp
  have := hq q hqp
  have hlt : q.toNat < zs.length := by omega
  unfold rd
  rw [List.getD_eq_getElem?_getD, List.getElem?_eq_getElem hlt]
  exact List.getElem_mem hlt
 have hok : ok (ps.map (rd xs)) := by
  intro x hx
  obtain ⟨q, hqp, rfl⟩ := List.mem_map.1 hx
  exact hg.2.1 _ (hmem xs rfl q hqp)
 refine ⟨⟨by simp; have := hg.1; omega, hok, by rw [hcnt]; exact hg.2.2⟩, by simp, h0, h1, ?_, ?_⟩
 ·intro s hs'
  obtain ⟨q, hqp, rfl⟩ := List.mem_map.1 hs'
  exact hs _ (hmem ys hyl q hqp)
 ·intro hz
  refine inr_of (by simp) hok ?_ hz
  intro J hJ
  have hJl := inb_len hJ
  rw [List.length_map] at hJl
  have hin : inb ((List.range xs.length).map (fun j : Nat => scan ps J (j : Int) 0)) xs := by
   refine (inb_iff _ _).2 ⟨by simp, fun j hj => ?_⟩
   have e : ((List.range xs.length).map (fun j : Nat => scan ps J (j : Int) 0)).getD j 0 = scan ps J (j : Int) 0 := by
    rw [List.getD_eq_getElem?_getD, List.getElem?_map, List.getElem?_range hj]; rfl
   rw [e, ← rd_n xs j]
   exact scan_in xs ps J hn hJ _ (surj hn hq hl j hj)
  have hp := hr (by rw [← hcnt]; exact hz) _ (places_mem _ _ ys o hin (by omega))
  rw [dot_sm _ _ (by simp [hyl])] at hp
  rw [← scan_sum ys xs.length ps J hn hq hJl]
  have e : sm 0 ((List.range xs.length).map (fun j : Nat => scan ps J (j : Int) 0)).length (fun j => ((List.range xs.length).map (fun j : Nat => scan ps J (j : Int) 0)).getD j 0 * ys.getD j 0) = sm 0 xs.length (fun j => scan ps J (j : Int) 0 * ys.getD j 0) := by
   rw [List.length_map, List.length_range]
   refine sm_congr _ _ fun j _ hj => ?_
   rw [List.getD_eq_getElem?_getD, List.getElem?_map, List.getElem?_range (by omega)]; rfl
  rw [e] at hp
  exact hp
theorem places_transpose (xs ys shape : List Int) (o : Int) (hv : VV xs ys o) (hl : shape.length = xs.length) (hq : ∀ q ∈ shape, 0 ≤ q ∧ q < (xs.length : Int)) (hn : shape.Nodup) : laws_lwPlaces.f 5000000 xs ys o (shape.map (rd xs)) (shape.map (rd ys)) o 1 0 [] [] 0 0 shape = some true := by
 have hv' := vv_trans hv hl hq hn
 refine lw_f hv' (fun h => absurd h (by decide)) ?_
 intro x F k' hx hr hin hb hF hk'
 have hJl := inb_len hin
 rw [List.length_map] at hJl
 have h4 := hv.1.1
 have hyl := hv.2.1
 have hw : wrap64 o = o := w_id (by have := hv.2.2.1; omega) (by have := hv.2.2.2.1; omega)
 refine Eq.mp (by rw [hw]; rfl) (pl1_1 (ys := ys) hx hF (by omega) (by omega) hyl h4 xs.length 0 k' o (by omega) (by omega) ⟨?_⟩)
 rw [hr, scan_sum ys xs.length shape _ hn hq hJl, w_small hb]
def bj : List Int → List Int → List Int
 | x :: xs, j :: J => (if x = 1 then 0 else j) :: bj xs J
 | _, _ => []
theorem bj_len : ∀ (xs J : List Int), J.length = xs.length → (bj xs J).length = xs.length
 | [], [], _ => rfl
 | [], _ :: _, h => by simp at h
 | _ :: _, [], h => by simp at h
 | x :: xs, j :: J, h => by rw [bj, List.length_cons, bj_len xs J (by simpa using h), List.length_cons]
theorem bj_get : ∀ (xs J : List Int) (i : Nat), J.length = xs.length → i < xs.length → (bj xs J).getD i 0 = if xs.getD i 0 = 1 then 0 else J.getD i 0
 | [], _, _, _, h => by simp at h
 | _ :: _, [], _, h, _ => by simp at h
 | x :: xs, j :: J, 0, _, _ => by simp [bj]
 | x :: xs, j :: J, i + 1, h, hi => by
  rw [bj, List.getD_cons_succ, bj_get xs J i (by simpa using h) (by simpa using hi), List.getD_cons_succ, List.getD_cons_succ]
theorem bj_in : ∀ (ss xs ys L J : List Int), bstr ss xs ys = some L → xs.length = ss.length → ys.length = ss.length → inb J ss → inb (bj xs J) xs ∧ dot (bj xs J) ys = dot J L
 | [], [], [], L, [], h, _, _, _ => by simp [bstr] at h; subst h; exact ⟨trivial, rfl⟩
 | [], [], [], _, _ :: _, _, _, _, h => by simp [inb] at h
 | [], _ :: _, _, _, _, _, h, _, _ => by simp at h
 | [], [], _ :: _, _, _, _, _, h, _ => by simp at h
 | _ :: _, [], _, _, _, _, h, _, _ => by simp at h
 | _ :: _, _ :: _, [], _, _, _, _, h, _ => by simp at h
 | _ :: _, _ :: _, _ :: _, _, [], _, _, _, h => by simp [inb] at h
 | s :: ss, x :: xs, y :: ys, L, j :: J, h, h1, h2, hJ => by
  rw [inb] at hJ
  rw [bstr] at h
  by_cases e : x = s
  ·rw [if_pos e] at h
   obtain ⟨r, hr, h⟩ := Option.bind_eq_some_iff.1 h
   obtain rfl := Option.some.inj h
   obtain ⟨a, b⟩ := bj_in ss xs ys r J hr (by simpa using h1) (by simpa using h2) hJ.2
   rw [bj, inb, dot, dot, b]
   by_cases e1 : x = 1
   ·rw [if_pos e1]
    have : j = 0 := by omega
    subst this
    exact ⟨⟨by omega, a⟩, rfl⟩
   ·rw [if_neg e1]; exact ⟨⟨by omega, a⟩, rfl⟩
  ·rw [if_neg e] at h
   by_cases e1 : x = 1
   ·rw [if_pos e1] at h
    obtain ⟨r, hr, h⟩ := Option.bind_eq_some_iff.1 h
    obtain rfl := Option.some.inj h
    obtain ⟨a, b⟩ := bj_in ss xs ys r J hr (by simpa using h1) (by simpa using h2) hJ.2
    rw [bj, inb, dot, dot, b, if_pos e1]
    exact ⟨⟨by omega, a⟩, by simp⟩
   ·rw [if_neg e1] at h; cases h
theorem bstr_oks : ∀ (ss xs ys L : List Int), bstr ss xs ys = some L → oks ys → oks L
 | s :: ss, x :: xs, y :: ys, L, h, hq => by
  rw [bstr] at h
  obtain ⟨h1, h2⟩ := oks_cons.1 hq
  by_cases e : x = s
  ·rw [if_pos e] at h
   obtain ⟨r, hr, h⟩ := Option.bind_eq_some_iff.1 h
   obtain rfl := Option.some.inj h
   exact oks_cons.2 ⟨h1, bstr_oks ss xs ys r hr h2⟩
  ·rw [if_neg e] at h
   by_cases e1 : x = 1
   ·rw [if_pos e1] at h
    obtain ⟨r, hr, h⟩ := Option.bind_eq_some_iff.1 h
    obtain rfl := Option.some.inj h
    exact oks_cons.2 ⟨by omega, bstr_oks ss xs ys r hr h2⟩
   ·rw [if_neg e1] at h; cases h
 | [], _, _, L, h, _ => by simp [bstr] at h; subst h; intro x hx; simp at hx
 | _ :: _, [], _, L, h, _ => by simp [bstr] at h; subst h; intro x hx; simp at hx
 | _ :: _, _ :: _, [], L, h, _ => by simp [bstr] at h; subst h; intro x hx; simp at hx
theorem inb_drop : ∀ (n : Nat) (J ns : List Int), inb J ns → inb (J.drop n) (ns.drop n)
 | 0, _, _, h => h
 | n + 1, [], [], h => by simpa using h
 | n + 1, [], _ :: _, h => by simp [inb] at h
 | n + 1, _ :: _, [], h => by simp [inb] at h
 | n + 1, j :: J, m :: ns, h => by rw [inb] at h; simpa using inb_drop n J ns h.2
theorem dot_drop : ∀ (n : Nat) (J L : List Int), n ≤ J.length → dot J (List.replicate n 0 ++ L) = dot (J.drop n) L
 | 0, _, _, _ => by simp
 | n + 1, [], _, h => by simp at h
 | n + 1, j :: J, L, h => by
  rw [List.replicate_succ, List.cons_append, dot, dot_drop n J L (by simpa using h)]; simp
theorem vv_broad {xs ys shape L : List Int} {o : Int} (hv : VV xs ys o) (hg : good shape) (hl : xs.length ≤ shape.length) (hb : bstr (shape.drop (shape.length - xs.length)) xs ys = some L) :
  VV shape (List.replicate (shape.length - xs.length) 0 ++ L) o ∧ ∀ J, inb J shape → dot J (List.replicate (shape.length - xs.length) 0 ++ L) = dot (bj xs (J.drop (shape.length - xs.length))) ys := by
 obtain ⟨hgx, hyl, h0, h1, hs, hr⟩ := hv
 have hdl : (shape.drop (shape.length - xs.length)).length = xs.length := by simp; omega
 have hLl := bstr_len _ xs ys L hdl.symm (by omega) hb
 have D : ∀ J, inb J shape → inb (bj xs (J.drop (shape.length - xs.length))) xs ∧ dot J (List.replicate (shape.length - xs.length) 0 ++ L) = dot (bj xs (J.drop (shape.length - xs.length))) ys := by
  intro J hJ
  obtain ⟨a, b⟩ := bj_in _ xs ys L _ hb hdl.symm (by omega) (inb_drop _ J shape hJ)
  exact ⟨a, by rw [b, dot_drop _ _ _ (by rw [inb_len hJ]; omega)]⟩
 refine ⟨⟨hg, by simp; omega, h0, h1, ?_, ?_⟩, fun J hJ => (D J hJ).2⟩
 ·intro s hs'
  rcases List.mem_append.1 hs' with h | h
  ·have := (List.mem_replicate.1 h).2; omega
  ·exact bstr_oks _ _ _ _ hb hs s h
 ·refine inr_of (by simp; omega) hg.2.1 ?_
  intro J hJ
  obtain ⟨a, b⟩ := D J hJ
  rw [b]
  exact hr (cnt_ne (pos_inb _ _ a)) _ (places_mem _ _ ys o a (by omega))
theorem places_broadcast (xs ys shape L : List Int) (o : Int) (hv : VV xs ys o) (hg : good shape) (hl : xs.length ≤ shape.length) (hb : bstr (shape.drop (shape.length - xs.length)) xs ys = some L) : laws_lwPlaces.f 5000000 xs ys o shape (List.replicate (shape.length - xs.length) 0 ++ L) o 2 0 [] [] 0 0 [] = some true := by
 obtain ⟨hv', hd⟩ := vv_broad hv hg hl hb
 refine lw_f hv' (fun h => absurd h (by decide)) ?_
 intro x F k' hx hr hin hbd hF hk'
 have hJl := inb_len hin
 have h4 := hg.1
 have hyl := hv.2.1
 have hw : wrap64 o = o := w_id (by have := hv.2.2.1; omega) (by have := hv.2.2.2.1; omega)
 refine Eq.mp (by rw [hw]; rfl) (pl1_2 (ys := ys) hx hF hJl h4 hl hyl xs.length 0 k' o (by omega) (by omega) ⟨?_⟩)
 rw [hr]
 have hlb : ((dig shape x).drop (shape.length - xs.length)).length = xs.length := by simp; omega
 have e : sm 0 xs.length (fun j => (if xs.getD j 0 = 1 then 0 else (dig shape x).getD (shape.length - xs.length + j) 0) * ys.getD j 0) = dot (bj xs ((dig shape x).drop (shape.length - xs.length))) ys := by
  rw [dot_sm _ _ (by rw [bj_len _ _ hlb]; omega), bj_len _ _ hlb]
  refine sm_congr _ _ fun j h1 h2 => ?_
  rw [bj_get _ _ _ hlb (by omega)]
  have e2 : ((dig shape x).drop (shape.length - xs.length)).getD j 0 = (dig shape x).getD (shape.length - xs.length + j) 0 := by
   rw [List.getD_eq_getElem?_getD, List.getElem?_drop, List.getD_eq_getElem?_getD]
  rw [e2]
 rw [e, ← hd _ hin, w_small hbd]
end Go.Proofs.Ytpmdgmnpkdoamaa.DFnViews
