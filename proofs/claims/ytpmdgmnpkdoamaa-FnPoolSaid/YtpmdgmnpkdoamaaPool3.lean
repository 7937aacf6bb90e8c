/- Proved here: the pool's blocks as a list of sizes, each live or free: what take and give make of it. Condition: the pool lies as told. -/
import Derived.Test.YtpmdgmnpkdoamaaPool2
namespace Go.Proofs.Ytpmdgmnpkdoamaa.Pl
open Go Go.RowKit Go.Shelf Go.Sort Go.Proofs.YtpmdgmnpkdoamaaW.PrintWords
set_option linter.unusedVariables false
set_option linter.unusedSimpArgs false
/-- The bytes that are live. -/
def liveOf (bs : List (Nat × Bool)) : Int := (bs.map fun b => if b.2 = true then (b.1 : Int) else 0).sum
structure IsPool (w0 W : World) (t p m : Nat) (bud : Int) (bs : List (Nat × Bool)) (B : Value) (cells : List Value) (G : Int → Option Value) : Prop where
  hp : W.heap[p]? = some (.cells #[.int .i32 0, .int .u32 0, .int .i64 bud, B, .map (some m), .int .i64 (liveOf bs)] 127 (0, 0))
  hp0 : w0.heap.size ≤ p
  hm0 : w0.heap.size ≤ m
  hb : Below w0.heap.size w0 W
  ht : bs.length ≤ t
  hB : W.ownsRow w0.heap.size 142 2 B bs.length cells
  hc : ∀ (i r : Nat) (l : Bool), bs[i]? = some (r, l) → 16 ≤ r ∧ r ≤ 65536 ∧ ∃ b Z, cells[i * 2]? = some (.slice (some ⟨b, 0, none⟩) r r) ∧ cells[i * 2 + 1]? = some (.bool l) ∧ w0.heap.size ≤ b ∧ W.heap[b]? = some (.cells Z 5 (0, 0)) ∧ Z.size = r
  hD : Dict W m G
  hG : ∀ (q : Int) v, G q = some v → ∃ L : List Int, 0 < L.length ∧ L.length ≤ t ∧ W.ownsRow w0.heap.size 3 1 v L.length (L.map (Value.int .i64)) ∧ ∀ i : Int, i ∈ L ↔ ∃ j r : Nat, i = (j : Int) ∧ (r : Int) = q ∧ bs[j]? = some (r, false)
  hA : ∀ q v q' u, G q = some v → G q' = some u → q ≠ q' → v.ownBlock ≠ u.ownBlock
  hF : ∀ i r : Nat, bs[i]? = some (r, false) → G (r : Int) ≠ none
theorem live_append (bs : List (Nat × Bool)) (r : Nat) : liveOf (bs ++ [(r, true)]) = liveOf bs + r := by simp [liveOf]
theorem live_nonneg : ∀ bs : List (Nat × Bool), 0 ≤ liveOf bs
  | [] => by simp [liveOf]
  | b :: bs => by
    have := live_nonneg bs
    simp only [liveOf, List.map_cons, List.sum_cons] at this ⊢
    split <;> omega
theorem live_set : ∀ (bs : List (Nat × Bool)) (i r : Nat) (l l' : Bool), bs[i]? = some (r, l) → liveOf (bs.set i (r, l')) = liveOf bs - (if l = true then (r : Int) else 0) + (if l' = true then (r : Int) else 0)
  | [], i, r, l, l', h => by simp at h
  | b :: bs, 0, r, l, l', h => by
    obtain rfl : b = (r, l) := by simpa using h
    simp only [List.set_cons_zero, liveOf, List.map_cons, List.sum_cons]
    omega
  | b :: bs, i + 1, r, l, l', h => by
    have := live_set bs i r l l' (by simpa using h)
    simp only [List.set_cons_succ, liveOf, List.map_cons, List.sum_cons] at this ⊢
    omega
theorem live_le : ∀ bs : List (Nat × Bool), (∀ b ∈ bs, b.1 ≤ 65536) → liveOf bs ≤ 65536 * (bs.length : Int)
  | [], _ => by simp [liveOf]
  | b :: bs, h => by
    have := live_le bs (fun x hx => h x (by simp [hx]))
    have hb := h b (by simp)
    simp only [liveOf, List.map_cons, List.sum_cons, List.length_cons] at this ⊢
    split <;> omega
theorem IsPool.bound {w0 W : World} {t p m : Nat} {bud : Int} {bs : List (Nat × Bool)} {B : Value} {cells : List Value} {G : Int → Option Value} (h : IsPool w0 W t p m bud bs B cells G) : liveOf bs ≤ 65536 * (t : Int) := by
  have := live_le bs (fun b hb => by
    obtain ⟨i, hi⟩ := List.mem_iff_getElem?.1 hb
    exact (h.hc i b.1 b.2 hi).2.1)
  have := h.ht
  omega
theorem cur_of {w : World} {base e n g cap : Nat} {xs : List Value} (h : w.ownsRow base e 2 (.slice (some ⟨g, 0, none⟩) n cap) n xs) : base ≤ g ∧ ∃ cur, w.heap[g]? = some (.cells cur e (0, 0)) ∧ n ≤ cap ∧ cap ≤ maxLen ∧ cur.size = cap * 2 ∧ cur.toList.take (n * 2) = xs ∧ ∀ j, j < n * 2 → cur[j]? = xs[j]? := by
  rcases h.2 with ⟨e, _⟩ | ⟨g', cap', cur, e, hb, hcs, h1, h2, h3, h4⟩
  · cases e
  · simp only [Value.slice.injEq, Option.some.injEq, Addr.mk.injEq, and_true, true_and] at e
    obtain ⟨rfl, rfl⟩ := e
    refine ⟨hb, cur, hcs, h1, h2, h3, h4, fun j hj => ?_⟩
    rw [← h4, List.getElem?_take, if_pos hj, Array.getElem?_toList]
/-- One cell of an own row is another. -/
theorem own_cell {w w' : World} {base e n g cap : Nat} {xs : List Value} {cur : Array Value} {j : Nat} {u : Value} (h : w.ownsRow base e 2 (.slice (some ⟨g, 0, none⟩) n cap) n xs) (hg : w.heap[g]? = some (.cells cur e (0, 0))) (hg' : w'.heap[g]? = some (.cells (cur.setIfInBounds j u) e (0, 0))) :
    w'.ownsRow base e 2 (.slice (some ⟨g, 0, none⟩) n cap) n (xs.set j u) := by
  obtain ⟨hb, cur', hc, h1, h2, h3, h4, _⟩ := cur_of h
  rw [hg] at hc
  injection hc with hc
  injection hc with hc _ _
  subst hc
  refine ⟨by simpa using h.1, .inr ⟨g, cap, _, rfl, hb, hg', h1, h2, by simpa using h3, ?_⟩⟩
  rw [Array.toList_setIfInBounds, ← h4, List.take_set]
/-- A block given back. -/
theorem gave_pool {w0 W w' : World} {t p m g cap n r : Nat} {bud : Int} {bs : List (Nat × Bool)} {cells : List Value} {G : Int → Option Value} {cur : Array Value} {L : List Int} {v : Value}
    (h : IsPool w0 W t p m bud bs (.slice (some ⟨g, 0, none⟩) bs.length cap) cells G) (ht : t ≤ 2000) (hn : bs[n]? = some (r, true)) (hg : W.heap[g]? = some (.cells cur 142 (0, 0))) (hv : v = (G r).getD (.slice none 0 0))
    (hL : W.ownsRow w0.heap.size 3 1 v L.length (L.map (Value.int .i64))) (hLt : L.length ≤ t) (hLm : ∀ i : Int, i ∈ L ↔ ∃ j r' : Nat, i = (j : Int) ∧ (r' : Int) = r ∧ bs[j]? = some (r', false))
    (hw : Gave w0 W w' p m g cap r bs.length bud (liveOf bs) n cur G L v) : ∃ cells' G', IsPool w0 w' (t + 1) p m bud (bs.set n (r, false)) (.slice (some ⟨g, 0, none⟩) bs.length cap) cells' G' := by
  obtain ⟨v1, q1, q2, q3, q4, q5, q6, q7, q8⟩ := hw
  have hnl : n < bs.length := (List.getElem?_eq_some_iff.1 hn).1
  have hr := h.hc n r true hn
  have hlv : wrap64 (liveOf bs - r) = liveOf (bs.set n (r, false)) := by
    rw [live_set bs n r true false hn]
    have h1 := h.bound
    have h2 := live_nonneg bs
    have := IntKind.wrap_i64 (liveOf bs - r)
    unfold wrap64
    simp
    omega
  have hvk : ∀ c, v.ownBlock = some c → ∃ cs, W.heap[c]? = some (.cells cs 3 (0, 0)) := own3_of hL
  have keep : ∀ {i : Nat} {cs : Array Value} {ty : TypeId}, W.heap[i]? = some (.cells cs ty (0, 0)) → i ≠ p → i ≠ g → some i ≠ v.ownBlock → w'.heap[i]? = W.heap[i]? := by
    intro i cs ty hi ip ig iv
    refine q6 i (blk_lt hi) ip ig ?_ iv
    rintro rfl
    obtain ⟨es, ck, hm, _⟩ := h.hD
    rw [hi] at hm
    cases hm
  have hnn : ((n : Int)).toNat = n := Int.toNat_natCast n
  rw [hnn] at q2
  have hB' := own_cell (w' := w') h.hB hg q2
  obtain ⟨g1, cap1, rfl⟩ := own_succ q4
  refine ⟨_, _, ?_, h.hp0, h.hm0, q8, by rw [List.length_set]; exact Nat.le_succ_of_le h.ht, by rw [List.length_set]; exact hB', ?_, q3, ?_, ?_, ?_⟩
  · rw [← hlv]; exact q1
  · intro i r' l hi
    by_cases e : i = n
    · subst e
      rw [List.getElem?_set_self hnl] at hi
      injection hi with hi
      injection hi with e1 e2
      subst e1 e2
      obtain ⟨a1, a2, b, Z, c1, c2, c3, c4, c5⟩ := hr
      have hcl := h.hB.1
      refine ⟨a1, a2, b, Z, ?_, ?_, c3, ?_, c5⟩
      · rw [List.getElem?_set_ne (by omega)]; exact c1
      · rw [List.getElem?_set_self (by omega)]
      · rw [keep c4 (blk_ne c4 h.hp (by decide)) (blk_ne c4 hg (by decide)) (fun e => by
          obtain ⟨cs, hcs⟩ := hvk b e.symm
          exact blk_ne c4 hcs (by decide) rfl)]
        exact c4
    · rw [List.getElem?_set_ne (fun x => e x.symm)] at hi
      obtain ⟨a1, a2, b, Z, c1, c2, c3, c4, c5⟩ := h.hc i r' l hi
      refine ⟨a1, a2, b, Z, ?_, ?_, c3, ?_, c5⟩
      · rw [List.getElem?_set_ne (by omega)]; exact c1
      · rw [List.getElem?_set_ne (by omega)]; exact c2
      · rw [keep c4 (blk_ne c4 h.hp (by decide)) (blk_ne c4 hg (by decide)) (fun e => by
          obtain ⟨cs, hcs⟩ := hvk b e.symm
          exact blk_ne c4 hcs (by decide) rfl)]
        exact c4
  · intro q u hq
    by_cases e : q = r
    · subst e
      rw [if_pos rfl] at hq
      obtain rfl := Option.some.inj hq
      refine ⟨L ++ [(n : Int)], by simp, by simp; omega, ?_, fun i => ?_⟩
      · simpa using q4
      · rw [List.mem_append, List.mem_singleton, hLm i]
        constructor
        · rintro (⟨j, r', rfl, hr', hj⟩ | rfl)
          · refine ⟨j, r', rfl, hr', ?_⟩
            rw [List.getElem?_set_ne]
            · exact hj
            · rintro rfl
              rw [hn] at hj
              cases hj
          · exact ⟨n, r, rfl, rfl, List.getElem?_set_self hnl⟩
        · rintro ⟨j, r', rfl, hr', hj⟩
          by_cases e : j = n
          · subst e; exact .inr rfl
          · rw [List.getElem?_set_ne (fun x => e x.symm)] at hj
            exact .inl ⟨j, r', rfl, hr', hj⟩
    · rw [if_neg e] at hq
      obtain ⟨L2, l1, l2, l3, l4⟩ := h.hG q u hq
      refine ⟨L2, l1, by omega, ?_, fun i => ?_⟩
      · refine own_move l3 (fun c hc => ?_)
        obtain ⟨cs, hcs⟩ := own3_of l3 c hc
        refine keep hcs (blk_ne hcs h.hp (by decide)) (blk_ne hcs hg (by decide)) ?_
        intro e2
        cases hGr : G r with
        | none => rw [hv, hGr] at e2; cases e2
        | some v' =>
          have : v = v' := by rw [hv, hGr]; rfl
          subst this
          exact h.hA q u r v hq hGr e (by rw [hc, ← e2])
      · rw [l4 i]
        constructor
        · rintro ⟨j, r', rfl, hr', hj⟩
          refine ⟨j, r', rfl, hr', ?_⟩
          rw [List.getElem?_set_ne]
          · exact hj
          · rintro rfl
            rw [hn] at hj
            cases hj
        · rintro ⟨j, r', rfl, hr', hj⟩
          refine ⟨j, r', rfl, hr', ?_⟩
          by_cases e3 : j = n
          · subst e3
            rw [List.getElem?_set_self hnl] at hj
            injection hj with hj
            injection hj with hj _
            subst hj
            exact absurd hr'.symm e
          · rw [List.getElem?_set_ne (fun x => e3 x.symm)] at hj
            exact hj
  · have apart : ∀ q u, q ≠ (r : Int) → G q = some u → u.ownBlock ≠ (Value.slice (some ⟨g1, 0, none⟩) (L.length + 1) cap1).ownBlock := by
      intro q u hq hu
      obtain ⟨L2, l1, l2, l3, l4⟩ := h.hG q u hu
      rcases q5 with e | ⟨c, hc, hlt⟩
      · rw [e]
        cases hGr : G r with
        | none =>
          have : v = .slice none 0 0 := by rw [hv, hGr]; rfl
          rw [this] at e
          cases e
        | some v' =>
          have : v = v' := by rw [hv, hGr]; rfl
          subst this
          exact h.hA q u r v hu hGr hq
      · intro e
        have := (l3.lt c (e.trans hc)).2
        omega
    intro q u q' u' hq hq' hne
    by_cases e : q = r
    · subst e
      rw [if_pos rfl] at hq
      rw [if_neg (fun x => hne x.symm)] at hq'
      obtain rfl := Option.some.inj hq
      exact fun x => apart q' u' (fun y => hne y.symm) hq' x.symm
    · rw [if_neg e] at hq
      by_cases e' : q' = r
      · subst e'
        rw [if_pos rfl] at hq'
        obtain rfl := Option.some.inj hq'
        exact apart q u e hq
      · rw [if_neg e'] at hq'
        exact h.hA q u q' u' hq hq' hne
  · intro i r' hi
    by_cases e : (r' : Int) = r
    · rw [if_pos e]; simp
    · rw [if_neg e]
      by_cases e3 : i = n
      · subst e3
        rw [List.getElem?_set_self hnl] at hi
        injection hi with hi
        injection hi with hi _
        subst hi
        exact absurd rfl e
      · rw [List.getElem?_set_ne (fun x => e3 x.symm)] at hi
        exact h.hF i r' hi
theorem IsPool.mapne {w0 W : World} {t p m : Nat} {bud : Int} {bs : List (Nat × Bool)} {B : Value} {cells : List Value} {G : Int → Option Value} (h : IsPool w0 W t p m bud bs B cells G) {i : Nat} {cs : Array Value} {ty : TypeId} (hi : W.heap[i]? = some (.cells cs ty (0, 0))) : i ≠ m := by
  rintro rfl
  obtain ⟨es, ck, hm, _⟩ := h.hD
  rw [hi] at hm
  cases hm
/-- No free block of a size: the map has none. -/
theorem IsPool.noFree {w0 W : World} {t p m : Nat} {bud : Int} {bs : List (Nat × Bool)} {B : Value} {cells : List Value} {G : Int → Option Value} (h : IsPool w0 W t p m bud bs B cells G) {r : Nat} (hr : ∀ i : Nat, bs[i]? ≠ some (r, false)) : G (r : Int) = none := by
  cases hg : G (r : Int) with
  | none => rfl
  | some v =>
    obtain ⟨L, l1, _, _, l4⟩ := h.hG _ v hg
    cases L with
    | nil => simp at l1
    | cons x L =>
      obtain ⟨j, r', _, e, hj⟩ := (l4 x).1 (by simp)
      have : r' = r := by omega
      subst this
      exact absurd hj (hr j)
/-- A new block. -/
theorem tookNew_pool {w0 W w' : World} {t p m r : Nat} {bud : Int} {bs : List (Nat × Bool)} {B : Value} {cells : List Value} {G : Int → Option Value} (h : IsPool w0 W t p m bud bs B cells G) (ht : t ≤ 2000) (h0 : 16 ≤ r) (h1 : r ≤ 65536)
    (hr : ∀ i : Nat, bs[i]? ≠ some (r, false)) (hw : TookNew w0 W w' p m bs.length r bud (liveOf bs) B cells) : ∃ B' cells', IsPool w0 w' (t + 1) p m bud (bs ++ [(r, true)]) B' cells' G := by
  obtain ⟨v1, b, Z, q1, q2, q3, q4, q5, q6, q7, q8⟩ := hw
  have hlv : wrap64 (liveOf bs + r) = liveOf (bs ++ [(r, true)]) := by
    rw [live_append]
    have h1 := h.bound
    have h2 := live_nonneg bs
    have := IntKind.wrap_i64 (liveOf bs + r)
    unfold wrap64
    omega
  have hBk := own142_of h.hB
  have keep : ∀ {i : Nat} {cs : Array Value} {ty : TypeId}, W.heap[i]? = some (.cells cs ty (0, 0)) → ty ≠ 127 → ty ≠ 142 → w'.heap[i]? = W.heap[i]? := by
    intro i cs ty hi h127 h142
    refine q6 i (blk_lt hi) (blk_ne hi h.hp h127) ?_
    intro e
    obtain ⟨c2, hc2⟩ := hBk i e.symm
    exact blk_ne hi hc2 h142 rfl
  have hcl := h.hB.1
  have hpm : m ≠ p := fun e => h.mapne h.hp e.symm
  have hmB : some m ≠ B.ownBlock := by
    intro e
    obtain ⟨c2, hc2⟩ := hBk m e.symm
    exact h.mapne hc2 rfl
  refine ⟨v1, _, ?_, h.hp0, h.hm0, q8, by simp; have := h.ht; omega, by simpa using q2, ?_, h.hD.move (q6 m h.hD.lt hpm hmB), ?_, h.hA, ?_⟩
  · rw [← hlv]; exact q1
  · intro i r' l hi
    by_cases e : i < bs.length
    · rw [List.getElem?_append_left e] at hi
      obtain ⟨a1, a2, b', Z', c1, c2, c3, c4, c5⟩ := h.hc i r' l hi
      exact ⟨a1, a2, b', Z', by rw [List.getElem?_append_left (by omega)]; exact c1, by rw [List.getElem?_append_left (by omega)]; exact c2, c3, (keep c4 (by decide) (by decide)).trans c4, c5⟩
    · have e2 : i = bs.length := by
        have := (List.getElem?_eq_some_iff.1 hi).1
        simp at this
        omega
      subst e2
      rw [List.getElem?_append_right (Nat.le_refl _), Nat.sub_self] at hi
      simp only [List.getElem?_cons_zero, Option.some.injEq, Prod.mk.injEq] at hi
      obtain ⟨rfl, rfl⟩ := hi
      refine ⟨h0, h1, b, Z, ?_, ?_, by have := h.hb.size; omega, q3, q4⟩
      · rw [List.getElem?_append_right (by omega), hcl, Nat.sub_self]; rfl
      · rw [List.getElem?_append_right (by omega), hcl, show bs.length * 2 + 1 - bs.length * 2 = 1 by omega]; rfl
  · intro q v hq
    obtain ⟨L, l1, l2, l3, l4⟩ := h.hG q v hq
    refine ⟨L, l1, by omega, own_move l3 (fun c hc => ?_), fun i => ?_⟩
    · obtain ⟨cs, hcs⟩ := own3_of l3 c hc
      exact keep hcs (by decide) (by decide)
    · rw [l4 i]
      constructor
      · rintro ⟨j, r', rfl, hr', hj⟩
        exact ⟨j, r', rfl, hr', by rw [List.getElem?_append_left (List.getElem?_eq_some_iff.1 hj).1]; exact hj⟩
      · rintro ⟨j, r', rfl, hr', hj⟩
        by_cases e : j < bs.length
        · rw [List.getElem?_append_left e] at hj
          exact ⟨j, r', rfl, hr', hj⟩
        · have e2 : j = bs.length := by
            have := (List.getElem?_eq_some_iff.1 hj).1
            simp at this
            omega
          subst e2
          rw [List.getElem?_append_right (Nat.le_refl _), Nat.sub_self] at hj
          simp at hj
  · intro i r' hi
    by_cases e : i < bs.length
    · rw [List.getElem?_append_left e] at hi
      exact h.hF i r' hi
    · have e2 : i = bs.length := by
        have := (List.getElem?_eq_some_iff.1 hi).1
        simp at this
        omega
      subst e2
      rw [List.getElem?_append_right (Nat.le_refl _), Nat.sub_self] at hi
      simp at hi
/-- A free block taken again. -/
theorem tookOld_pool {w0 W w' : World} {t p m g gcap c cap b n r : Nat} {bud : Int} {bs : List (Nat × Bool)} {cells : List Value} {G : Int → Option Value} {cur : Array Value} {L L' : List Int}
    (h : IsPool w0 W t p m bud bs (.slice (some ⟨g, 0, none⟩) bs.length gcap) cells G) (ht : t ≤ 2000) (hn : bs[n]? = some (r, false)) (hg : W.heap[g]? = some (.cells cur 142 (0, 0))) (hGr : G (r : Int) = some (.slice (some ⟨c, 0, none⟩) L.length cap))
    (hLt : L.length ≤ t) (hL : W.ownsRow w0.heap.size 3 1 (.slice (some ⟨c, 0, none⟩) L.length cap) L.length (L.map (Value.int .i64))) (hLm : ∀ i : Int, i ∈ L ↔ ∃ j r' : Nat, i = (j : Int) ∧ (r' : Int) = r ∧ bs[j]? = some (r', false)) (hL' : L' = L.filter fun x => !(x == (n : Int)))
    (hb1 : cells[n * 2]? = some (.slice (some ⟨b, 0, none⟩) r r)) (hbW : ∃ Z, W.heap[b]? = some (.cells Z 5 (0, 0)))
    (hw : TookOld w0 W w' p m g c cap b bs.length gcap r n bud (liveOf bs) cur G L') : ∃ cells' G', IsPool w0 w' (t + 1) p m bud (bs.set n (r, true)) (.slice (some ⟨g, 0, none⟩) bs.length gcap) cells' G' := by
  obtain ⟨Z', q1, q2, q3, q4, q5, q6, q7, q8, q9⟩ := hw
  have hnl : n < bs.length := (List.getElem?_eq_some_iff.1 hn).1
  have hr := h.hc n r false hn
  have hlv : wrap64 (liveOf bs + r) = liveOf (bs.set n (r, true)) := by
    rw [live_set bs n r false true hn]
    have h1 := h.bound
    have h2 := live_nonneg bs
    have := IntKind.wrap_i64 (liveOf bs + r)
    unfold wrap64
    simp
    omega
  obtain ⟨cs0, hcs0⟩ := own3_of hL c rfl
  obtain ⟨Zb, hZb⟩ := hbW
  rw [show ((n : Int)).toNat = n from Int.toNat_natCast n] at q2
  have hB' := own_cell (w' := w') h.hB hg q2
  have hmem : ∀ i : Int, i ∈ L' ↔ i ∈ L ∧ i ≠ n := by
    intro i
    rw [hL', List.mem_filter]
    simp
  have hlen : L'.length ≤ L.length := by rw [hL']; exact List.length_filter_le _ _
  -- a block of bytes keeps its size
  have keep5 : ∀ {i : Nat} {Z : Array Value}, W.heap[i]? = some (.cells Z 5 (0, 0)) → (i = b → Z.size = r) → ∃ Z2, w'.heap[i]? = some (.cells Z2 5 (0, 0)) ∧ Z2.size = Z.size := by
    intro i Z hi hib
    by_cases e : i = b
    · subst e
      exact ⟨Z', q3, by rw [q4, hib rfl]⟩
    · exact ⟨Z, (q7 i (blk_lt hi) (blk_ne hi h.hp (by decide)) (blk_ne hi hg (by decide)) e (blk_ne hi hcs0 (by decide)) (h.mapne hi)).trans hi, rfl⟩
  have hbsz : Zb.size = r := by
    obtain ⟨a1, a2, b', Z2, c1, c2, c3, c4, c5⟩ := hr
    rw [hb1] at c1
    simp only [Option.some.injEq, Value.slice.injEq, Addr.mk.injEq, and_true] at c1
    subst c1
    rw [hZb] at c4
    injection c4 with c4
    injection c4 with c4 _ _
    rw [c4]; exact c5
  have bsz : ∀ {i : Nat} {Z : Array Value}, W.heap[i]? = some (.cells Z 5 (0, 0)) → i = b → Z.size = r := by
    rintro i Z hi rfl
    rw [hZb] at hi
    injection hi with hi
    injection hi with hi _ _
    rw [← hi]; exact hbsz
  refine ⟨_, _, ?_, h.hp0, h.hm0, q9, by rw [List.length_set]; exact Nat.le_succ_of_le h.ht, by rw [List.length_set]; exact hB', ?_, q5, ?_, ?_, ?_⟩
  · rw [← hlv]; exact q1
  · intro i r' l hi
    have hcl := h.hB.1
    by_cases e : i = n
    · subst e
      rw [List.getElem?_set_self hnl] at hi
      injection hi with hi
      injection hi with e1 e2
      subst e1 e2
      obtain ⟨a1, a2, b', Z, c1, c2, c3, c4, c5⟩ := hr
      obtain ⟨Z2, z1, z2⟩ := keep5 c4 (bsz c4)
      refine ⟨a1, a2, b', Z2, ?_, ?_, c3, z1, z2.trans c5⟩
      · rw [List.getElem?_set_ne (by omega)]; exact c1
      · rw [List.getElem?_set_self (by omega)]
    · rw [List.getElem?_set_ne (fun x => e x.symm)] at hi
      obtain ⟨a1, a2, b', Z, c1, c2, c3, c4, c5⟩ := h.hc i r' l hi
      obtain ⟨Z2, z1, z2⟩ := keep5 c4 (bsz c4)
      refine ⟨a1, a2, b', Z2, ?_, ?_, c3, z1, z2.trans c5⟩
      · rw [List.getElem?_set_ne (by omega)]; exact c1
      · rw [List.getElem?_set_ne (by omega)]; exact c2
  · intro q u hq
    by_cases e : q = r
    · subst e
      rw [if_pos rfl] at hq
      by_cases hl : L'.length = 0
      · rw [if_pos hl] at hq; cases hq
      · rw [if_neg hl] at hq
        obtain rfl := Option.some.inj hq
        refine ⟨L', by omega, by omega, q6, fun i => ?_⟩
        rw [hmem i, hLm i]
        constructor
        · rintro ⟨⟨j, r', rfl, hr', hj⟩, hne⟩
          exact ⟨j, r', rfl, hr', by rw [List.getElem?_set_ne (by omega)]; exact hj⟩
        · rintro ⟨j, r', rfl, hr', hj⟩
          by_cases e : j = n
          · subst e
            rw [List.getElem?_set_self hnl] at hj
            simp at hj
          · rw [List.getElem?_set_ne (fun x => e x.symm)] at hj
            exact ⟨⟨j, r', rfl, hr', hj⟩, by omega⟩
    · rw [if_neg e] at hq
      obtain ⟨L2, l1, l2, l3, l4⟩ := h.hG q u hq
      refine ⟨L2, l1, by omega, own_move l3 (fun c' hc' => ?_), fun i => ?_⟩
      · obtain ⟨cs, hcs⟩ := own3_of l3 c' hc'
        refine q7 c' (blk_lt hcs) (blk_ne hcs h.hp (by decide)) (blk_ne hcs hg (by decide)) (blk_ne hcs hZb (by decide)) ?_ (h.mapne hcs)
        rintro rfl
        exact h.hA q u r _ hq hGr e hc'
      · rw [l4 i]
        constructor
        · rintro ⟨j, r', rfl, hr', hj⟩
          refine ⟨j, r', rfl, hr', ?_⟩
          by_cases e3 : j = n
          · subst e3
            rw [hn] at hj
            injection hj with hj
            injection hj with hj _
            subst hj
            exact absurd hr'.symm e
          · rw [List.getElem?_set_ne (fun x => e3 x.symm)]; exact hj
        · rintro ⟨j, r', rfl, hr', hj⟩
          refine ⟨j, r', rfl, hr', ?_⟩
          by_cases e3 : j = n
          · subst e3
            rw [List.getElem?_set_self hnl] at hj
            simp at hj
          · rw [List.getElem?_set_ne (fun x => e3 x.symm)] at hj
            exact hj
  · intro q u q' u' hq hq' hne
    by_cases e : q = r
    · subst e
      rw [if_pos rfl] at hq
      rw [if_neg (fun x => hne x.symm)] at hq'
      by_cases hl : L'.length = 0
      · rw [if_pos hl] at hq; cases hq
      · rw [if_neg hl] at hq
        obtain rfl := Option.some.inj hq
        exact (show (Value.slice (some ⟨c, 0, none⟩) L.length cap).ownBlock ≠ u'.ownBlock from h.hA _ _ q' u' hGr hq' hne)
    · rw [if_neg e] at hq
      by_cases e' : q' = r
      · subst e'
        rw [if_pos rfl] at hq'
        by_cases hl : L'.length = 0
        · rw [if_pos hl] at hq'; cases hq'
        · rw [if_neg hl] at hq'
          obtain rfl := Option.some.inj hq'
          exact (show u.ownBlock ≠ (Value.slice (some ⟨c, 0, none⟩) L.length cap).ownBlock from h.hA q u _ _ hq hGr hne)
      · rw [if_neg e'] at hq'
        exact h.hA q u q' u' hq hq' hne
  · intro i r' hi
    have e3 : i ≠ n := by
      rintro rfl
      rw [List.getElem?_set_self hnl] at hi
      simp at hi
    rw [List.getElem?_set_ne (fun x => e3 x.symm)] at hi
    by_cases e : (r' : Int) = r
    · rw [if_pos e]
      have hi' : (i : Int) ∈ L' := (hmem i).2 ⟨(hLm i).2 ⟨i, r', rfl, e, hi⟩, by omega⟩
      have hl : L'.length ≠ 0 := by
        intro x
        rw [List.length_eq_zero_iff.1 x] at hi'
        cases hi'
      rw [if_neg hl]
      simp
    · rw [if_neg e]
      exact h.hF i r' hi
end Go.Proofs.Ytpmdgmnpkdoamaa.Pl
