/- Proved here: what take and give answer, as functions of the blocks' list. Condition: the pool lies as told. -/
import Derived.Test.YtpmdgmnpkdoamaaPool3
namespace Go.Proofs.Ytpmdgmnpkdoamaa.Pl
open Go Go.RowKit Go.Shelf Go.Sort Go.Proofs.YtpmdgmnpkdoamaaW.PrintWords
set_option linter.unusedVariables false
set_option linter.unusedSimpArgs false
def takeF (bs : List (Nat × Bool)) (bud r : Int) : List (Nat × Bool) × Int × Int :=
  if r < 0 then (bs, -1, 16) else if bud < liveOf bs + r then (bs, -1, 17) else
    match bs.findIdx? (fun b => b == (r.toNat, false)) with
    | some i => (bs.set i (r.toNat, true), (i : Int), 0)
    | none => (bs ++ [(r.toNat, true)], (bs.length : Int), 0)
def giveF (bs : List (Nat × Bool)) (n : Int) : List (Nat × Bool) × Int × Int :=
  if n < 0 then (bs, -1, 15) else
    match bs[n.toNat]? with
    | some (r, true) => (bs.set n.toNat (r, false), n, 0)
    | _ => (bs, -1, 15)
theorem foldl_min : ∀ (l : List Int) (a : Int), l.foldl min a ≤ a ∧ (∀ x ∈ l, l.foldl min a ≤ x) ∧ (l.foldl min a = a ∨ l.foldl min a ∈ l)
  | [], a => ⟨Int.le_refl _, by simp, .inl rfl⟩
  | y :: l, a => by
    obtain ⟨h1, h2, h3⟩ := foldl_min l (min a y)
    simp only [List.foldl_cons]
    have e1 : min a y ≤ a := Int.min_le_left _ _
    have e2 : min a y ≤ y := Int.min_le_right _ _
    refine ⟨by omega, fun x hx => ?_, ?_⟩
    · rcases List.mem_cons.1 hx with rfl | hx
      · omega
      · exact h2 x hx
    · rcases h3 with h3 | h3
      · rw [h3]
        by_cases c : a ≤ y
        · left; omega
        · right
          have : min a y = y := by omega
          rw [this]; simp
      · exact .inr (List.mem_cons_of_mem _ h3)
theorem minOf_mem {L : List Int} (h : 0 < L.length) : Lib.minOf L ∈ L ∧ ∀ x ∈ L, Lib.minOf L ≤ x := by
  cases L with
  | nil => simp at h
  | cons y L =>
    obtain ⟨h1, h2, h3⟩ := foldl_min (y :: L) y
    refine ⟨?_, h2⟩
    rcases h3 with h3 | h3
    · unfold Lib.minOf
      rw [List.headD_cons, h3]; simp
    · exact h3
/-- What take and give leave as it was: all but the pool's own. -/
def Other (W w' : World) : Prop := W.heap.size ≤ w'.heap.size ∧ ∀ (i : Nat) (cs : Array Value) (ty : TypeId), W.heap[i]? = some (.cells cs ty (0, 0)) → ty ≠ 127 → ty ≠ 142 → ty ≠ 5 → ty ≠ 3 → w'.heap[i]? = W.heap[i]?
theorem IsPool.same {w0 W w' : World} {t p m : Nat} {bud : Int} {bs : List (Nat × Bool)} {B : Value} {cells : List Value} {G : Int → Option Value} (h : IsPool w0 W t p m bud bs B cells G) (hh : ∀ i : Nat, w'.heap[i]? = W.heap[i]?) (hB : Below w0.heap.size w0 w') : IsPool w0 w' (t + 1) p m bud bs B cells G where
  hp := (hh p).trans h.hp
  hp0 := h.hp0
  hm0 := h.hm0
  hb := hB
  ht := Nat.le_succ_of_le h.ht
  hB := own_move h.hB (fun c _ => hh c)
  hc := fun i r l hi => by
    obtain ⟨a1, a2, b, Z, c1, c2, c3, c4, c5⟩ := h.hc i r l hi
    exact ⟨a1, a2, b, Z, c1, c2, c3, (hh b).trans c4, c5⟩
  hD := h.hD.move (hh m)
  hG := fun q v hq => by
    obtain ⟨L, l1, l2, l3, l4⟩ := h.hG q v hq
    exact ⟨L, l1, by omega, own_move l3 (fun c _ => hh c), l4⟩
  hA := h.hA
  hF := h.hF
theorem same_size {W w' : World} (hh : ∀ i : Nat, w'.heap[i]? = W.heap[i]?) : W.heap.size ≤ w'.heap.size := by
  rcases Nat.lt_or_ge w'.heap.size W.heap.size with h | h
  · have := hh w'.heap.size
    rw [Array.getElem?_eq_none (Nat.le_refl _), Array.getElem?_eq_getElem h] at this
    cases this
  · exact h
theorem IsPool.form {w0 W : World} {t p m : Nat} {bud : Int} {bs : List (Nat × Bool)} {B : Value} {cells : List Value} {G : Int → Option Value} (h : IsPool w0 W t p m bud bs B cells G) : ∃ A cap, B = .slice A bs.length cap := by
  rcases h.hB.2 with ⟨e, hn⟩ | ⟨g, cap, cur, e, _⟩
  · exact ⟨none, 0, by rw [e, hn]⟩
  · exact ⟨_, _, e⟩
theorem IsPool.form2 {w0 W : World} {t p m : Nat} {bud : Int} {bs : List (Nat × Bool)} {B : Value} {cells : List Value} {G : Int → Option Value} (h : IsPool w0 W t p m bud bs B cells G) (h0 : 0 < bs.length) : ∃ g cap, B = .slice (some ⟨g, 0, none⟩) bs.length cap := by
  rcases h.hB.2 with ⟨_, hn⟩ | ⟨g, cap, cur, e, _⟩
  · omega
  · exact ⟨_, _, e⟩
/-- The list of the free blocks of a size. -/
theorem IsPool.list {w0 W : World} {t p m : Nat} {bud : Int} {bs : List (Nat × Bool)} {B : Value} {cells : List Value} {G : Int → Option Value} (h : IsPool w0 W t p m bud bs B cells G) (r : Nat) :
    ∃ L : List Int, L.length ≤ t ∧ W.ownsRow w0.heap.size 3 1 ((G r).getD (.slice none 0 0)) L.length (L.map (Value.int .i64)) ∧ ∀ i : Int, i ∈ L ↔ ∃ j r' : Nat, i = (j : Int) ∧ (r' : Int) = r ∧ bs[j]? = some (r', false) := by
  cases hg : G (r : Int) with
  | some v =>
    obtain ⟨L, l1, l2, l3, l4⟩ := h.hG _ v hg
    exact ⟨L, l2, l3, l4⟩
  | none =>
    refine ⟨[], by simp, World.ownsRow_nil _ _ _ _, fun i => ?_⟩
    constructor
    · intro x; cases x
    · rintro ⟨j, r', rfl, hr', hj⟩
      have : r' = r := by omega
      subst this
      exact absurd hg (h.hF j r' hj)
theorem give_pool {w0 W : World} {t p m : Nat} {bud n : Int} {bs : List (Nat × Bool)} {B : Value} {cells : List Value} {G : Int → Option Value} (h : IsPool w0 W t p m bud bs B cells G) (ht : t ≤ 2000) :
    Calls Try.prog 99 #[.pointer (some ⟨p, 0, none⟩), .int .i64 n] W fun e w' => e = .returned (.tuple #[.int .i64 (giveF bs n).2.1, .int .i64 (giveF bs n).2.2]) ∧ Other W w' ∧ ∃ B' cells' G', IsPool w0 w' (t + 1) p m bud (giveF bs n).1 B' cells' G' := by
  have ht2 := ht
  have miss : giveF bs n = (bs, -1, 15) → (n < 0 ∨ (bs.length : Int) ≤ n ∨ (0 ≤ n ∧ n < bs.length ∧ ∃ g cap cur, B = .slice (some ⟨g, 0, none⟩) bs.length cap ∧ W.heap[g]? = some (.cells cur 142 (0, 0)) ∧ cur[n.toNat * 2 + 1]? = some (.bool false))) →
      Calls Try.prog 99 #[.pointer (some ⟨p, 0, none⟩), .int .i64 n] W fun e w' => e = .returned (.tuple #[.int .i64 (giveF bs n).2.1, .int .i64 (giveF bs n).2.2]) ∧ Other W w' ∧ ∃ B' cells' G', IsPool w0 w' (t + 1) p m bud (giveF bs n).1 B' cells' G' := by
    intro hf hc
    obtain ⟨A, cap, rfl⟩ := h.form
    rw [hf]
    refine (give_miss h.hp (hc.imp id (Or.imp id ?_))).mono ?_
    · rintro ⟨a, b, g, cap', cur, e, c, d⟩
      simp only [Value.slice.injEq] at e
      exact ⟨a, b, g, cur, e.1, c, d⟩
    · rintro e w' ⟨rfl, rfl⟩
      have hh := lock_same h.hp rfl (.int .i32 1)
      exact ⟨rfl, ⟨same_size hh, fun i cs ty hi _ _ _ _ => hh i⟩, _, _, _, h.same hh ((h.hb.setCell h.hp0 _).setCell h.hp0 _)⟩
  by_cases c1 : n < 0
  · exact miss (by unfold giveF; rw [if_pos c1]) (.inl c1)
  · by_cases c2 : (bs.length : Int) ≤ n
    · refine miss ?_ (.inr (.inl c2))
      unfold giveF
      rw [if_neg c1, List.getElem?_eq_none (by omega)]
    · have hlt : n.toNat < bs.length := by omega
      obtain ⟨⟨r, l⟩, hn⟩ : ∃ x, bs[n.toNat]? = some x := ⟨_, List.getElem?_eq_getElem hlt⟩
      obtain ⟨g, cap, rfl⟩ := h.form2 (by omega)
      obtain ⟨hg0, cur, hg, _, _, _, _, hcur⟩ := cur_of h.hB
      obtain ⟨a1, a2, b, Z, d1, d2, d3, d4, d5⟩ := h.hc n.toNat r l hn
      have e1 := (hcur (n.toNat * 2) (by omega)).trans d1
      have e2 := (hcur (n.toNat * 2 + 1) (by omega)).trans d2
      cases l with
      | false => exact miss (by unfold giveF; rw [if_neg c1, hn]) (.inr (.inr ⟨by omega, by omega, g, cap, cur, rfl, hg, e2⟩))
      | true =>
        have hf : giveF bs n = (bs.set n.toNat (r, false), n, 0) := by unfold giveF; rw [if_neg c1, hn]
        rw [hf]
        obtain ⟨L, l1, l2, l3⟩ := h.list r
        have hvk := own3_of l2
        refine (give_hit (G := G) (L := L) h.hp hg e1 e2 (by omega) (by omega) (by have := h.ht; omega) a2 h.hD rfl l2 (by omega) h.hb h.hp0 hg0 h.hm0).mono ?_
        rintro e w' ⟨rfl, hw⟩
        have hn2 : ((n.toNat : Nat) : Int) = n := Int.toNat_of_nonneg (by omega)
        rw [← hn2] at hw
        obtain ⟨cells', G', hP⟩ := gave_pool h ht hn hg rfl l2 l1 l3 hw
        obtain ⟨v1, q1, q2, q3, q4, q5, q6, q7, q8⟩ := hw
        refine ⟨rfl, ⟨q7, fun i cs ty hi h1 h2 h3 h4 => q6 i (blk_lt hi) (blk_ne hi h.hp h1) (blk_ne hi hg h2) (h.mapne hi) ?_⟩, _, cells', G', hP⟩
        intro e
        obtain ⟨c2, hc2⟩ := hvk i e.symm
        exact blk_ne hi hc2 h4 rfl
theorem take_pool {w0 W : World} {t p m : Nat} {bud size r : Int} {bs : List (Nat × Bool)} {B : Value} {cells : List Value} {G : Int → Option Value} (h : IsPool w0 W t p m bud bs B cells G) (ht : t ≤ 2000) (hr : Round size r) (hrr : r < 0 ∨ (16 ≤ r ∧ r ≤ 65536)) :
    Calls Try.prog 98 #[.pointer (some ⟨p, 0, none⟩), .int .i64 size] W fun e w' => e = .returned (.tuple #[.int .i64 (takeF bs bud r).2.1, .int .i64 (takeF bs bud r).2.2]) ∧ Other W w' ∧ ∃ B' cells' G', IsPool w0 w' (t + 1) p m bud (takeF bs bud r).1 B' cells' G' := by
  have h2 := live_nonneg bs
  have h1 := h.bound
  by_cases c1 : r < 0
  · have hf : takeF bs bud r = (bs, -1, 16) := by unfold takeF; rw [if_pos c1]
    rw [hf]
    refine (take_low h.hp rfl hr c1).mono ?_
    rintro e w' ⟨rfl, q, rfl⟩
    have hh := lock_same h.hp rfl (.int .i32 1)
    exact ⟨rfl, ⟨same_size hh, fun i cs ty hi _ _ _ _ => hh i⟩, _, _, _, h.same hh (pw_below_drewN ((h.hb.setCell h.hp0 _).setCell h.hp0 _) q)⟩
  · obtain ⟨r0, r1⟩ := hrr.resolve_left c1
    obtain ⟨R, rfl⟩ : ∃ R : Nat, r = R := ⟨r.toNat, by omega⟩
    have hw : IntKind.i64.wrap (liveOf bs + R) = liveOf bs + R := by
      have := IntKind.wrap_i64 (liveOf bs + R)
      omega
    by_cases c2 : bud < liveOf bs + R
    · have hf : takeF bs bud R = (bs, -1, 17) := by unfold takeF; rw [if_neg c1, if_pos c2]
      rw [hf]
      refine (take_over h.hp hr (by omega) (by rw [hw]; exact c2)).mono ?_
      rintro e w' ⟨rfl, q, rfl⟩
      have hh := lock_same h.hp rfl (.int .i32 1)
      exact ⟨rfl, ⟨same_size hh, fun i cs ty hi _ _ _ _ => hh i⟩, _, _, _, h.same hh (pw_below_drewN ((h.hb.setCell h.hp0 _).setCell h.hp0 _) q)⟩
    · cases hfi : bs.findIdx? (fun b => b == (R, false)) with
      | none =>
        have hf : takeF bs bud R = (bs ++ [(R, true)], (bs.length : Int), 0) := by unfold takeF; rw [if_neg c1, if_neg c2, Int.toNat_natCast, hfi]
        have hno : ∀ i : Nat, bs[i]? ≠ some (R, false) := by
          intro i hi
          have := List.findIdx?_eq_none_iff.1 hfi (R, false) (List.mem_of_getElem? hi)
          simp at this
        rw [hf]
        refine (take_new (w0 := w0) h.hp hr (by omega) (by omega) (by rw [hw]; exact c2) h.hD (h.noFree hno) h.hB (by have := h.ht; omega) h.hb h.hp0).mono ?_
        rintro e w' ⟨rfl, hw'⟩
        obtain ⟨B', cells', hP⟩ := tookNew_pool h ht (by omega) (by omega) hno hw'
        obtain ⟨v1, b, Z, q1, q2, q3, q4, q5, q6, q7, q8⟩ := hw'
        refine ⟨rfl, ⟨q7, fun i cs ty hi h1 h2 h3 h4 => q6 i (blk_lt hi) (blk_ne hi h.hp h1) ?_⟩, B', cells', G, hP⟩
        intro e
        obtain ⟨c2, hc2⟩ := own142_of h.hB i e.symm
        exact blk_ne hi hc2 h2 rfl
      | some n =>
        have hf : takeF bs bud R = (bs.set n (R, true), (n : Int), 0) := by unfold takeF; rw [if_neg c1, if_neg c2, Int.toNat_natCast, hfi]
        obtain ⟨hnl, hnp, hnf⟩ := List.findIdx?_eq_some_iff_getElem.1 hfi
        have hn : bs[n]? = some (R, false) := by
          rw [List.getElem?_eq_getElem hnl]
          exact congrArg some (by simpa using hnp)
        rw [hf]
        cases hGr : G (R : Int) with
        | none => exact absurd hGr (h.hF n R hn)
        | some v =>
          obtain ⟨L, l1, l2, l3, l4⟩ := h.hG _ v hGr
          obtain ⟨c, cap, rfl⟩ : ∃ c cap, v = .slice (some ⟨c, 0, none⟩) L.length cap := by
            rcases l3.2 with ⟨_, e⟩ | ⟨c, cap, _, e, _⟩
            · omega
            · exact ⟨c, cap, e⟩
          obtain ⟨m1, m2⟩ := minOf_mem l1
          have hmin : Lib.minOf L = n := by
            obtain ⟨j, r', e1, e2, e3⟩ := (l4 _).1 m1
            have hnL : (n : Int) ∈ L := (l4 _).2 ⟨n, R, rfl, rfl, hn⟩
            have := m2 _ hnL
            have hr' : r' = R := by omega
            subst hr'
            rcases Nat.lt_or_ge j n with hlt | hge
            · have := hnf j hlt
              rw [List.getElem?_eq_getElem (by omega)] at e3
              have e4 := Option.some.inj e3
              rw [e4] at this
              simp at this
            · omega
          obtain ⟨g, gcap, rfl⟩ := h.form2 (by omega)
          obtain ⟨hg0, cur, hg, _, _, _, _, hcur⟩ := cur_of h.hB
          obtain ⟨a1, a2, b, Z, d1, d2, d3, d4, d5⟩ := h.hc n R false hn
          have e1 := (hcur (n * 2) (by omega)).trans d1
          have e2 := (hcur (n * 2 + 1) (by omega)).trans d2
          have hnt : (Lib.minOf L).toNat = n := by rw [hmin]; exact Int.toNat_natCast n
          refine (take_old (w0 := w0) (L := L) h.hp hr (by omega) (by omega) (by rw [hw]; exact c2) h.hD hGr l3 l1 (by omega) hg (by have := h.ht; omega) (by omega) (by omega) (by rw [hnt]; exact e1) (by rw [hnt, e2]; rfl) d4 d5 h.hb h.hp0 hg0 h.hm0 d3).mono ?_
          rintro e w' ⟨rfl, hw'⟩
          rw [hmin] at hw' ⊢
          obtain ⟨cells', G', hP⟩ := tookOld_pool h ht hn hg hGr l2 l3 l4 rfl d1 ⟨Z, d4⟩ hw'
          obtain ⟨Z', q1, q2, q3, q4, q5, q6, q7, q8, q9⟩ := hw'
          obtain ⟨cs0, hcs0⟩ := own3_of l3 c rfl
          exact ⟨rfl, ⟨q8, fun i cs ty hi h1 h2 h3 h4 => q7 i (blk_lt hi) (blk_ne hi h.hp h1) (blk_ne hi hg h2) (blk_ne hi d4 h3) (blk_ne hi hcs0 h4) (h.mapne hi)⟩, _, cells', G', hP⟩
end Go.Proofs.Ytpmdgmnpkdoamaa.Pl
