/- Proved here: what a map from whole numbers to slices answers and how it turns: looked up, stored into, an entry struck. Condition: the map's block is known. -/
import Derived.Test.YtpmdgmnpkdoamaaProg
import Derived.Maps.Keyed
namespace Go.Proofs.Ytpmdgmnpkdoamaa.Pl
open Go Go.ChangeShapes Go.WideShapes Go.MapKept Go.ChangeMaps Go.Maps
/-- A map (its block m) as a function. -/
def Dict (w : World) (m : Nat) (G : Int → Option Value) : Prop := ∃ es clk, w.heap[m]? = some (.map es clk) ∧ (∀ e ∈ es.toList, ∃ q, e.key = .int .i64 q ∧ (Lit.int .i64 q).wf = true) ∧
  es.toList.Pairwise (fun a b => a.key ≠ b.key) ∧ ∀ r v, G r = some v ↔ ∃ e ∈ es.toList, e.key = .int .i64 r ∧ e.val = v
theorem keyed : Keyed Try.prog 3 := int_keyed (q := .i64) (by kernel_rfl)
theorem keyOf3 {r : Int} (hw : (Lit.int .i64 r).wf = true) : keyOf Try.prog 3 (.int .i64 r) = some (.int .i64 r) := keyOf_int_mk (by kernel_rfl) hw
theorem keys_of {es : Array MapEntry} (h : ∀ e ∈ es.toList, ∃ q, e.key = .int .i64 q ∧ (Lit.int .i64 q).wf = true) : ∀ e ∈ es.toList, ∃ l, keyOf Try.prog 3 e.key = some l := by
  intro e he
  obtain ⟨q, hq, hw⟩ := h e he
  exact ⟨_, by rw [hq]; exact keyOf3 hw⟩
theorem int_inj {a b : Int} (h : Value.int .i64 a = .int .i64 b) : a = b := by injection h
theorem Dict.move {w w' : World} {m : Nat} {G : Int → Option Value} (h : Dict w m G) (hm : w'.heap[m]? = w.heap[m]?) : Dict w' m G := by
  obtain ⟨es, clk, hb, r⟩ := h
  exact ⟨es, clk, hm.trans hb, r⟩
theorem Dict.new {w : World} {m : Nat} (h : w.heap[m]? = some (.map #[] 0)) : Dict w m (fun _ => none) := ⟨#[], 0, h, by simp, by simp, by simp⟩
theorem Dict.lt {w : World} {m : Nat} {G : Int → Option Value} (h : Dict w m G) : m < w.heap.size := by
  obtain ⟨es, clk, hb, _⟩ := h
  exact (Array.getElem?_eq_some_iff.1 hb).1
theorem Dict.look {w : World} {m : Nat} {G : Int → Option Value} {r : Int} (h : Dict w m G) (hr : (Lit.int .i64 r).wf = true) :
    (Instr.lookup 125 (.map (some m)) (.int .i64 r) false).run Try.prog w = .ok ((G r).getD (.slice none 0 0)) w := by
  obtain ⟨es, clk, hb, hk, hp, hG⟩ := h
  have ht := Try.underlying125
  rcases keyed.find w (keyOf3 hr) es.toList (keys_of hk) with ⟨h1, h2⟩ | ⟨j, e0, h1, h2, h3⟩
  · have hn : G r = none := by
      cases hg : G r with
      | none => rfl
      | some v =>
        obtain ⟨e, he, hek, _⟩ := (hG r v).1 hg
        exact absurd hek (h2 e he)
    rw [hn]
    have hz : (zeroValue 140).run Try.prog w = .ok (.slice none 0 0) w := Try.zeroValue140 w
    simp [Instr.lookup, run_underlying ht, MapKept.run_getObj_map hb, keyed.check w _ (keyOf3 hr), h1, hz, Result.andThen]
  · have hg : G r = some e0.val := (hG r _).2 ⟨e0, List.mem_of_getElem? h2, h3, rfl⟩
    rw [hg]
    simp [Instr.lookup, run_underlying ht, MapKept.run_getObj_map hb, keyed.check w _ (keyOf3 hr), h1, Result.andThen]
theorem pair_at {es : List MapEntry} (hp : es.Pairwise (fun a b => a.key ≠ b.key)) {j : Nat} {e0 : MapEntry} (hj : es[j]? = some e0) : ∀ {i : Nat} {e : MapEntry}, es[i]? = some e → i ≠ j → e.key ≠ e0.key := by
  intro i e hi hne
  obtain ⟨a, ha⟩ := List.getElem?_eq_some_iff.1 hi
  obtain ⟨b, hb⟩ := List.getElem?_eq_some_iff.1 hj
  have := List.pairwise_iff_getElem.1 hp
  rcases Nat.lt_or_gt_of_ne hne with h | h
  · have := this i j a b h; rw [ha, hb] at this; exact this
  · have := this j i b a h; rw [ha, hb] at this; exact fun e => this e.symm
theorem Dict.upd {w : World} {m : Nat} {G : Int → Option Value} {r : Int} (h : Dict w m G) (hr : (Lit.int .i64 r).wf = true) (v : Value) :
    ∃ es' clk', (Instr.mapUpdate 125 (.map (some m)) (.int .i64 r) v).run Try.prog w = .ok () (setBlock w m (.map es' clk')) ∧
      (setBlock w m (.map es' clk')).heap[m]? = some (.map es' clk') ∧ (∀ i, i ≠ m → (setBlock w m (.map es' clk')).heap[i]? = w.heap[i]?) ∧ Dict (setBlock w m (.map es' clk')) m (fun q => if q = r then some v else G q) := by
  obtain ⟨es, clk, hb, hk, hp, hG⟩ := h
  have ht := Try.underlying125
  have hsame : ∀ o, (setBlock w m o).heap[m]? = some o := fun o => heap_setBlock_same hb o
  have hoth : ∀ o i, i ≠ m → (setBlock w m o).heap[i]? = w.heap[i]? := fun o i hi => heap_setBlock_other hb o hi
  rcases keyed.find w (keyOf3 hr) es.toList (keys_of hk) with ⟨h1, h2⟩ | ⟨j, e0, h1, h2, h3⟩
  · refine ⟨es.push ⟨.int .i64 r, v, clk⟩, clk + 1, ?_, hsame _, hoth _, _, _, hsame _, ?_, ?_, ?_⟩
    · simp [Instr.mapUpdate, run_underlying ht, MapKept.run_getObj_map hb, keyed.check w false (keyOf3 hr), h1, MapKept.run_setObj_map _ hb, Result.andThen, setBlock]
    · intro e he
      simp only [Array.toList_push, List.mem_append, List.mem_singleton] at he
      rcases he with he | rfl
      · exact hk e he
      · exact ⟨r, rfl, hr⟩
    · rw [Array.toList_push, List.pairwise_append]
      refine ⟨hp, by simp, fun a ha b hb2 => ?_⟩
      obtain rfl := List.mem_singleton.1 hb2
      exact h2 a ha
    · intro q u
      dsimp only
      simp only [Array.toList_push, List.mem_append, List.mem_singleton]
      by_cases e : q = r
      · subst e
        rw [if_pos rfl]
        constructor
        · intro hv
          obtain rfl := Option.some.inj hv
          exact ⟨_, .inr rfl, rfl, rfl⟩
        · rintro ⟨e, he | rfl, hek, hev⟩
          · exact absurd hek (h2 e he)
          · exact congrArg some hev
      · rw [if_neg e, hG q u]
        constructor
        · rintro ⟨x, hx, y⟩
          exact ⟨x, .inl hx, y⟩
        · rintro ⟨x, hx | rfl, hek, hev⟩
          · exact ⟨x, hx, hek, hev⟩
          · exact absurd (int_inj hek).symm e
  · have hj : es[j]? = some e0 := by simpa using h2
    have hlist : (es.modify j (fun e' => { e' with key := .int .i64 r, val := v })).toList = es.toList.set j { e0 with key := .int .i64 r, val := v } := by rw [Array.toList_modify, modify_eq_set _ _ _ _ h2]
    have hjl : j < es.toList.length := (List.getElem?_eq_some_iff.1 h2).1
    have who : ∀ x, x ∈ es.toList.set j { e0 with key := .int .i64 r, val := v } ↔ x = { e0 with key := .int .i64 r, val := v } ∨ (x ∈ es.toList ∧ x.key ≠ .int .i64 r) := by
      intro x
      constructor
      · intro hx
        obtain ⟨i, hi⟩ := List.mem_iff_getElem?.1 hx
        by_cases e : i = j
        · subst e
          rw [List.getElem?_set_self hjl] at hi
          exact .inl (Option.some.inj hi).symm
        · rw [List.getElem?_set_ne (fun h => e h.symm)] at hi
          exact .inr ⟨List.mem_of_getElem? hi, h3 ▸ pair_at hp h2 hi e⟩
      · rintro (rfl | ⟨hx, hne⟩)
        · exact List.mem_iff_getElem?.2 ⟨j, List.getElem?_set_self hjl⟩
        · obtain ⟨i, hi⟩ := List.mem_iff_getElem?.1 hx
          refine List.mem_iff_getElem?.2 ⟨i, ?_⟩
          rw [List.getElem?_set_ne]
          · exact hi
          · rintro rfl
            rw [h2] at hi
            exact hne ((Option.some.inj hi) ▸ h3)
    refine ⟨es.modify j (fun e' => { e' with key := .int .i64 r, val := v }), clk, ?_, hsame _, hoth _, _, _, hsame _, ?_, ?_, ?_⟩
    · simp [Instr.mapUpdate, run_underlying ht, MapKept.run_getObj_map hb, keyed.check w false (keyOf3 hr), h1, hj, h3, keyed.stays w (keyOf3 hr), MapKept.run_setObj_map _ hb, Result.andThen, setBlock]
    · intro e he
      rw [hlist] at he
      rcases (who e).1 he with rfl | ⟨he, _⟩
      · exact ⟨r, rfl, hr⟩
      · exact hk e he
    · rw [hlist, List.pairwise_iff_getElem]
      have hq := List.pairwise_iff_getElem.1 hp
      have hk0 : ∀ i (hi : i < (es.toList.set j { e0 with key := .int .i64 r, val := v }).length), ((es.toList.set j { e0 with key := .int .i64 r, val := v })[i]).key = (es.toList[i]'(by simpa using hi)).key := by
        intro i hi
        rw [List.getElem_set]
        split
        · rename_i e
          subst e
          have := (List.getElem?_eq_some_iff.1 h2).2
          simp only at this ⊢
          rw [this, h3]
        · rfl
      intro i k hi hk' hlt
      rw [hk0, hk0]
      exact hq i k _ _ hlt
    · intro q u
      dsimp only
      rw [hlist]
      by_cases e : q = r
      · subst e
        rw [if_pos rfl]
        constructor
        · intro hv
          obtain rfl := Option.some.inj hv
          exact ⟨_, (who _).2 (.inl rfl), rfl, rfl⟩
        · rintro ⟨x, hx, hxk, hxv⟩
          rcases (who x).1 hx with rfl | ⟨_, hne⟩
          · exact congrArg some hxv
          · exact absurd hxk hne
      · rw [if_neg e, hG q u]
        constructor
        · rintro ⟨x, hx, hxk, hxv⟩
          exact ⟨x, (who x).2 (.inr ⟨hx, by rw [hxk]; intro h; exact e (int_inj h)⟩), hxk, hxv⟩
        · rintro ⟨x, hx, hxk, hxv⟩
          rcases (who x).1 hx with rfl | ⟨hx, _⟩
          · exact absurd (int_inj hxk).symm e
          · exact ⟨x, hx, hxk, hxv⟩
theorem Dict.del {w : World} {m : Nat} {G : Int → Option Value} {r : Int} (h : Dict w m G) (hr : (Lit.int .i64 r).wf = true) (ty : TypeId) :
    ∃ es' clk', (Builtin.delete_ #[125, 3] ty #[.map (some m), .int .i64 r]).run Try.prog w = .ok (.tuple #[]) (setBlock w m (.map es' clk')) ∧
      (setBlock w m (.map es' clk')).heap[m]? = some (.map es' clk') ∧ (∀ i, i ≠ m → (setBlock w m (.map es' clk')).heap[i]? = w.heap[i]?) ∧ Dict (setBlock w m (.map es' clk')) m (fun q => if q = r then none else G q) := by
  obtain ⟨es, clk, hb, hk, hp, hG⟩ := h
  have ht := Try.underlying125
  have hsame : ∀ o, (setBlock w m o).heap[m]? = some o := fun o => heap_setBlock_same hb o
  have hoth : ∀ o i, i ≠ m → (setBlock w m o).heap[i]? = w.heap[i]? := fun o i hi => heap_setBlock_other hb o hi
  rcases keyed.find w (keyOf3 hr) es.toList (keys_of hk) with ⟨h1, h2⟩ | ⟨j, e0, h1, h2, h3⟩
  · refine ⟨es, clk, ?_, hsame _, hoth _, _, _, hsame _, hk, hp, ?_⟩
    · simp [Builtin.delete_, run_underlying ht, MapKept.run_getObj_map hb, keyed.check w _ (keyOf3 hr), h1, MapKept.run_setObj_map _ hb, Result.andThen, setBlock]
    · intro q u
      dsimp only
      by_cases e : q = r
      · subst e
        rw [if_pos rfl]
        constructor
        · intro h; cases h
        · rintro ⟨e, he, hek, _⟩
          exact absurd hek (h2 e he)
      · rw [if_neg e, hG q u]
  · have hjl : j < es.toList.length := (List.getElem?_eq_some_iff.1 h2).1
    have hjs : j < es.size := by simpa using hjl
    have hsub : (es.eraseIdxIfInBounds j).toList = es.toList.eraseIdx j := by
      unfold Array.eraseIdxIfInBounds
      rw [dif_pos hjs]
      simp
    refine ⟨es.eraseIdxIfInBounds j, clk, ?_, hsame _, hoth _, _, _, hsame _, ?_, ?_, ?_⟩
    · simp [Builtin.delete_, run_underlying ht, MapKept.run_getObj_map hb, keyed.check w _ (keyOf3 hr), h1, MapKept.run_setObj_map _ hb, Result.andThen, setBlock]
    · intro e he
      rw [hsub] at he
      exact hk e ((List.eraseIdx_sublist _ _).subset he)
    · rw [hsub]
      exact hp.sublist (List.eraseIdx_sublist _ _)
    · intro q u
      dsimp only
      rw [hsub]
      constructor
      · intro h
        by_cases e : q = r
        · rw [if_pos e] at h; cases h
        · rw [if_neg e] at h
          obtain ⟨x, hx, hxk, hxv⟩ := (hG q u).1 h
          obtain ⟨i, hi⟩ := List.mem_iff_getElem?.1 hx
          refine ⟨x, List.mem_eraseIdx_iff_getElem?.2 ⟨i, ?_, hi⟩, hxk, hxv⟩
          rintro rfl
          rw [h2] at hi
          obtain rfl := Option.some.inj hi
          rw [h3] at hxk
          exact e (int_inj hxk).symm
      · rintro ⟨x, hx, hxk, hxv⟩
        obtain ⟨i, hne, hi⟩ := List.mem_eraseIdx_iff_getElem?.1 hx
        have hk2 := pair_at hp h2 hi hne
        have e : q ≠ r := by
          rintro rfl
          exact hk2 (hxk.trans h3.symm)
        rw [if_neg e]
        exact (hG q u).2 ⟨x, List.mem_of_getElem? hi, hxk, hxv⟩
end Go.Proofs.Ytpmdgmnpkdoamaa.Pl
