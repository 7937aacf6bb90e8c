/- Proved here: a new pool; the pool beside other blocks. Condition: the pool lies as told. -/
import Derived.Test.YtpmdgmnpkdoamaaPool4
namespace Go.Proofs.Ytpmdgmnpkdoamaa.Pl
open Go Go.RowKit Go.Shelf Go.Sort Go.Proofs.YtpmdgmnpkdoamaaW.PrintWords
set_option linter.unusedVariables false
set_option linter.unusedSimpArgs false
/-- The pool lies on where its blocks are as they were. -/
theorem IsPool.keep {w0 W w' : World} {t p m : Nat} {bud : Int} {bs : List (Nat × Bool)} {B : Value} {cells : List Value} {G : Int → Option Value} (h : IsPool w0 W t p m bud bs B cells G)
    (hk : ∀ (i : Nat) (o : Obj), W.heap[i]? = some o → (∀ cs, o ≠ .cells cs 65 (0, 0)) → w'.heap[i]? = some o) (hB : Below w0.heap.size w0 w') : IsPool w0 w' t p m bud bs B cells G := by
  have hc : ∀ {i : Nat} {cs : Array Value} {ty : TypeId}, ty ≠ 65 → W.heap[i]? = some (.cells cs ty (0, 0)) → w'.heap[i]? = W.heap[i]? := by
    intro i cs ty hne hi
    rw [hk i _ hi (fun cs' e => by injection e with _ e _; exact hne e), hi]
  refine ⟨(hc (by decide) h.hp).trans h.hp, h.hp0, h.hm0, hB, h.ht, own_move h.hB (fun c hcc => ?_), fun i r l hi => ?_, ?_, fun q v hq => ?_, h.hA, h.hF⟩
  · obtain ⟨cs, hcs⟩ := own142_of h.hB c hcc
    exact hc (by decide) hcs
  · obtain ⟨a1, a2, b, Z, c1, c2, c3, c4, c5⟩ := h.hc i r l hi
    exact ⟨a1, a2, b, Z, c1, c2, c3, (hc (by decide) c4).trans c4, c5⟩
  · obtain ⟨es, ck, hm, _⟩ := h.hD
    refine h.hD.move ?_
    rw [hk m _ hm (fun cs e => by cases e), hm]
  · obtain ⟨L, l1, l2, l3, l4⟩ := h.hG q v hq
    refine ⟨L, l1, l2, own_move l3 (fun c hcc => ?_), l4⟩
    obtain ⟨cs, hcs⟩ := own3_of l3 c hcc
    exact hc (by decide) hcs
theorem IsPool.alloc {w0 W : World} {t p m : Nat} {bud : Int} {bs : List (Nat × Bool)} {B : Value} {cells : List Value} {G : Int → Option Value} (h : IsPool w0 W t p m bud bs B cells G) (o : Obj) : IsPool w0 (W.alloc o) t p m bud bs B cells G :=
  h.keep (fun _ _ hi _ => blk_alloc hi o) (below_alloc h.hb o)
theorem IsPool.grown {w0 W w' : World} {t p m : Nat} {bud : Int} {bs : List (Nat × Bool)} {B : Value} {cells : List Value} {G : Int → Option Value} (h : IsPool w0 W t p m bud bs B cells G) {row : Option Nat} (hg : W.grownBy w' row)
    (hrow : ∀ k, row = some k → w0.heap.size ≤ k ∧ ∃ cs, W.heap[k]? = some (.cells cs 65 (0, 0))) : IsPool w0 w' t p m bud bs B cells G := by
  refine h.keep (fun i o hi ho => blk_grown hi hg (fun e => ?_)) ⟨hg.os.trans h.hb.os, hg.tape.trans h.hb.tape, hg.output.trans h.hb.output, Nat.le_trans h.hb.size hg.size, fun i hi => ?_⟩
  · obtain ⟨_, cs, hcs⟩ := hrow i e.symm
    rw [hi] at hcs
    exact ho cs (Option.some.inj hcs)
  · have := h.hb.size
    exact (hg.block i (by omega) (fun e => by have := (hrow i e.symm).1; omega)).trans (h.hb.block i hi)
theorem IsPool.more {w0 W : World} {t p m : Nat} {bud : Int} {bs : List (Nat × Bool)} {B : Value} {cells : List Value} {G : Int → Option Value} (h : IsPool w0 W t p m bud bs B cells G) : IsPool w0 W (t + 1) p m bud bs B cells G := h.same (fun _ => rfl) h.hb
theorem own65_of {w : World} {base n : Nat} {v : Value} {xs : List Value} (h : w.ownsRow base 65 3 v n xs) : ∀ c, v.ownBlock = some c → base ≤ c ∧ ∃ cs, w.heap[c]? = some (.cells cs 65 (0, 0)) := by
  intro c hc
  refine ⟨(h.lt c hc).1, ?_⟩
  rcases h.2 with ⟨e, _⟩ | ⟨c', cap', cs, e, _, hcs, _⟩
  · rw [e] at hc; cases hc
  · rw [e] at hc
    obtain rfl : c' = c := by simpa [Value.ownBlock] using hc
    exact ⟨cs, hcs⟩
/-- An answers' row beside the pool. -/
theorem Other.row {W w' : World} (h : Other W w') {base n : Nat} {v : Value} {xs : List Value} (hr : W.ownsRow base 65 3 v n xs) : w'.ownsRow base 65 3 v n xs :=
  own_move hr (fun c hc => by
    obtain ⟨_, cs, hcs⟩ := own65_of hr c hc
    exact h.2 c cs 65 hcs (by decide) (by decide) (by decide) (by decide))
set_option maxRecDepth 100000 in
theorem newPool (w : World) (b : Int) : Calls Try.prog 97 #[.int .i64 b] w fun e w' => e = .returned (.pointer (some ⟨w.heap.size + 1, 0, none⟩)) ∧
    w' = (w.alloc (.map #[] 0)).alloc (.cells #[.int .i32 0, .int .u32 0, .int .i64 b, .slice none 0 0, .map (some w.heap.size), .int .i64 0] 127) := by
  have hmk : ∀ w : World, (Instr.makeMap 125 none).run Try.prog w = .ok (.map (some w.heap.size)) (w.alloc (.map #[] 0)) := fun _ => rfl
  go_enter Try.func97, Try.ntmps97
  go_wp2

  go_ret
  exact ⟨rfl, rfl⟩
theorem isPool_new (w : World) (b : Int) : IsPool w ((w.alloc (.map #[] 0)).alloc (.cells #[.int .i32 0, .int .u32 0, .int .i64 b, .slice none 0 0, .map (some w.heap.size), .int .i64 0] 127)) 0 (w.heap.size + 1) w.heap.size b [] (.slice none 0 0) [] (fun _ => none) where
  hp := by
    have := blk_new (w.alloc (.map #[] 0)) (.cells #[.int .i32 0, .int .u32 0, .int .i64 b, .slice none 0 0, .map (some w.heap.size), .int .i64 0] 127)
    rw [World.size_alloc] at this
    exact this
  hp0 := by omega
  hm0 := Nat.le_refl _
  hb := below_alloc (below_alloc (Below.refl _ _) _) _
  ht := Nat.le_refl _
  hB := World.ownsRow_nil _ _ _ _
  hc := fun i r l hi => by simp at hi
  hD := Dict.new (blk_alloc (blk_new w _) _)
  hG := fun q v hq => by cases hq
  hA := fun q v q' u hq => by cases hq
  hF := fun i r hi => by simp at hi
end Go.Proofs.Ytpmdgmnpkdoamaa.Pl
