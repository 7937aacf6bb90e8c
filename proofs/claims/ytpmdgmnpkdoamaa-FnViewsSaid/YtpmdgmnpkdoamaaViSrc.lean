/- Proved here: what the source of the drawn numbers answers. Conditions: those that stand ahead in each theorem. -/
import Derived.Test.YtpmdgmnpkdoamaaProg
import Derived.Below
import Derived.Deep.Draws
import Derived.Deep.AppendLies
import Derived.Maps.AppendAt
import Derived.OwnWalk
import Derived.Laws.BytesArg
import Derived.Laws.MakeOwn
import Derived.Laws.OwnMore
import Derived.Deep.OwnRows
import Derived.Tactics
import Derived.Lib.ConvBytes
import Derived.Laws.Slices
import Derived.WalkKit
import Derived.KernelRfl
import Derived.RowKit3
import Derived.Deep.LoopGhost
import Derived.Deep.QuietTactic
import Derived.BigQuiet
import Derived.WideLaws
import Derived.Deep.DeepCutAuto
import Derived.Deep.CutBlock
import Derived.Deep.RegionHeld3
import Derived.Laws.Rows
import Derived.Lib.AppendStr
import Derived.ArgAppend
import Derived.Laws.IdiomCopy
import Derived.OrdersHeld
import Derived.Laws.BitsLemmas
import Derived.RowKit
import Derived.WalkSpells
import Derived.WalkLawsBesides
import Derived.Test.YtpmdgmnpkdoamaaViWSq
import Derived.Laws.StructEq
namespace Go.Proofs.Ytpmdgmnpkdoamaa.Src
open Go.RowKit Go.Proofs.YtpmdgmnpkdoamaaW.PrintWords Go.Proofs.YtpmdgmnpkdoamaaW.PrintLast Go.Proofs.YtpmdgmnpkdoamaaW.PrintMore
attribute [local go_sem] max2_int min2_int max_two min_two max_three min_three max_four min_four
set_option linter.unusedVariables false
set_option linter.unusedSimpArgs false
theorem w_id {n : Int} (h : -9223372036854775808 ≤ n) (h2 : n < 9223372036854775808) : wrap64 n = n := by unfold wrap64; omega
def IsS171 (c : Nat) (w0 W : World) (g : Nat) (f0 : List Int) (f1 : Int) (f2 : Int) (f3 : Int) : Prop := ∃ A0 c0, W.heap[g]? = some (.cells #[.slice A0 f0.length c0, .int .i64 f1, .int .i64 f2, .int .i64 f3] 113 (0, 0)) ∧ (w0.heap.size ≤ g ∧ ∃ cs t, W.heap[c]? = some (.cells cs t (0, 0)) ∧ (t = 113 ∨ t = 5)) ∧ Kd.R (Kd.int .u8) 5 W 0 (fun k => k = c) (.slice A0 f0.length c0) f0
section
variable {c : Nat} {w0 W : World} {g : Nat} {f0 : List Int} {f1 : Int} {f2 : Int} {f3 : Int}
theorem IsS171.grown {W1 : World} {row : Option Nat} (h : IsS171 c w0 W g f0 f1 f2 f3) (hw : W.grownBy W1 row) (hne : some g ≠ row ∧ some c ≠ row) : IsS171 c w0 W1 g f0 f1 f2 f3 := by
 obtain ⟨A0, c0, hb, ⟨hg, cs, t, hc, ht⟩, hr0⟩ := h
 exact ⟨A0, c0, blk_grown hb hw hne.1, ⟨hg, cs, t, blk_grown hc hw hne.2, ht⟩, Kd.R_grown hr0 hw (fun k hk => by subst hk; exact hne.2)⟩
theorem IsS171.kept {W1 : World} {S : Nat → Prop} (h : IsS171 c w0 W g f0 f1 f2 f3) (hk : Kept W W1 S) (hne : ¬ S g ∧ ¬ S c) : IsS171 c w0 W1 g f0 f1 f2 f3 := by
 obtain ⟨A0, c0, hb, ⟨hg, cs, t, hc, ht⟩, hr0⟩ := h
 exact ⟨A0, c0, zE hb hk hne.1, ⟨hg, cs, t, zE hc hk hne.2, ht⟩, Kd.R_kept hr0 hk (fun k hk => by subst hk; exact hne.2)⟩
theorem IsS171.below {W1 : World} (h : IsS171 c w0 W g f0 f1 f2 f3) (hw : Below W.heap.size W W1) : IsS171 c w0 W1 g f0 f1 f2 f3 := h.grown (grown_of_below hw none) ⟨by simp, by simp⟩
theorem IsS171.alloc (h : IsS171 c w0 W g f0 f1 f2 f3) (o : Obj) : IsS171 c w0 (W.alloc o) g f0 f1 f2 f3 := h.below (qA (Below.refl _ _) o)
theorem IsS171.drewN (h : IsS171 c w0 W g f0 f1 f2 f3) (m : Nat) : IsS171 c w0 (W.drewN m) g f0 f1 f2 f3 := h.below (qB (Below.refl _ _) m)
theorem IsS171.drew (h : IsS171 c w0 W g f0 f1 f2 f3) : IsS171 c w0 W.drew g f0 f1 f2 f3 := h.below (below_drew (Below.refl _ _))
theorem IsS171.at_ {w' : World} {m : Nat} (hq : W.drewN m = w') (h : IsS171 c w0 W g f0 f1 f2 f3) : IsS171 c w0 w' g f0 f1 f2 f3 := by subst hq; exact IsS171.drewN h m
theorem IsS171.apart {α : Type} {d : Kd α} {e : Nat} {base : Nat} {ok : Nat → Prop} {v : Value} {xs : List α} (h : IsS171 c w0 W g f0 f1 f2 f3) (ho : d.R e W base ok v xs) (ht : ∀ q, q ∈ e :: d.E → q ≠ 113) : d.R e W base (fun k => ok k ∧ k ≠ g) v xs := by
 obtain ⟨A0, c0, hb, hg, hr0⟩ := h
 exact Kd.R_types ho hb ht
theorem IsS171.own_ne {α : Type} {d : Kd α} {e : Nat} {base : Nat} {ok : Nat → Prop} {v : Value} {xs : List α} (h : IsS171 c w0 W g f0 f1 f2 f3) (ho : d.R e W base ok v xs) (ht : e ≠ 113 ∧ e ≠ 5) : some g ≠ v.ownBlock ∧ some c ≠ v.ownBlock := by
 obtain ⟨A0, c0, hb, ⟨hg, cs, t, hc, hq⟩, hr0⟩ := h
 exact ⟨Kd.R_ne ho hb ht.1, Kd.R_ne ho hc (by rcases hq with rfl | rfl; exact ht.1; exact ht.2)⟩
theorem IsS171.lt (h : IsS171 c w0 W g f0 f1 f2 f3) : g < W.heap.size := by
 obtain ⟨A0, c0, hb, hg, hr0⟩ := h
 exact zP hb
theorem IsS171.lt2 (h : IsS171 c w0 W g f0 f1 f2 f3) : c < W.heap.size := by
 obtain ⟨A0, c0, hb, ⟨hg, cs, t, hc, hq⟩, hr0⟩ := h
 exact zP hc
theorem IsS171.ge (h : IsS171 c w0 W g f0 f1 f2 f3) : w0.heap.size ≤ g := by
 obtain ⟨A0, c0, hb, hg, hr0⟩ := h
 exact hg.1
theorem IsS171.ne_blk {a : Nat} {cs : Array Value} {t : TypeId} {fr : Nat × Nat} (h : IsS171 c w0 W g f0 f1 f2 f3) (hb2 : W.heap[a]? = some (.cells cs t fr)) (ht : t ≠ 113 ∧ t ≠ 5) : g ≠ a ∧ c ≠ a := by
 obtain ⟨A0, c0, hb, ⟨hg, cs, t', hc, hq⟩, hr0⟩ := h
 refine ⟨?_, ?_⟩
 ·rintro rfl
  rw [hb] at hb2
  injection hb2 with hb2
  injection hb2 with _ ht2
  exact ht.1 ht2.symm
 ·rintro rfl
  rw [hc] at hb2
  injection hb2 with hb2
  injection hb2 with _ ht2
  subst ht2
  rcases hq with rfl | rfl
  ·exact ht.1 rfl
  ·exact ht.2 rfl
theorem IsS171.far {p : Addr} (h : IsS171 c w0 W g f0 f1 f2 f3) (hne : g ≠ p.block) (hne2 : c ≠ p.block) (u : Value) : IsS171 c w0 (W.setCell p u) g f0 f1 f2 f3 := by
 obtain ⟨A0, c0, hb, ⟨hg, cs, t, hc, ht⟩, hr0⟩ := h
 exact ⟨A0, c0, zN hb hne u, ⟨hg, cs, t, zN hc hne2 u, ht⟩, Kd.R_far hr0 (fun k hk => by subst hk; exact hne2) u⟩
theorem cellS171_0 {A0 : Option Addr} {c0 : Nat} (h : W.heap[g]? = some (.cells #[.slice A0 f0.length c0, .int .i64 f1, .int .i64 f2, .int .i64 f3] 113 (0, 0))) : W.cell? ⟨g, 0, none⟩ = some (.slice A0 f0.length c0) := (qJ h 0).trans rfl
theorem cellS171_1 {A0 : Option Addr} {c0 : Nat} (h : W.heap[g]? = some (.cells #[.slice A0 f0.length c0, .int .i64 f1, .int .i64 f2, .int .i64 f3] 113 (0, 0))) : W.cell? ⟨g, 1, none⟩ = some (.int .i64 f1) := (qJ h 1).trans rfl
theorem cellS171_2 {A0 : Option Addr} {c0 : Nat} (h : W.heap[g]? = some (.cells #[.slice A0 f0.length c0, .int .i64 f1, .int .i64 f2, .int .i64 f3] 113 (0, 0))) : W.cell? ⟨g, 2, none⟩ = some (.int .i64 f2) := (qJ h 2).trans rfl
theorem cellS171_3 {A0 : Option Addr} {c0 : Nat} (h : W.heap[g]? = some (.cells #[.slice A0 f0.length c0, .int .i64 f1, .int .i64 f2, .int .i64 f3] 113 (0, 0))) : W.cell? ⟨g, 3, none⟩ = some (.int .i64 f3) := (qJ h 3).trans rfl
theorem IsS171.any {cs : Array Value} {t : TypeId} (hc : W.heap[c]? = some (.cells cs t (0, 0))) (hq : t = 113 ∨ t = 5) (j : Nat) (u : Value) : ∃ cs t, (W.setCell ⟨g, j, none⟩ u).heap[c]? = some (.cells cs t (0, 0)) ∧ (t = 113 ∨ t = 5) := by
 by_cases e : c = g
 ·subst e
  exact ⟨_, _, blk_set hc j u, hq⟩
 ·exact ⟨_, _, zN hc e u, hq⟩
theorem IsS171.row {A0 : Option Addr} {c0 : Nat} (hb : W.heap[g]? = some (.cells #[.slice A0 f0.length c0, .int .i64 f1, .int .i64 f2, .int .i64 f3] 113 (0, 0))) (h : Kd.R (Kd.int .u8) 5 W 0 (fun k => k = c) (.slice A0 f0.length c0) f0) (j : Nat) (u : Value) : Kd.R (Kd.int .u8) 5 (W.setCell ⟨g, j, none⟩ u) 0 (fun k => k = c) (.slice A0 f0.length c0) f0 := Kd.qZ (Kd.R_far (p := ⟨g, j, none⟩) (Kd.R_types h hb (by decide)) (fun _ hk => hk.2) u) (fun _ hk => hk.1)
theorem IsS171.set_1 (h : IsS171 c w0 W g f0 f1 f2 f3) (x : Int) : IsS171 c w0 (W.setCell ⟨g, 1, none⟩ (.int .i64 x)) g f0 x f2 f3 := by
 obtain ⟨A0, c0, hb, ⟨hg, cs, t, hc, ht⟩, hr0⟩ := h
 exact ⟨A0, c0, by simpa using blk_set hb 1 (.int .i64 x), ⟨hg, IsS171.any hc ht 1 _⟩, IsS171.row hb hr0 1 _⟩
theorem IsS171.set_2 (h : IsS171 c w0 W g f0 f1 f2 f3) (x : Int) : IsS171 c w0 (W.setCell ⟨g, 2, none⟩ (.int .i64 x)) g f0 f1 x f3 := by
 obtain ⟨A0, c0, hb, ⟨hg, cs, t, hc, ht⟩, hr0⟩ := h
 exact ⟨A0, c0, by simpa using blk_set hb 2 (.int .i64 x), ⟨hg, IsS171.any hc ht 2 _⟩, IsS171.row hb hr0 2 _⟩
theorem IsS171.set_3 (h : IsS171 c w0 W g f0 f1 f2 f3) (x : Int) : IsS171 c w0 (W.setCell ⟨g, 3, none⟩ (.int .i64 x)) g f0 f1 f2 x := by
 obtain ⟨A0, c0, hb, ⟨hg, cs, t, hc, ht⟩, hr0⟩ := h
 exact ⟨A0, c0, by simpa using blk_set hb 3 (.int .i64 x), ⟨hg, IsS171.any hc ht 3 _⟩, IsS171.row hb hr0 3 _⟩
theorem IsS171.of {base : Nat} {A0 : Option Addr} {c0 : Nat} (hb : W.heap[g]? = some (.cells #[.slice A0 f0.length c0, .int .i64 f1, .int .i64 f2, .int .i64 f3] 113 (0, 0))) (hg : w0.heap.size ≤ g) (hr : Kd.R (Kd.int .u8) 5 W base (fun _ => True) (.slice A0 f0.length c0) f0) : ∃ c, IsS171 c w0 W g f0 f1 f2 f3 := by
 have h1 := Kd.R_lower (Kd.R_bound (Kd.zC rfl hr)) (Nat.zero_le _)
 cases ho : (Value.slice A0 f0.length c0).ownBlock with
 | none => exact ⟨g, A0, c0, hb, ⟨hg, _, _, hb, .inl rfl⟩, Kd.qZ h1 (fun k hk => by rw [ho] at hk; exact absurd hk.1 (by simp))⟩
 | some b =>
  obtain ⟨_, _, _, q, hq, cells, hc⟩ := h1.1 b ho
  refine ⟨b, A0, c0, hb, ⟨hg, cells, q, hc, .inr ?_⟩, Kd.qZ h1 (fun k hk => by have := hk.1; rw [ho] at this; exact Option.some.inj this)⟩
  rcases List.mem_cons.1 hq with hq | hq
  ·exact hq
  ·exact absurd hq (by simp [Kd.int, Kd.scalar])
theorem IsS171.done {w : World} {base : Nat} {A0 : Option Addr} {c0 : Nat} (hBB : Below w0.heap.size w0 w) (hbel : Below w.heap.size w W) (hb : W.heap[g]? = some (.cells #[.slice A0 f0.length c0, .int .i64 f1, .int .i64 f2, .int .i64 f3] 113 (0, 0))) (hg : w.heap.size ≤ g) (hr : Kd.R (Kd.int .u8) 5 W base (fun _ => True) (.slice A0 f0.length c0) f0) :
  ∃ c_ g_ : Nat, Ending.returned (.pointer (some ⟨g, 0, none⟩)) = .returned (.pointer (some ⟨g_, 0, none⟩)) ∧ IsS171 c_ w0 W g_ f0 f1 f2 f3 ∧ Below w0.heap.size w0 W ∧ Below w.heap.size w W := by
 obtain ⟨c, hc⟩ := IsS171.of (w0 := w0) hb (Nat.le_trans hBB.size hg) hr
 exact ⟨c, g, rfl, hc, hBB.trans (hbel.mono hBB.size), hbel⟩
theorem info5 : (Try.prog.info? 5).map (fun i => (i.zero, i.size, i.bytes)) = some (some (.int .u8 0), 1, 1) := by kernel_rfl
end

mutual
def spec_l1Source.j1 : Nat → List Int → List Int → Int → Int → Int → Option (List Int × Int × Int × Int)
 | 0, _, _, _, _, _ => none
 | k + 1, x0, x103000, x103001, x103002, x103003 => spec_l1Source.l1 k 0 x103000 x103001 (((x0.length : Int) % 1000) + 41) x103003
def spec_l1Source.l1 : Nat → Int → List Int → Int → Int → Int → Option (List Int × Int × Int × Int)
 | 0, _, _, _, _, _ => none
 | k + 1, x5, x103000, x103001, x103002, x103003 => if x5 < (x103000.length : Int) then (if 0 ≤ x5 then (spec_l1Source.l1 k (wrap64 (x5 + 1)) x103000 x103001 (Int.tmod (wrap64 ((wrap64 ((wrap64 (x103002 * 257)) + (wrap64 (rd x103000 x5)))) + 1)) 1000003) x103003) else (none)) else (if (wrap64 (1 + (wrap64 ((x103000.length : Int) / 50)))) > 7 then (some (x103000, x103001, x103002, 7)) else (some (x103000, x103001, x103002, wrap64 (1 + (wrap64 ((x103000.length : Int) / 50))))))
def spec_l1Source.l0 : Nat → List Int → Int → List Int → Int → Int → Int → Option (List Int × Int × Int × Int)
 | 0, _, _, _, _, _, _ => none
 | k + 1, x0, x4, x103000, x103001, x103002, x103003 => if x4 < (x0.length : Int) then (if x4 < 4000 then (if 0 ≤ x4 then (if x103000.length < 140737488355328 then (spec_l1Source.l0 k x0 (wrap64 (x4 + 1)) (x103000 ++ [rd x0 x4]) x103001 x103002 x103003) else (none)) else (none)) else (spec_l1Source.j1 k x0 x103000 x103001 x103002 x103003)) else (spec_l1Source.j1 k x0 x103000 x103001 x103002 x103003)
end
def spec_l1Source.f (k : Nat) (l0 : List Int) : Option (List Int × Int × Int × Int) := spec_l1Source.l0 k l0 0 ([] : List Int) 0 0 0
theorem spec_l1Source.mono_l : ∀ k, (∀ y0 y1 y2 y3 y4, LeO (spec_l1Source.j1 k y0 y1 y2 y3 y4) (spec_l1Source.j1 (k + 1) y0 y1 y2 y3 y4)) ∧ (∀ y0 y1 y2 y3 y4, LeO (spec_l1Source.l1 k y0 y1 y2 y3 y4) (spec_l1Source.l1 (k + 1) y0 y1 y2 y3 y4)) ∧ (∀ y0 y1 y2 y3 y4 y5, LeO (spec_l1Source.l0 k y0 y1 y2 y3 y4 y5) (spec_l1Source.l0 (k + 1) y0 y1 y2 y3 y4 y5))
 | 0 => ⟨fun _ _ _ _ _ r h => by simp [spec_l1Source.j1] at h, fun _ _ _ _ _ r h => by simp [spec_l1Source.l1] at h, fun _ _ _ _ _ _ r h => by simp [spec_l1Source.l0] at h⟩
 | k + 1 => by
  obtain ⟨ih0, ih1, ih2⟩ := spec_l1Source.mono_l k
  refine ⟨?_, ?_, ?_⟩
  ·intro y0 y1 y2 y3 y4
   unfold spec_l1Source.j1
   repeat' first
   | (with_reducible exact ih0 _ _ _ _ _)
   | (with_reducible exact ih1 _ _ _ _ _)
   | (with_reducible exact ih2 _ _ _ _ _ _)
   | (with_reducible exact LeO.refl _)
   | (with_reducible exact LeO.none _)
   | (with_reducible refine LeO.ite ?_ ?_)
   | (with_reducible refine LeO.bind ?_ (fun _ => ?_))
   | exact ih0 _ _ _ _ _
   | exact ih1 _ _ _ _ _
   | exact ih2 _ _ _ _ _ _
   | exact LeO.none _
   | refine LeO.ite ?_ ?_
   | refine LeO.bind ?_ (fun _ => ?_)
  ·intro y0 y1 y2 y3 y4
   unfold spec_l1Source.l1
   repeat' first
   | (with_reducible exact ih0 _ _ _ _ _)
   | (with_reducible exact ih1 _ _ _ _ _)
   | (with_reducible exact ih2 _ _ _ _ _ _)
   | (with_reducible exact LeO.refl _)
   | (with_reducible exact LeO.none _)
   | (with_reducible refine LeO.ite ?_ ?_)
   | (with_reducible refine LeO.bind ?_ (fun _ => ?_))
   | exact ih0 _ _ _ _ _
   | exact ih1 _ _ _ _ _
   | exact ih2 _ _ _ _ _ _
   | exact LeO.none _
   | refine LeO.ite ?_ ?_
   | refine LeO.bind ?_ (fun _ => ?_)
  ·intro y0 y1 y2 y3 y4 y5
   unfold spec_l1Source.l0
   repeat' first
   | (with_reducible exact ih0 _ _ _ _ _)
   | (with_reducible exact ih1 _ _ _ _ _)
   | (with_reducible exact ih2 _ _ _ _ _ _)
   | (with_reducible exact LeO.refl _)
   | (with_reducible exact LeO.none _)
   | (with_reducible refine LeO.ite ?_ ?_)
   | (with_reducible refine LeO.bind ?_ (fun _ => ?_))
   | exact ih0 _ _ _ _ _
   | exact ih1 _ _ _ _ _
   | exact ih2 _ _ _ _ _ _
   | exact LeO.none _
   | refine LeO.ite ?_ ?_
   | refine LeO.bind ?_ (fun _ => ?_)
theorem spec_l1Source.mono : ∀ a0 k, LeO (spec_l1Source.f k a0) (spec_l1Source.f (k + 1) a0) := by
 intro a0 k
 obtain ⟨ih0, ih1, ih2⟩ := spec_l1Source.mono_l k
 unfold spec_l1Source.f
 repeat' first
   | (with_reducible exact ih0 _ _ _ _ _)
   | (with_reducible exact ih1 _ _ _ _ _)
   | (with_reducible exact ih2 _ _ _ _ _ _)
   | (with_reducible exact LeO.refl _)
   | (with_reducible exact LeO.none _)
   | (with_reducible refine LeO.ite ?_ ?_)
   | (with_reducible refine LeO.bind ?_ (fun _ => ?_))
   | exact ih0 _ _ _ _ _
   | exact ih1 _ _ _ _ _
   | exact ih2 _ _ _ _ _ _
   | exact LeO.none _
   | refine LeO.ite ?_ ?_
   | refine LeO.bind ?_ (fun _ => ?_)
def spec_l1Source.T5 : Bool × List (List Nat × List Nat) := (true, [([], []), ([0], [0]), ([], []), ([], []), ([2, 3], [2, 3]), ([4], [4]), ([5], [5]), ([1, 6], [1, 6]), ([0, 1, 2, 3, 4, 5, 6, 7], []), ([8, 7, 7, 0, 1, 2, 3, 4, 5, 6, 7], [7, 8])])
def spec_l1Source.B5 : List Nat := [0, 1, 0, 0, 12, 28, 60, 127, 255, 511]
theorem spec_l1Source.tab5 : rtab .any (opsOf Try.f93 5) = spec_l1Source.T5 := by kernel_rfl
theorem spec_l1Source.bits5 : waitsOk spec_l1Source.T5.2 spec_l1Source.B5 = true := by kernel_rfl
def spec_l1Source.T10 : Bool × List (List Nat × List Nat) := (true, [([], []), ([0], [0]), ([1], [1]), ([], []), ([3], [3]), ([], []), ([4, 5], [4, 5]), ([6], [6]), ([7], [7]), ([2, 8], [2, 8]), ([9], [9]), ([10], [10]), ([0, 1, 2, 3, 4, 5, 6, 7, 8, 9, 10, 11], []), ([12, 11, 0, 1, 2, 3, 4, 5, 6, 7, 8, 9, 10, 11], [11, 12])])
def spec_l1Source.B10 : List Nat := [0, 1, 3, 0, 8, 0, 56, 120, 248, 511, 1023, 2047, 4095, 8191]
theorem spec_l1Source.tab10 : rtab .any (opsOf Try.f93 10) = spec_l1Source.T10 := by kernel_rfl
theorem spec_l1Source.bits10 : waitsOk spec_l1Source.T10.2 spec_l1Source.B10 = true := by kernel_rfl
set_option maxHeartbeats 8000000 in
set_option maxRecDepth 100000 in
theorem spec_l1Source.calls (k : Nat) (A0 : Option Addr) (c0 : Nat) (l0 : List Int) (r1 : List Int) (r2 : Int) (r3 : Int) (r4 : Int) (w0 w : World) (hB : Below w0.heap.size w0 w) (hr0 : Kd.C (Kd.int .u8) w0 A0 l0.length l0) (hc0 : l0.length ≤ c0) (h : spec_l1Source.f k l0 = some (r1, r2, r3, r4)) :
  Calls Try.prog 93 #[.slice A0 l0.length c0] w fun e w' => ∃ c_ g_ : Nat, e = .returned (.pointer (some ⟨g_, 0, none⟩)) ∧ IsS171 c_ w0 w' g_ r1 r2 r3 r4 ∧ Below w0.heap.size w0 w' ∧ Below w.heap.size w w' := by
 have hBB := qS.mk hB
 clear hB
 replace hr0 := Kd.qW hr0 hBB.out
 have hu171 := Try.underlying113
 have HR0 := qS.mk hr0
 have HC0 := qS.mk hc0
 clear hr0 hc0
 have HB := qS.mk (Below.refl w.heap.size w)
 have H : (spec_l1Source.l0 k l0 0 ([] : List Int) 0 0 0) = some (r1, r2, r3, r4) := h
 clear h
 have HC2 := qS.mk H
 clear H
 go_enter Try.func93, Try.ntmps93
 go_upto_block 0 with (first | ((with_reducible refine gate_dst (N := 3) rfl ?_); refine qU ?hg (N := 3) ?hd (cs := #[.slice none 0 0, .int .i64 0, .int .i64 0, .int .i64 0]) (t := 113) ?hr ?_; (case hd => rfl); (case hg => rfl); (case hr => first | (go_simp; done) | (go_simp; rfl)); intro gb101 hg w3 hbox hb; have n0_ := qS.mk (qE (by repeat (first | (with_reducible first | exact HB.out | apply qA | apply qB | apply qC) | exact HB.out)) hb); have n1_ := qS.mk (hbox); have n2_ := qS.mk ((by rw [hg]; exact (qF (by repeat (first | (with_reducible first | exact HB.out | apply qA | apply qB | apply qC) | exact HB.out))) : w.heap.size ≤ gb101)); have n3_ := qS.mk ((by rw [hg]; exact (qF (by repeat (first | (with_reducible first | exact HB.out | apply qA | apply qB | apply qC) | exact HB.out))) : w.heap.size ≤ gb101)); clear HB; have HB := n0_; have BK101 := n1_; have GW101 := n2_; have GE101 := n3_; clear n0_ n1_ n2_ n3_ hb hbox hg; have hcz4_0 : w3.cell? ⟨gb101, 0, none⟩ = some (.slice none 0 0) := (qJ BK101.out 0).trans rfl; have hcz4_1 : w3.cell? ⟨gb101, 1, none⟩ = some (.int .i64 0) := (qJ BK101.out 1).trans rfl; have hcz4_2 : w3.cell? ⟨gb101, 2, none⟩ = some (.int .i64 0) := (qJ BK101.out 2).trans rfl; have hcz4_3 : w3.cell? ⟨gb101, 3, none⟩ = some (.int .i64 0) := (qJ BK101.out 3).trans rfl; have hfz4_0 := qK BK101.out 0; have hfz4_1 := qK BK101.out 1; have hfz4_2 := qK BK101.out 2; have hfz4_3 := qK BK101.out 3))
 (try simp only [Act.put, List.setIfInBounds_toArray, List.set_cons_zero, List.set_cons_succ])
 go_cut [] (fun wc => ∃ (kq : Nat) (x102000_1 : List Int) (u102000 : Value), qS (spec_l1Source.j1 kq l0 x102000_1 0 0 0 = some (r1, r2, r3, r4)) ∧ qS (kq ≤ k) ∧ qS (Kd.R (Kd.int .u8) 5 wc w.heap.size (fun _ => True) u102000 x102000_1) ∧ qS (wc.heap[gb101]? = some (.cells #[u102000, .int .i64 0, .int .i64 0, .int .i64 0] 113 (0, 0))) ∧ qS (Below w.heap.size w wc))
 case first =>
  have H := HC2.out
  clear HC2
  have H' := qS.mk H
  clear H
  go_wp2
  go_loopg [4] k (fun kq v4 w' => ∃ (x4_1 : Int) (x102000_1 : List Int) (u102000 : Value), v4 = .int .i64 x4_1 ∧ qS (spec_l1Source.l0 kq l0 x4_1 x102000_1 0 0 0 = some (r1, r2, r3, r4)) ∧ qS (kq ≤ k) ∧ qS (Kd.R (Kd.int .u8) 5 w' w.heap.size (fun _ => True) u102000 x102000_1) ∧ qS (w'.heap[gb101]? = some (.cells #[u102000, .int .i64 0, .int .i64 0, .int .i64 0] 113 (0, 0))) ∧ qS (Below w.heap.size w w'))
  case atStart => exact ⟨(0), (([] : List Int)), (.slice none 0 0), (by first | rfl | (simp; done) | (simp [*]; done)), H', ⟨Nat.le_refl _⟩, ⟨by first | exact Kd.R_nil _ _ _ _ _ | exact Kd.N_nil _ _ _ _ _ | exact Kd.V_nil _ _ _ _ _ | exact Kd.Q_nil _ _ _ _ _ | exact Kd.S_nil _ _ _ _ _⟩, ⟨by (with_reducible repeat (first | refine qH ?_ _ | refine qI ?_ | refine qG ?_ _)); refine zO (cs := #[.slice none 0 0, .int .i64 0, .int .i64 0, .int .i64 0]) ?_ 3 _ rfl; (with_reducible repeat (first | refine qH ?_ _ | refine qI ?_ | refine qG ?_ _)); refine zO (cs := #[.slice none 0 0, .int .i64 0, .int .i64 0, .int .i64 0]) ?_ 2 _ rfl; (with_reducible repeat (first | refine qH ?_ _ | refine qI ?_ | refine qG ?_ _)); refine zO (cs := #[.slice none 0 0, .int .i64 0, .int .i64 0, .int .i64 0]) ?_ 1 _ rfl; (with_reducible repeat (first | refine qH ?_ _ | refine qI ?_ | refine qG ?_ _)); refine zO (cs := #[.slice none 0 0, .int .i64 0, .int .i64 0, .int .i64 0]) ?_ 0 _ rfl; (with_reducible repeat (first | refine qH ?_ _ | refine qI ?_ | refine qG ?_ _)); exact BK101.out⟩, ⟨by repeat (first | (with_reducible first | exact HB.out | apply qA | apply qB | apply qC | refine qD ?_ GE101.out) | exact HB.out)⟩⟩
  case round =>
   clear H'
   try clear p2
   try clear hcz4_0
   try clear hcz4_1
   try clear hcz4_2
   try clear hcz4_3
   try clear hfz4_0
   try clear hfz4_1
   try clear hfz4_2
   try clear hfz4_3
   obtain ⟨x4_1, x102000_1, u102000, rfl, HA, HK1, HO_102000, BK101, HB⟩ := hrel
   cases gk with
   | zero => exact absurd HA.out (by simp [spec_l1Source.l0])
   | succ k1 =>
    have H := HA.out
    clear HA
    simp only [spec_l1Source.l0] at H
    by_cases c5 : x4_1 < (l0.length : Int)
    ·rw [if_pos c5] at H
     have c5b0 : decide (x4_1 < (l0.length : Int)) = true := decide_eq_true c5
     clear c5
     (first | rw [c5b0] | (simp only [i64_w, i32_w]; rw [c5b0]) | skip)
     by_cases c6 : x4_1 < 4000
     ·rw [if_pos c6] at H
      have c6b0 : decide (x4_1 < 4000) = true := decide_eq_true c6
      clear c6
      by_cases c7 : 0 ≤ x4_1
      ·rw [if_pos c7] at H
       have c7b0 : decide (0 ≤ x4_1) = true := decide_eq_true c7
       clear c7
       by_cases c8 : x102000_1.length < 140737488355328
       ·rw [if_pos c8] at H
        have LMc8 := qS.mk c8
        clear c8
        obtain ⟨y103, hy103⟩ : ∃ y_ : List Int, y_ = (x102000_1 ++ [rd l0 x4_1]) := ⟨_, rfl⟩
        replace H : (spec_l1Source.l0 k1 l0 (wrap64 (x4_1 + 1)) y103 0 0 0) = some (r1, r2, r3, r4) := by first | (rw [hy103]; with_reducible exact H) | (have H2_ := (Option.bind_some _ _).symm.trans H; rw [hy103]; with_reducible exact H2_) | (have H2_ := (Option.bind_some _ _).symm.trans H; with_reducible exact H2_) | with_reducible exact H | (rw [hy103]; exact H) | exact H
        have Ny103 := qS.mk hy103
        clear hy103
        have H' := qS.mk H
        clear H
        try go_wp2
        have n0_ := qS.mk (Kd.qO HO_102000.out)
        have n1_ := qS.mk (qI BK101.out)
        have n2_ := qS.mk (qC HB.out)
        clear HO_102000 BK101 HB
        have HO_102000 := n0_
        have BK101 := n1_
        have HB := n2_
        clear n0_ n1_ n2_
        have p102 : 0 ≤ (x4_1 : Int) := of_decide_eq_true (by assumption)
        have q102 : x4_1 < (l0.length : Int) := of_decide_eq_true (by assumption)
        obtain ⟨ad102, e102, hx102_0⟩ := Kd.at_int HR0.out x4_1 p102 q102
        have hw102_0 := hx102_0
        cases e102
        replace hx102_0 := (HB.out.cell (World.block_lt_of_cell? w _ hx102_0)).trans hx102_0
        replace p102 := eq_true p102
        replace q102 := eq_true q102
        refine start_ (n := 10) (S := fun w' => w'.cell? ⟨gb101, 0, none⟩ = some (u102000) ∧ w'.cell? ⟨gb101, 1, none⟩ = some (.int .i64 0) ∧ w'.cell? ⟨gb101, 2, none⟩ = some (.int .i64 0) ∧ w'.cell? ⟨gb101, 3, none⟩ = some (.int .i64 0) ∧ w'.cell? (ad102.add (x4_1).toNat) = some (.int .u8 (rd l0 x4_1))) (ds := [9]) #[false, false, false, false, false, false, false, false, false, false] (by kernel_rfl) rfl rfl ⟨(qJ BK101.out 0).trans rfl, (qJ BK101.out 1).trans rfl, (qJ BK101.out 2).trans rfl, (qJ BK101.out 3).trans rfl, ((HB.out.cell (World.block_lt_of_cell? w _ hw102_0)).trans hw102_0)⟩ (fun hHeld => ?_); refine with_tabW spec_l1Source.tab5 spec_l1Source.bits5 (fun HT_ HW_ => ?_)
        generalize wr.drew = w9 at HO_102000 BK101 HB hx102_0 hHeld ⊢
        refine pure_ (i := 0) (N := some 17) (v := ?_) (a' := ?_) #[true, false, false, false, false, false, false, false, false, false] rfl rfl (any_of HT_.out (by kernel_rfl)) (fun _ _ _ h => h) (Or.inl ⟨by rfl, ?_⟩) ?_ ?_
        rotate_left
        ·intro w'
         go_simp
         with_reducible rfl
        rotate_left
        ·simp only [Act.put, List.setIfInBounds_toArray, List.set_cons_zero, List.set_cons_succ, i64_w, i32_w]
         rfl
        refine pure_ (i := 2) (N := some 19) (v := ?_) (a' := ?_) #[true, false, true, false, false, false, false, false, false, false] rfl rfl (any_of HT_.out (by kernel_rfl)) (fun _ _ _ h => h) (Or.inl ⟨by rfl, ?_⟩) ?_ ?_
        rotate_left
        ·intro w'
         go_simp
         with_reducible rfl
        rotate_left
        ·simp only [Act.put, List.setIfInBounds_toArray, List.set_cons_zero, List.set_cons_succ, i64_w, i32_w]
         rfl
        refine pure_ (i := 3) (N := some 20) (v := ?_) (a' := ?_) #[true, false, true, true, false, false, false, false, false, false] rfl rfl (any_of HT_.out (by kernel_rfl)) (fun _ _ _ h => h) (Or.inl ⟨by rfl, ?_⟩) ?_ ?_
        rotate_left
        ·intro w'
         go_simp
         with_reducible rfl
        rotate_left
        ·simp only [Act.put, List.setIfInBounds_toArray, List.set_cons_zero, List.set_cons_succ, i64_w, i32_w]
         rfl
        refine pure_ (i := 4) (N := some 21) (v := ?_) (a' := ?_) #[true, false, true, true, true, false, false, false, false, false] rfl rfl (any_of HT_.out (by kernel_rfl)) (fun _ _ _ h => h) (Or.inl ⟨by rfl, ?_⟩) ?_ ?_
        rotate_left
        ·intro w'
         go_simp
         with_reducible rfl
        rotate_left
        ·simp only [Act.put, List.setIfInBounds_toArray, List.set_cons_zero, List.set_cons_succ, i64_w, i32_w]
         rfl
        refine take_ (i := 1) (N := some 18) (v := ?_) (a' := ?_) #[true, true, true, true, true, false, false, false, false, false] rfl rfl (take_ofW HT_.out HW_.out (by kernel_rfl)) (fun _ _ _ h => h) (Or.inl ⟨by rfl, ?_⟩) hHeld ?_ ?_
        rotate_left
        ·rintro w' ⟨s0, s1, s2, s3, s4⟩
         go_simp
         with_reducible rfl
        rotate_left
        ·simp only [Act.put, List.setIfInBounds_toArray, List.set_cons_zero, List.set_cons_succ, i64_w, i32_w]
         rfl
        refine take_ (i := 5) (N := some 22) (v := ?_) (a' := ?_) #[true, true, true, true, true, true, false, false, false, false] rfl rfl (take_ofW HT_.out HW_.out (by kernel_rfl)) (fun _ _ _ h => h) (Or.inl ⟨by rfl, ?_⟩) hHeld ?_ ?_
        rotate_left
        ·rintro w' ⟨s0, s1, s2, s3, s4⟩
         go_simp
         with_reducible rfl
        rotate_left
        ·simp only [Act.put, List.setIfInBounds_toArray, List.set_cons_zero, List.set_cons_succ, i64_w, i32_w]
         rfl
        refine one_ (i := 6) (N := some 23) #[true, true, true, true, true, true, true, false, false, false] rfl rfl (one_of HT_.out (by kernel_rfl)) (by decide) (fun K hK => ?_)
        refine value_ (w1 := ?_) (v := ?_) (by rfl) rfl ?_ ?_
        rotate_left 2
        ·go_simp
         constructor
         ·rfl
         ·rfl
        refine hK.out _ _ ⟨(qJ (qG BK101.out _) 0).trans rfl, (qJ (qG BK101.out _) 1).trans rfl, (qJ (qG BK101.out _) 2).trans rfl, (qJ (qG BK101.out _) 3).trans rfl, (World.cell?_alloc_lt _ _ _ (World.block_lt_of_cell? _ _ (((HB.out.cell (World.block_lt_of_cell? w _ hw102_0)).trans hw102_0)))).trans (((HB.out.cell (World.block_lt_of_cell? w _ hw102_0)).trans hw102_0))⟩ (fun hHeld => ?_)
        clear hK K
        refine norm_ (a' := ?_) ?_ ?_
        rotate_left
        ·show Act.put _ (some 23) _ = _
         simp only [Act.put, List.setIfInBounds_toArray, List.set_cons_zero, List.set_cons_succ, i64_w, i32_w]
         rfl
        refine one_ (i := 7) (N := some 24) #[true, true, true, true, true, true, true, true, false, false] rfl rfl (one_of HT_.out (by kernel_rfl)) (by decide) (fun K hK => ?_)
        refine Kd.R_append_step (Kd.int .u8) (w0 := w) w.heap.size (by rfl) (.tmp 18) (.tmp 23) 58 5 (.int .u8 0) 1 rfl Try.underlying58 info5 rfl (by decide) (by omega) u102000 x102000_1 (rd l0 x4_1) [.int .u8 (rd l0 x4_1)] (fun _ => True) (fun _ => False) rfl rfl ?aP (fun _ hk => hk.elim) ?aF ?aO ?aB ?aS ?aL ?_
        (case aP => exact rfl)
        (case aB => exact (by repeat (first | (with_reducible first | exact HB.out | apply qA | apply qB | apply qC | refine qD ?_ GE101.out) | exact HB.out)))
        (case aF => exact (fun _ _ => trivial))
        (case aO => exact (by (with_reducible repeat (first | apply Kd.qM | apply Kd.qN | apply Kd.qO)); exact HO_102000.out))
        (case aS => exact (qF (by repeat (first | (with_reducible first | exact HB.out | apply qA | apply qB | apply qC | refine qD ?_ GE101.out) | exact HB.out))))
        (case aL => have := LMc8.out; omega)
        intro v104 w10 ho hb hg hat
        rw [← Ny103.out] at ho
        have n0_ := qS.mk (blk_grown (g := gb101) (o := .cells #[u102000, .int .i64 0, .int .i64 0, .int .i64 0] 113 (0, 0)) (by (with_reducible repeat (first | refine qH ?_ _ | refine qI ?_ | refine qG ?_ _)); exact BK101.out) hg (Kd.R_ne HO_102000.out BK101.out (by decide)))
        have n1_ := qS.mk (hb)
        have n2_ := qS.mk (ho)
        clear BK101 HB HO_102000
        have BK101 := n0_
        have HB := n1_
        have HO105 := n2_
        clear n0_ n1_ n2_
        clear ho hb hg hat
        obtain ⟨Ao11, co11, eo11⟩ := Kd.qX HO105.out
        (first | subst eo11 | (injection eo11 with f1_ f2_ f3_; have f4_ := f1_.symm; have f5_ := f3_.symm; clear f1_ f2_ f3_; subst f4_; subst f5_))
        refine hK.out _ _ ⟨(qJ BK101.out 0).trans rfl, (qJ BK101.out 1).trans rfl, (qJ BK101.out 2).trans rfl, (qJ BK101.out 3).trans rfl, ((HB.out.cell (World.block_lt_of_cell? w _ hw102_0)).trans hw102_0)⟩ (fun hHeld => ?_)
        clear hK K
        refine norm_ (a' := ?_) ?_ ?_
        rotate_left
        ·show Act.put _ (some 24) _ = _
         simp only [Act.put, List.setIfInBounds_toArray, List.set_cons_zero, List.set_cons_succ, i64_w, i32_w]
         rfl
        refine pure_ (i := 8) (N := some 25) (v := ?_) (a' := ?_) #[true, true, true, true, true, true, true, true, true, false] rfl rfl (any_of HT_.out (by kernel_rfl)) (fun _ _ _ h => h) (Or.inl ⟨by rfl, ?_⟩) ?_ ?_
        rotate_left
        ·intro w'
         go_simp
         with_reducible rfl
        rotate_left
        ·simp only [Act.put, List.setIfInBounds_toArray, List.set_cons_zero, List.set_cons_succ, i64_w, i32_w]
         rfl
        refine last_ (i := 9) (N := none) #[true, true, true, true, true, true, true, true, true, true] rfl rfl (one_of HT_.out (by kernel_rfl)) (by decide) (fun K hK => ?_)
        have hs12 : w10.cell? ⟨gb101, 0, none⟩ = some (u102000) := (qJ BK101.out 0).trans rfl
        have hfs12 := qK BK101.out 0
        refine skip_ (w1 := ?_) (by rfl) rfl ?_ ?_
        rotate_left
        ·go_simp
         rfl
        refine hK.out _ _ ?_
        clear hK K
        refine done_ (done_of HT_.out (by kernel_rfl)) ?_
        try go_wp2
        go_roundg k1
        case measure => have := HK1.out; omega
        case rel => exact ⟨(wrap64 (x4_1 + 1)), (y103), (.slice Ao11 y103.length co11), (by first | rfl | (simp; done) | (simp [*]; done)), H', ⟨by have := HK1.out; omega⟩, ⟨by (with_reducible repeat (first | apply Kd.qM | apply Kd.qN | apply Kd.qO)); exact Kd.qZ (Kd.R_far (p := ⟨gb101, 0, none⟩) (Kd.R_types HO105.out BK101.out (by decide)) (fun _ hk => hk.2) (.slice Ao11 y103.length co11)) (fun _ hk => trivial)⟩, ⟨by (with_reducible repeat (first | refine qH ?_ _ | refine qI ?_ | refine qG ?_ _)); refine zO (cs := #[u102000, .int .i64 0, .int .i64 0, .int .i64 0]) ?_ 0 _ rfl; (with_reducible repeat (first | refine qH ?_ _ | refine qI ?_ | refine qG ?_ _)); exact BK101.out⟩, ⟨by repeat (first | (with_reducible first | exact HB.out | apply qA | apply qB | apply qC | refine qD ?_ GE101.out) | exact HB.out)⟩⟩
       ·rw [if_neg c8] at H
        exact absurd H (by simp)
      ·rw [if_neg c7] at H
       exact absurd H (by simp)
     ·rw [if_neg c6] at H
      have c6b0 : decide (x4_1 < 4000) = false := decide_eq_false c6
      clear c6
      have H' := qS.mk H
      clear H
      go_wp2
      go_meet
      case rel => exact ⟨_, (x102000_1), (u102000), H', ⟨by have := HK1.out; first | omega | exact Nat.le_refl _⟩, ⟨by (with_reducible repeat (first | apply Kd.qM | apply Kd.qN | apply Kd.qO)); exact HO_102000.out⟩, ⟨by (with_reducible repeat (first | refine qH ?_ _ | refine qI ?_ | refine qG ?_ _)); exact BK101.out⟩, ⟨by repeat (first | (with_reducible first | exact HB.out | apply qA | apply qB | apply qC | refine qD ?_ GE101.out) | exact HB.out)⟩⟩
    ·rw [if_neg c5] at H
     have c5b0 : decide (x4_1 < (l0.length : Int)) = false := decide_eq_false c5
     clear c5
     (first | rw [c5b0] | (simp only [i64_w, i32_w]; rw [c5b0]) | skip)
     have H' := qS.mk H
     clear H
     go_wp2
     go_meet
     case rel => exact ⟨_, (x102000_1), (u102000), H', ⟨by have := HK1.out; first | omega | exact Nat.le_refl _⟩, ⟨by (with_reducible repeat (first | apply Kd.qM | apply Kd.qN | apply Kd.qO)); exact HO_102000.out⟩, ⟨by (with_reducible repeat (first | refine qH ?_ _ | refine qI ?_ | refine qG ?_ _)); exact BK101.out⟩, ⟨by repeat (first | (with_reducible first | exact HB.out | apply qA | apply qB | apply qC | refine qD ?_ GE101.out) | exact HB.out)⟩⟩
 case rest =>
  clear HC2
  try clear p1
  try clear q1
  try clear hx1
  try clear p2
  try clear c5
  try clear c5b0
  try clear c6
  try clear c6b0
  try clear p6
  try clear c7
  try clear c7b0
  try clear c8
  try clear c9
  try clear p10
  try clear q10
  try clear hx10
  try clear hcz4_0
  try clear hcz4_1
  try clear hcz4_2
  try clear hcz4_3
  try clear hfz4_0
  try clear hfz4_1
  try clear hfz4_2
  try clear hfz4_3
  try clear hx102_0
  try clear p102
  try clear p2
  try clear q102
  obtain ⟨kq, x102000_1, u102000, HA, HJ1, HO_102000, BK101, HB⟩ := hcut
  cases kq with
  | zero => exact absurd HA.out (by simp [spec_l1Source.j1])
  | succ kj1 =>
   have H := HA.out
   clear HA
   simp only [spec_l1Source.j1] at H
   have H' := qS.mk H
   clear H
   have hcz13_0 : wc.cell? ⟨gb101, 0, none⟩ = some (u102000) := (qJ BK101.out 0).trans rfl
   have hcz13_1 : wc.cell? ⟨gb101, 1, none⟩ = some (.int .i64 0) := (qJ BK101.out 1).trans rfl
   have hcz13_2 : wc.cell? ⟨gb101, 2, none⟩ = some (.int .i64 0) := (qJ BK101.out 2).trans rfl
   have hcz13_3 : wc.cell? ⟨gb101, 3, none⟩ = some (.int .i64 0) := (qJ BK101.out 3).trans rfl
   have hfz13_0 := qK BK101.out 0
   have hfz13_1 := qK BK101.out 1
   have hfz13_2 := qK BK101.out 2
   have hfz13_3 := qK BK101.out 3
   go_wp2
   go_loopg [5] kj1 (fun kq v5 w' => ∃ (x5_2 : Int) (x102002_2 : Int), v5 = .int .i64 x5_2 ∧ qS (spec_l1Source.l1 kq x5_2 x102000_1 0 x102002_2 0 = some (r1, r2, r3, r4)) ∧ qS (kq ≤ kj1) ∧ qS (Kd.R (Kd.int .u8) 5 w' w.heap.size (fun _ => True) u102000 x102000_1) ∧ qS (w'.heap[gb101]? = some (.cells #[u102000, .int .i64 0, .int .i64 x102002_2, .int .i64 0] 113 (0, 0))) ∧ qS (Below w.heap.size w w'))
   case atStart => exact ⟨(0), (((l0.length : Int) % 1000) + 41), (by first | rfl | (simp; done) | (simp [*]; done)), H', ⟨Nat.le_refl _⟩, ⟨by (with_reducible repeat (first | apply Kd.qM | apply Kd.qN | apply Kd.qO)); exact Kd.qZ (Kd.R_far (p := ⟨gb101, 2, none⟩) (Kd.R_types HO_102000.out BK101.out (by decide)) (fun _ hk => hk.2) (.int .i64 (((l0.length : Int) % 1000) + 41))) (fun _ hk => trivial)⟩, ⟨by (with_reducible repeat (first | refine qH ?_ _ | refine qI ?_ | refine qG ?_ _)); refine zO (cs := #[u102000, .int .i64 0, .int .i64 0, .int .i64 0]) ?_ 2 _ rfl; (with_reducible repeat (first | refine qH ?_ _ | refine qI ?_ | refine qG ?_ _)); exact BK101.out⟩, ⟨by repeat (first | (with_reducible first | exact HB.out | apply qA | apply qB | apply qC | refine qD ?_ GE101.out) | exact HB.out)⟩⟩
   case round =>
    clear H'
    try clear p1
    try clear q1
    try clear hx1
    try clear p2
    try clear c5
    try clear c5b0
    try clear c6
    try clear c6b0
    try clear p6
    try clear c7
    try clear c7b0
    try clear c8
    try clear c9
    try clear p10
    try clear q10
    try clear hx10
    try clear hcz13_0
    try clear hcz13_1
    try clear hcz13_2
    try clear hcz13_3
    try clear hcz4_0
    try clear hcz4_1
    try clear hcz4_2
    try clear hcz4_3
    try clear hfz13_0
    try clear hfz13_1
    try clear hfz13_2
    try clear hfz13_3
    try clear hfz4_0
    try clear hfz4_1
    try clear hfz4_2
    try clear hfz4_3
    try clear hx102_0
    try clear p1
    try clear p10
    try clear p102
    try clear p2
    try clear p6
    try clear q1
    try clear q10
    try clear q102
    obtain ⟨x5_2, x102002_2, rfl, HA, HK2, HO_102000, BK101, HB⟩ := hrel
    cases gk with
    | zero => exact absurd HA.out (by simp [spec_l1Source.l1])
    | succ k2 =>
     have H := HA.out
     clear HA
     simp only [spec_l1Source.l1] at H
     by_cases c14 : x5_2 < (x102000_1.length : Int)
     ·rw [if_pos c14] at H
      have c14b0 : decide (x5_2 < (x102000_1.length : Int)) = true := decide_eq_true c14
      clear c14
      by_cases c15 : 0 ≤ x5_2
      ·rw [if_pos c15] at H
       have c15b0 : decide (0 ≤ x5_2) = true := decide_eq_true c15
       clear c15
       have H' := qS.mk H
       clear H
       have hcz16_0 : wr.cell? ⟨gb101, 0, none⟩ = some (u102000) := (qJ BK101.out 0).trans rfl
       have hcz16_1 : wr.cell? ⟨gb101, 1, none⟩ = some (.int .i64 0) := (qJ BK101.out 1).trans rfl
       have hcz16_2 : wr.cell? ⟨gb101, 2, none⟩ = some (.int .i64 x102002_2) := (qJ BK101.out 2).trans rfl
       have hcz16_3 : wr.cell? ⟨gb101, 3, none⟩ = some (.int .i64 0) := (qJ BK101.out 3).trans rfl
       have hfz16_0 := qK BK101.out 0
       have hfz16_1 := qK BK101.out 1
       have hfz16_2 := qK BK101.out 2
       have hfz16_3 := qK BK101.out 3
       obtain ⟨Ao17, co17, eo17⟩ := Kd.qX HO_102000.out
       subst eo17
       try go_wp2
       have n0_ := qS.mk (Kd.qO HO_102000.out)
       have n1_ := qS.mk (qI BK101.out)
       have n2_ := qS.mk (qC HB.out)
       clear HO_102000 BK101 HB
       have HO_102000 := n0_
       have BK101 := n1_
       have HB := n2_
       clear n0_ n1_ n2_
       have p106 : 0 ≤ (x5_2 : Int) := of_decide_eq_true (by assumption)
       have q106 : x5_2 < (x102000_1.length : Int) := of_decide_eq_true (by assumption)
       obtain ⟨ad106, e106, hx106_0⟩ := Kd.at_int (Kd.qY HO_102000.out).2.2 x5_2 p106 q106
       cases e106
       replace p106 := eq_true p106
       replace q106 := eq_true q106
       refine start_ (n := 14) (S := fun w' => w'.cell? ⟨gb101, 0, none⟩ = some (.slice (some ad106) x102000_1.length co17) ∧ w'.cell? ⟨gb101, 1, none⟩ = some (.int .i64 0) ∧ w'.cell? ⟨gb101, 2, none⟩ = some (.int .i64 x102002_2) ∧ w'.cell? ⟨gb101, 3, none⟩ = some (.int .i64 0) ∧ w'.cell? (ad106.add (x5_2).toNat) = some (.int .u8 (rd x102000_1 x5_2))) (ds := [13]) #[false, false, false, false, false, false, false, false, false, false, false, false, false, false] (by kernel_rfl) rfl rfl ⟨(qJ BK101.out 0).trans rfl, (qJ BK101.out 1).trans rfl, (qJ BK101.out 2).trans rfl, (qJ BK101.out 3).trans rfl, hx106_0⟩ (fun hHeld => ?_); refine with_tabW spec_l1Source.tab10 spec_l1Source.bits10 (fun HT_ HW_ => ?_)
       generalize wr.drew = w18 at HO_102000 BK101 HB hx106_0 hHeld ⊢
       refine pure_ (i := 0) (N := some 38) (v := ?_) (a' := ?_) #[true, false, false, false, false, false, false, false, false, false, false, false, false, false] rfl rfl (any_of HT_.out (by kernel_rfl)) (fun _ _ _ h => h) (Or.inl ⟨by rfl, ?_⟩) ?_ ?_
       rotate_left
       ·intro w'
        go_simp
        with_reducible rfl
       rotate_left
       ·simp only [Act.put, List.setIfInBounds_toArray, List.set_cons_zero, List.set_cons_succ, i64_w, i32_w]
        rfl
       refine pure_ (i := 3) (N := some 41) (v := ?_) (a' := ?_) #[true, false, false, true, false, false, false, false, false, false, false, false, false, false] rfl rfl (any_of HT_.out (by kernel_rfl)) (fun _ _ _ h => h) (Or.inl ⟨by rfl, ?_⟩) ?_ ?_
       rotate_left
       ·intro w'
        go_simp
        with_reducible rfl
       rotate_left
       ·simp only [Act.put, List.setIfInBounds_toArray, List.set_cons_zero, List.set_cons_succ, i64_w, i32_w]
        rfl
       refine pure_ (i := 5) (N := some 43) (v := ?_) (a' := ?_) #[true, false, false, true, false, true, false, false, false, false, false, false, false, false] rfl rfl (any_of HT_.out (by kernel_rfl)) (fun _ _ _ h => h) (Or.inl ⟨by rfl, ?_⟩) ?_ ?_
       rotate_left
       ·intro w'
        go_simp
        with_reducible rfl
       rotate_left
       ·simp only [Act.put, List.setIfInBounds_toArray, List.set_cons_zero, List.set_cons_succ, i64_w, i32_w]
        rfl
       refine take_ (i := 1) (N := some 39) (v := ?_) (a' := ?_) #[true, true, false, true, false, true, false, false, false, false, false, false, false, false] rfl rfl (take_ofW HT_.out HW_.out (by kernel_rfl)) (fun _ _ _ h => h) (Or.inl ⟨by rfl, ?_⟩) hHeld ?_ ?_
       rotate_left
       ·rintro w' ⟨s0, s1, s2, s3, s4⟩
        go_simp
        with_reducible rfl
       rotate_left
       ·simp only [Act.put, List.setIfInBounds_toArray, List.set_cons_zero, List.set_cons_succ, i64_w, i32_w]
        rfl
       refine pure_ (i := 2) (N := some 40) (v := ?_) (a' := ?_) #[true, true, true, true, false, true, false, false, false, false, false, false, false, false] rfl rfl (any_of HT_.out (by kernel_rfl)) (fun _ _ _ h => h) (Or.inl ⟨by rfl, ?_⟩) ?_ ?_
       rotate_left
       ·intro w'
        go_simp
        with_reducible rfl
       rotate_left
       ·simp only [Act.put, List.setIfInBounds_toArray, List.set_cons_zero, List.set_cons_succ, i64_w, i32_w]
        rfl
       refine take_ (i := 4) (N := some 42) (v := ?_) (a' := ?_) #[true, true, true, true, true, true, false, false, false, false, false, false, false, false] rfl rfl (take_ofW HT_.out HW_.out (by kernel_rfl)) (fun _ _ _ h => h) (Or.inl ⟨by rfl, ?_⟩) hHeld ?_ ?_
       rotate_left
       ·rintro w' ⟨s0, s1, s2, s3, s4⟩
        go_simp
        with_reducible rfl
       rotate_left
       ·simp only [Act.put, List.setIfInBounds_toArray, List.set_cons_zero, List.set_cons_succ, i64_w, i32_w]
        rfl
       refine pure_ (i := 6) (N := some 44) (v := ?_) (a' := ?_) #[true, true, true, true, true, true, true, false, false, false, false, false, false, false] rfl rfl (any_of HT_.out (by kernel_rfl)) (fun _ _ _ h => h) (Or.inl ⟨by rfl, ?_⟩) ?_ ?_
       rotate_left
       ·intro w'
        go_simp
        with_reducible rfl
       rotate_left
       ·simp only [Act.put, List.setIfInBounds_toArray, List.set_cons_zero, List.set_cons_succ, i64_w, i32_w]
        rfl
       refine take_ (i := 7) (N := some 45) (v := ?_) (a' := ?_) #[true, true, true, true, true, true, true, true, false, false, false, false, false, false] rfl rfl (take_ofW HT_.out HW_.out (by kernel_rfl)) (fun _ _ _ h => h) (Or.inl ⟨by rfl, ?_⟩) hHeld ?_ ?_
       rotate_left
       ·rintro w' ⟨s0, s1, s2, s3, s4⟩
        go_simp
        with_reducible rfl
       rotate_left
       ·simp only [Act.put, List.setIfInBounds_toArray, List.set_cons_zero, List.set_cons_succ, i64_w, i32_w]
        rfl
       refine pure_ (i := 8) (N := some 46) (v := ?_) (a' := ?_) #[true, true, true, true, true, true, true, true, true, false, false, false, false, false] rfl rfl (any_of HT_.out (by kernel_rfl)) (fun _ _ _ h => h) (Or.inl ⟨by rfl, ?_⟩) ?_ ?_
       rotate_left
       ·intro w'
        go_simp
        with_reducible rfl
       rotate_left
       ·simp only [Act.put, List.setIfInBounds_toArray, List.set_cons_zero, List.set_cons_succ, i64_w, i32_w]
        rfl
       refine pure_ (i := 9) (N := some 47) (v := ?_) (a' := ?_) #[true, true, true, true, true, true, true, true, true, true, false, false, false, false] rfl rfl (any_of HT_.out (by kernel_rfl)) (fun _ _ _ h => h) (Or.inl ⟨by rfl, ?_⟩) ?_ ?_
       rotate_left
       ·intro w'
        go_simp
        with_reducible rfl
       rotate_left
       ·simp only [Act.put, List.setIfInBounds_toArray, List.set_cons_zero, List.set_cons_succ, i64_w, i32_w]
        rfl
       refine pure_ (i := 10) (N := some 48) (v := ?_) (a' := ?_) #[true, true, true, true, true, true, true, true, true, true, true, false, false, false] rfl rfl (any_of HT_.out (by kernel_rfl)) (fun _ _ _ h => h) (Or.inl ⟨by rfl, ?_⟩) ?_ ?_
       rotate_left
       ·intro w'
        go_simp
        with_reducible rfl
       rotate_left
       ·simp only [Act.put, List.setIfInBounds_toArray, List.set_cons_zero, List.set_cons_succ, i64_w, i32_w]
        rfl
       refine pure_ (i := 11) (N := some 49) (v := ?_) (a' := ?_) #[true, true, true, true, true, true, true, true, true, true, true, true, false, false] rfl rfl (any_of HT_.out (by kernel_rfl)) (fun _ _ _ h => h) (Or.inl ⟨by rfl, ?_⟩) ?_ ?_
       rotate_left
       ·intro w'
        go_simp
        with_reducible rfl
       rotate_left
       ·simp only [Act.put, List.setIfInBounds_toArray, List.set_cons_zero, List.set_cons_succ, i64_w, i32_w]
        rfl
       refine pure_ (i := 12) (N := some 50) (v := ?_) (a' := ?_) #[true, true, true, true, true, true, true, true, true, true, true, true, true, false] rfl rfl (any_of HT_.out (by kernel_rfl)) (fun _ _ _ h => h) (Or.inl ⟨by rfl, ?_⟩) ?_ ?_
       rotate_left
       ·intro w'
        go_simp
        with_reducible rfl
       rotate_left
       ·simp only [Act.put, List.setIfInBounds_toArray, List.set_cons_zero, List.set_cons_succ, i64_w, i32_w]
        rfl
       refine last_ (i := 13) (N := none) #[true, true, true, true, true, true, true, true, true, true, true, true, true, true] rfl rfl (one_of HT_.out (by kernel_rfl)) (by decide) (fun K hK => ?_)
       have hs19 : w18.cell? ⟨gb101, 2, none⟩ = some (.int .i64 x102002_2) := (qJ BK101.out 2).trans rfl
       have hfs19 := qK BK101.out 2
       refine skip_ (w1 := ?_) (by rfl) rfl ?_ ?_
       rotate_left
       ·go_simp
        rfl
       refine hK.out _ _ ?_
       clear hK K
       refine done_ (done_of HT_.out (by kernel_rfl)) ?_
       try go_wp2
       go_roundg k2
       case measure => have := HJ1.out; have := HK2.out; omega
       case rel => exact ⟨(wrap64 (x5_2 + 1)), (Int.tmod (wrap64 ((wrap64 ((wrap64 (x102002_2 * 257)) + (wrap64 (rd x102000_1 x5_2)))) + 1)) 1000003), (by first | rfl | (simp; done) | (simp [*]; done)), H', ⟨by have := HJ1.out; have := HK2.out; omega⟩, ⟨by (with_reducible repeat (first | apply Kd.qM | apply Kd.qN | apply Kd.qO)); exact Kd.qZ (Kd.R_far (p := ⟨gb101, 2, none⟩) (Kd.R_types HO_102000.out BK101.out (by decide)) (fun _ hk => hk.2) (.int .i64 (Int.tmod (wrap64 ((wrap64 ((wrap64 (x102002_2 * 257)) + (wrap64 (rd x102000_1 x5_2)))) + 1)) 1000003))) (fun _ hk => trivial)⟩, ⟨by (with_reducible repeat (first | refine qH ?_ _ | refine qI ?_ | refine qG ?_ _)); refine zO (cs := #[.slice (some ad106) x102000_1.length co17, .int .i64 0, .int .i64 x102002_2, .int .i64 0]) ?_ 2 _ rfl; (with_reducible repeat (first | refine qH ?_ _ | refine qI ?_ | refine qG ?_ _)); exact BK101.out⟩, ⟨by repeat (first | (with_reducible first | exact HB.out | apply qA | apply qB | apply qC | refine qD ?_ GE101.out) | exact HB.out)⟩⟩
      ·rw [if_neg c15] at H
       exact absurd H (by simp)
     ·rw [if_neg c14] at H
      have c14b0 : decide (x5_2 < (x102000_1.length : Int)) = false := decide_eq_false c14
      clear c14
      by_cases c20 : (wrap64 (1 + (wrap64 ((x102000_1.length : Int) / 50)))) > 7
      ·rw [if_pos c20] at H
       have c20b0 : decide (7 < (wrap64 (1 + (wrap64 ((x102000_1.length : Int) / 50))))) = true := decide_eq_true c20
       clear c20
       simp only [Option.some.injEq, Prod.mk.injEq] at H
       obtain ⟨rfl, rfl, rfl, rfl⟩ := H
       have hcz21_0 : wr.cell? ⟨gb101, 0, none⟩ = some (u102000) := (qJ BK101.out 0).trans rfl
       have hcz21_1 : wr.cell? ⟨gb101, 1, none⟩ = some (.int .i64 0) := (qJ BK101.out 1).trans rfl
       have hcz21_2 : wr.cell? ⟨gb101, 2, none⟩ = some (.int .i64 x102002_2) := (qJ BK101.out 2).trans rfl
       have hcz21_3 : wr.cell? ⟨gb101, 3, none⟩ = some (.int .i64 0) := (qJ BK101.out 3).trans rfl
       have hfz21_0 := qK BK101.out 0
       have hfz21_1 := qK BK101.out 1
       have hfz21_2 := qK BK101.out 2
       have hfz21_3 := qK BK101.out 3
       obtain ⟨Ao22, co22, eo22⟩ := Kd.qX HO_102000.out
       subst eo22
       go_wp2
       go_ret
       refine IsS171.done (base := w.heap.size) (A0 := Ao22) (c0 := co22) hBB.out ?_ ?_ GE101.out ?_
       ·repeat (first | (with_reducible first | exact HB.out | apply qA | apply qB | apply qC | refine qD ?_ GE101.out) | exact HB.out)
       ·(with_reducible repeat (first | refine qH ?_ _ | refine qI ?_ | refine qG ?_ _)); refine zO (cs := #[.slice Ao22 x102000_1.length co22, .int .i64 0, .int .i64 x102002_2, .int .i64 (wrap64 (1 + (wrap64 ((x102000_1.length : Int) / 50))))]) ?_ 3 _ rfl; (with_reducible repeat (first | refine qH ?_ _ | refine qI ?_ | refine qG ?_ _)); refine zO (cs := #[.slice Ao22 x102000_1.length co22, .int .i64 0, .int .i64 x102002_2, .int .i64 0]) ?_ 3 _ rfl; (with_reducible repeat (first | refine qH ?_ _ | refine qI ?_ | refine qG ?_ _)); exact BK101.out
       ·(with_reducible repeat (first | apply Kd.qM | apply Kd.qN | apply Kd.qO)); exact Kd.qZ (Kd.R_far (p := ⟨gb101, 3, none⟩) (Kd.R_far (p := ⟨gb101, 3, none⟩) (Kd.R_types HO_102000.out BK101.out (by decide)) (fun _ hk => hk.2) (.int .i64 (wrap64 (1 + (wrap64 ((x102000_1.length : Int) / 50)))))) (fun _ hk => hk.2) (.int .i64 7)) (fun _ hk => trivial)
      ·rw [if_neg c20] at H
       have c20b0 : decide (7 < (wrap64 (1 + (wrap64 ((x102000_1.length : Int) / 50))))) = false := decide_eq_false c20
       clear c20
       simp only [Option.some.injEq, Prod.mk.injEq] at H
       obtain ⟨rfl, rfl, rfl, rfl⟩ := H
       have hcz23_0 : wr.cell? ⟨gb101, 0, none⟩ = some (u102000) := (qJ BK101.out 0).trans rfl
       have hcz23_1 : wr.cell? ⟨gb101, 1, none⟩ = some (.int .i64 0) := (qJ BK101.out 1).trans rfl
       have hcz23_2 : wr.cell? ⟨gb101, 2, none⟩ = some (.int .i64 x102002_2) := (qJ BK101.out 2).trans rfl
       have hcz23_3 : wr.cell? ⟨gb101, 3, none⟩ = some (.int .i64 0) := (qJ BK101.out 3).trans rfl
       have hfz23_0 := qK BK101.out 0
       have hfz23_1 := qK BK101.out 1
       have hfz23_2 := qK BK101.out 2
       have hfz23_3 := qK BK101.out 3
       obtain ⟨Ao24, co24, eo24⟩ := Kd.qX HO_102000.out
       subst eo24
       go_wp2
       go_ret
       refine IsS171.done (base := w.heap.size) (A0 := Ao24) (c0 := co24) hBB.out ?_ ?_ GE101.out ?_
       ·repeat (first | (with_reducible first | exact HB.out | apply qA | apply qB | apply qC | refine qD ?_ GE101.out) | exact HB.out)
       ·(with_reducible repeat (first | refine qH ?_ _ | refine qI ?_ | refine qG ?_ _)); refine zO (cs := #[.slice Ao24 x102000_1.length co24, .int .i64 0, .int .i64 x102002_2, .int .i64 0]) ?_ 3 _ rfl; (with_reducible repeat (first | refine qH ?_ _ | refine qI ?_ | refine qG ?_ _)); exact BK101.out
       ·(with_reducible repeat (first | apply Kd.qM | apply Kd.qN | apply Kd.qO)); exact Kd.qZ (Kd.R_far (p := ⟨gb101, 3, none⟩) (Kd.R_types HO_102000.out BK101.out (by decide)) (fun _ hk => hk.2) (.int .i64 (wrap64 (1 + (wrap64 ((x102000_1.length : Int) / 50)))))) (fun _ hk => trivial)

def spec_l1Next.f (s0_0 : List Int) (s0_1 : Int) (s0_2 : Int) (s0_3 : Int) (a1 : Int) : Option (Int × Int × Int × Int) := if a1 ≤ 1 then (some (0, s0_1, s0_2, s0_3)) else (if s0_1 < (s0_0.length : Int) then (if a1 ≤ 256 then (if 0 ≤ s0_1 then (if a1 = 0 then (none) else (some (Int.tmod (wrap64 (rd s0_0 s0_1)) a1, wrap64 (s0_1 + 1), s0_2, s0_3))) else (none)) else (if a1 = 0 then (none) else (some (Int.tmod (wrap64 (Int.tdiv (Int.tmod (wrap64 ((wrap64 (s0_2 * 1103)) + 12347)) 1000003) 3)) a1, s0_1, Int.tmod (wrap64 ((wrap64 (s0_2 * 1103)) + 12347)) 1000003, s0_3)))) else (if a1 = 0 then (none) else (some (Int.tmod (wrap64 (Int.tdiv (Int.tmod (wrap64 ((wrap64 (s0_2 * 1103)) + 12347)) 1000003) 3)) a1, s0_1, Int.tmod (wrap64 ((wrap64 (s0_2 * 1103)) + 12347)) 1000003, s0_3))))
set_option maxHeartbeats 8000000 in
set_option maxRecDepth 100000 in
theorem spec_l1Next.calls (c_ g : Nat) (s0_0 : List Int) (s0_1 : Int) (s0_2 : Int) (s0_3 : Int) (a1 : Int) (r1 : Int) (r2 : Int) (r3 : Int) (r4 : Int) (w0 w : World) (hI : IsS171 c_ w0 w g s0_0 s0_1 s0_2 s0_3) (hB : Below w0.heap.size w0 w) (h : spec_l1Next.f s0_0 s0_1 s0_2 s0_3 a1 = some (r1, r2, r3, r4)) :
  Calls Try.prog 94 #[.pointer (some ⟨g, 0, none⟩), .int .i64 a1] w fun e w' => e = .returned (.int .i64 r1) ∧ IsS171 c_ w0 w' g s0_0 r2 r3 r4 ∧ Below w0.heap.size w0 w' ∧ KeepBut w w' g none := by
 have HI0 := qS.mk hI
 have HK := qS.mk (KeepBut.refl w g none)
 have HL := qS.mk hB.size
 clear hI
 have HW0 := qS.mk hB.size
 have HB := qS.mk hB
 clear hB
 have H : (if a1 ≤ 1 then (some (0, s0_1, s0_2, s0_3)) else (if s0_1 < (s0_0.length : Int) then (if a1 ≤ 256 then (if 0 ≤ s0_1 then (if a1 = 0 then (none) else (some (Int.tmod (wrap64 (rd s0_0 s0_1)) a1, wrap64 (s0_1 + 1), s0_2, s0_3))) else (none)) else (if a1 = 0 then (none) else (some (Int.tmod (wrap64 (Int.tdiv (Int.tmod (wrap64 ((wrap64 (s0_2 * 1103)) + 12347)) 1000003) 3)) a1, s0_1, Int.tmod (wrap64 ((wrap64 (s0_2 * 1103)) + 12347)) 1000003, s0_3)))) else (if a1 = 0 then (none) else (some (Int.tmod (wrap64 (Int.tdiv (Int.tmod (wrap64 ((wrap64 (s0_2 * 1103)) + 12347)) 1000003) 3)) a1, s0_1, Int.tmod (wrap64 ((wrap64 (s0_2 * 1103)) + 12347)) 1000003, s0_3))))) = some (r1, r2, r3, r4) := h
 clear h
 by_cases c3 : a1 ≤ 1
 ·rw [if_pos c3] at H
  have c3b0 : decide (a1 ≤ 1) = true := decide_eq_true c3
  clear c3
  simp only [Option.some.injEq, Prod.mk.injEq] at H
  obtain ⟨rfl, rfl, rfl, rfl⟩ := H
  go_enter Try.func94, Try.ntmps94
  go_wp2
  repeat (go_quiet (fail); try go_wp2)
  go_ret
  exact ⟨by first | rfl | (simp [zG, zF] <;> rfl) | (simp [*, zG, zF] <;> rfl), by repeat (first | (with_reducible first | exact HI0.out | apply IsS171.alloc | apply IsS171.drewN | apply IsS171.drew | apply IsS171.set_1 | apply IsS171.set_2 | apply IsS171.set_3) | exact HI0.out), by repeat (first | (with_reducible first | exact HB.out | apply qA | apply qB | apply qC | refine qD ?_ (IsS171.ge HI0.out)) | exact HB.out), by repeat (first | (with_reducible first | exact HK.out | apply KeepBut.set_ | apply keep_drewN | apply keep_drew | apply keep_alloc) | exact HK.out)⟩
 ·rw [if_neg c3] at H
  have c3b0 : decide (a1 ≤ 1) = false := decide_eq_false c3
  clear c3
  by_cases c4 : s0_1 < (s0_0.length : Int)
  ·rw [if_pos c4] at H
   have c4b0 : decide (s0_1 < (s0_0.length : Int)) = true := decide_eq_true c4
   clear c4
   by_cases c5 : a1 ≤ 256
   ·rw [if_pos c5] at H
    have c5b0 : decide (a1 ≤ 256) = true := decide_eq_true c5
    clear c5
    by_cases c6 : 0 ≤ s0_1
    ·rw [if_pos c6] at H
     have c6b0 : decide (0 ≤ s0_1) = true := decide_eq_true c6
     clear c6
     by_cases c7 : a1 = 0
     ·rw [if_pos c7] at H
      exact absurd H (by simp)
     ·rw [if_neg c7] at H
      have c7b0 : (a1 == 0) = false := beq_eq_false_iff_ne.mpr c7
      have c7b1 : (a1 != 0) = true := bne_iff_ne.mpr c7
      simp only [Option.some.injEq, Prod.mk.injEq] at H
      obtain ⟨rfl, rfl, rfl, rfl⟩ := H
      obtain ⟨ASz8_0, cSz8_0, HGz8, hgz8, HSz8_0⟩ := HI0.out
      have hcz8_0 := cellS171_0 HGz8
      have hcz8_1 := cellS171_1 HGz8
      have hcz8_2 := cellS171_2 HGz8
      have hcz8_3 := cellS171_3 HGz8
      have hfz8_1 := qK HGz8 1
      have hfz8_2 := qK HGz8 2
      have hfz8_3 := qK HGz8 3
      clear HGz8 hgz8
      have p103 : 0 ≤ (s0_1 : Int) := of_decide_eq_true (by assumption)
      have q103 : s0_1 < (s0_0.length : Int) := of_decide_eq_true (by assumption)
      obtain ⟨ad103, e103, hx103_0⟩ := Kd.at_int (Kd.qY HSz8_0).2.2 s0_1 p103 q103
      cases e103
      replace p103 := eq_true p103
      replace q103 := eq_true q103
      go_enter Try.func94, Try.ntmps94
      go_wp2
      repeat (go_quiet (fail); try go_wp2)
      go_ret
      exact ⟨by first | rfl | (simp [zG, zF] <;> rfl) | (simp [*, zG, zF] <;> rfl), by repeat (first | (with_reducible first | exact HI0.out | apply IsS171.alloc | apply IsS171.drewN | apply IsS171.drew | apply IsS171.set_1 | apply IsS171.set_2 | apply IsS171.set_3) | exact HI0.out), by repeat (first | (with_reducible first | exact HB.out | apply qA | apply qB | apply qC | refine qD ?_ (IsS171.ge HI0.out)) | exact HB.out), by repeat (first | (with_reducible first | exact HK.out | apply KeepBut.set_ | apply keep_drewN | apply keep_drew | apply keep_alloc) | exact HK.out)⟩
    ·rw [if_neg c6] at H
     exact absurd H (by simp)
   ·rw [if_neg c5] at H
    have c5b0 : decide (a1 ≤ 256) = false := decide_eq_false c5
    clear c5
    by_cases c9 : a1 = 0
    ·rw [if_pos c9] at H
     exact absurd H (by simp)
    ·rw [if_neg c9] at H
     have c9b0 : (a1 == 0) = false := beq_eq_false_iff_ne.mpr c9
     have c9b1 : (a1 != 0) = true := bne_iff_ne.mpr c9
     simp only [Option.some.injEq, Prod.mk.injEq] at H
     obtain ⟨rfl, rfl, rfl, rfl⟩ := H
     obtain ⟨ASz10_0, cSz10_0, HGz10, hgz10, HSz10_0⟩ := HI0.out
     have hcz10_0 := cellS171_0 HGz10
     have hcz10_1 := cellS171_1 HGz10
     have hcz10_2 := cellS171_2 HGz10
     have hcz10_3 := cellS171_3 HGz10
     have hfz10_1 := qK HGz10 1
     have hfz10_2 := qK HGz10 2
     have hfz10_3 := qK HGz10 3
     clear HGz10 hgz10
     go_enter Try.func94, Try.ntmps94
     go_wp2
     repeat (go_quiet (fail); try go_wp2)
     go_ret
     exact ⟨by first | rfl | (simp [zG, zF] <;> rfl) | (simp [*, zG, zF] <;> rfl), by repeat (first | (with_reducible first | exact HI0.out | apply IsS171.alloc | apply IsS171.drewN | apply IsS171.drew | apply IsS171.set_1 | apply IsS171.set_2 | apply IsS171.set_3) | exact HI0.out), by repeat (first | (with_reducible first | exact HB.out | apply qA | apply qB | apply qC | refine qD ?_ (IsS171.ge HI0.out)) | exact HB.out), by repeat (first | (with_reducible first | exact HK.out | apply KeepBut.set_ | apply keep_drewN | apply keep_drew | apply keep_alloc) | exact HK.out)⟩
  ·rw [if_neg c4] at H
   have c4b0 : decide (s0_1 < (s0_0.length : Int)) = false := decide_eq_false c4
   clear c4
   by_cases c11 : a1 = 0
   ·rw [if_pos c11] at H
    exact absurd H (by simp)
   ·rw [if_neg c11] at H
    have c11b0 : (a1 == 0) = false := beq_eq_false_iff_ne.mpr c11
    have c11b1 : (a1 != 0) = true := bne_iff_ne.mpr c11
    simp only [Option.some.injEq, Prod.mk.injEq] at H
    obtain ⟨rfl, rfl, rfl, rfl⟩ := H
    obtain ⟨ASz12_0, cSz12_0, HGz12, hgz12, HSz12_0⟩ := HI0.out
    have hcz12_0 := cellS171_0 HGz12
    have hcz12_1 := cellS171_1 HGz12
    have hcz12_2 := cellS171_2 HGz12
    have hcz12_3 := cellS171_3 HGz12
    have hfz12_1 := qK HGz12 1
    have hfz12_2 := qK HGz12 2
    have hfz12_3 := qK HGz12 3
    clear HGz12 hgz12
    go_enter Try.func94, Try.ntmps94
    go_wp2
    repeat (go_quiet (fail); try go_wp2)
    go_ret
    exact ⟨by first | rfl | (simp [zG, zF] <;> rfl) | (simp [*, zG, zF] <;> rfl), by repeat (first | (with_reducible first | exact HI0.out | apply IsS171.alloc | apply IsS171.drewN | apply IsS171.drew | apply IsS171.set_1 | apply IsS171.set_2 | apply IsS171.set_3) | exact HI0.out), by repeat (first | (with_reducible first | exact HB.out | apply qA | apply qB | apply qC | refine qD ?_ (IsS171.ge HI0.out)) | exact HB.out), by repeat (first | (with_reducible first | exact HK.out | apply KeepBut.set_ | apply keep_drewN | apply keep_drew | apply keep_alloc) | exact HK.out)⟩

theorem rd_mem (C : List Int) (i : Int) (h0 : 0 ≤ i) (h1 : i < (C.length : Int)) : rd C i ∈ C := by
 unfold rd
 rw [List.getD_eq_getElem?_getD, List.getElem?_eq_getElem (by omega)]
 exact List.getElem_mem _
def St (C : List Int) (a m z : Int) : Prop := C.length ≤ 4000 ∧ (∀ x ∈ C, 0 ≤ x ∧ x < 256) ∧ 0 ≤ a ∧ a ≤ 4000 ∧ 0 ≤ m ∧ m < 1000003 ∧ 1 ≤ z ∧ z ≤ 7
theorem tm_b (x n : Int) (hx : 0 ≤ x) (hn : 0 < n) : 0 ≤ Int.tmod x n ∧ Int.tmod x n < n := by
 rw [Int.tmod_eq_emod_of_nonneg hx]
 exact ⟨Int.emod_nonneg _ (by omega), Int.emod_lt_of_pos _ hn⟩
theorem next_ok {C : List Int} {a m z : Int} (h : St C a m z) (n : Int) : ∃ r a' m', spec_l1Next.f C a m z n = some (r, a', m', z) ∧ St C a' m' z ∧ 0 ≤ r ∧ (r < n ∨ r = 0) := by
 obtain ⟨h1, h2, h3, h4, h5, h6, h7, h8⟩ := h
 unfold spec_l1Next.f
 by_cases c1 : n ≤ 1
 ·rw [if_pos c1]
  exact ⟨0, a, m, rfl, ⟨h1, h2, h3, h4, h5, h6, h7, h8⟩, by omega, .inr rfl⟩
 ·rw [if_neg c1]
  have e1 : wrap64 (m * 1103) = m * 1103 := w_id (by omega) (by omega)
  have e2 : wrap64 (m * 1103 + 12347) = m * 1103 + 12347 := w_id (by omega) (by omega)
  obtain ⟨m0, m1⟩ := tm_b (m * 1103 + 12347) 1000003 (by omega) (by omega)
  have mix : ∃ r a' m', (some (Int.tmod (wrap64 (Int.tdiv (Int.tmod (wrap64 ((wrap64 (m * 1103)) + 12347)) 1000003) 3)) n, a, Int.tmod (wrap64 ((wrap64 (m * 1103)) + 12347)) 1000003, z) : Option (Int × Int × Int × Int)) = some (r, a', m', z) ∧ St C a' m' z ∧ 0 ≤ r ∧ (r < n ∨ r = 0) := by
   rw [e1, e2]
   generalize Int.tmod (m * 1103 + 12347) 1000003 = M at m0 m1 ⊢
   have d0 : 0 ≤ Int.tdiv M 3 ∧ Int.tdiv M 3 ≤ M := by rw [Int.tdiv_eq_ediv_of_nonneg m0]; omega
   rw [w_id (by omega) (by omega)]
   obtain ⟨q0, q1⟩ := tm_b (Int.tdiv M 3) n d0.1 (by omega)
   exact ⟨_, _, _, rfl, ⟨h1, h2, h3, h4, m0, m1, h7, h8⟩, q0, .inl q1⟩
  by_cases c2 : a < (C.length : Int)
  ·rw [if_pos c2]
   by_cases c3 : n ≤ 256
   ·rw [if_pos c3, if_pos h3, if_neg (by omega)]
    obtain ⟨b0, b1⟩ := h2 _ (rd_mem C a h3 c2)
    rw [w_id (by omega) (by omega), w_id (n := a + 1) (by omega) (by omega)]
    obtain ⟨q0, q1⟩ := tm_b (rd C a) n b0 (by omega)
    exact ⟨_, _, _, rfl, ⟨h1, h2, by omega, by omega, h5, h6, h7, h8⟩, q0, .inl q1⟩
   ·rw [if_neg c3, if_neg (by omega)]
    exact mix
  ·rw [if_neg c2, if_neg (by omega)]
   exact mix
theorem src_l1 (C : List Int) (h1 : C.length ≤ 4000) (h2 : ∀ x ∈ C, 0 ≤ x ∧ x < 256) (z0 : Int) : ∀ (d : Nat) (i m : Int), (C.length : Int) - i = d → 0 ≤ i → 0 ≤ m → m < 1000003 → ∃ k m' z, spec_l1Source.l1 k i C 0 m z0 = some (C, 0, m', z) ∧ St C 0 m' z
 | 0, i, m, hd, hi, m0, m1 => by
  refine ⟨1, ?_⟩
  rw [spec_l1Source.l1, if_neg (by omega)]
  have d0 : 0 ≤ (C.length : Int) / 50 ∧ (C.length : Int) / 50 ≤ 4000 := by omega
  rw [w_id (n := (C.length : Int) / 50) (by omega) (by omega), w_id (by omega) (by omega)]
  by_cases c : 1 + (C.length : Int) / 50 > 7
  ·rw [if_pos c]
   exact ⟨m, 7, rfl, h1, h2, by omega, by omega, m0, m1, by omega, by omega⟩
  ·rw [if_neg c]
   exact ⟨m, _, rfl, h1, h2, by omega, by omega, m0, m1, by omega, by omega⟩
 | d + 1, i, m, hd, hi, m0, m1 => by
  obtain ⟨b0, b1⟩ := h2 _ (rd_mem C i hi (by omega))
  obtain ⟨q0, q1⟩ := tm_b (m * 257 + rd C i + 1) 1000003 (by omega) (by omega)
  obtain ⟨k, m', z, h3, h4⟩ := src_l1 C h1 h2 z0 d (i + 1) (Int.tmod (m * 257 + rd C i + 1) 1000003) (by omega) (by omega) q0 q1
  refine ⟨k + 1, m', z, ?_, h4⟩
  rw [spec_l1Source.l1, if_pos (by omega), if_pos hi, w_id (n := m * 257) (by omega) (by omega), w_id (n := rd C i) (by omega) (by omega), w_id (n := m * 257 + rd C i) (by omega) (by omega), w_id (n := m * 257 + rd C i + 1) (by omega) (by omega), w_id (n := i + 1) (by omega) (by omega), h3]
theorem src_j1 (l C : List Int) (h1 : C.length ≤ 4000) (h2 : ∀ x ∈ C, 0 ≤ x ∧ x < 256) : ∃ k m z, spec_l1Source.j1 k l C 0 0 0 = some (C, 0, m, z) ∧ St C 0 m z := by
 obtain ⟨k, m, z, h3, h4⟩ := src_l1 C h1 h2 0 C.length 0 (((l.length : Int) % 1000) + 41) (by omega) (by omega) (by omega) (by omega)
 exact ⟨k + 1, m, z, by rw [spec_l1Source.j1, h3], h4⟩
theorem src_l0 (l : List Int) (hl : ∀ x ∈ l, 0 ≤ x ∧ x < 256) : ∀ (d : Nat) (C : List Int), (l.length : Int) - C.length = d → C.length ≤ 4000 → (∀ x ∈ C, 0 ≤ x ∧ x < 256) → ∃ k C' m z, spec_l1Source.l0 k l (C.length : Int) C 0 0 0 = some (C', 0, m, z) ∧ St C' 0 m z
 | 0, C, hd, h1, h2 => by
  obtain ⟨k, m, z, h3, h4⟩ := src_j1 l C h1 h2
  refine ⟨k + 1, C, m, z, ?_, h4⟩
  rw [spec_l1Source.l0, if_neg (by omega), h3]
 | d + 1, C, hd, h1, h2 => by
  by_cases c : (C.length : Int) < 4000
  ·have hb := hl _ (rd_mem l C.length (by omega) (by omega))
   obtain ⟨k, C', m, z, h3, h4⟩ := src_l0 l hl d (C ++ [rd l C.length]) (by simp; omega) (by simp; omega) (fun x hx => by
    rcases List.mem_append.1 hx with hx | hx
    ·exact h2 x hx
    ·obtain rfl := List.mem_singleton.1 hx; exact hb)
   refine ⟨k + 1, C', m, z, ?_, h4⟩
   rw [spec_l1Source.l0, if_pos (by omega), if_pos c, if_pos (by omega), if_pos (by omega), w_id (n := (C.length : Int) + 1) (by omega) (by omega)]
   simpa using h3
  ·obtain ⟨k, m, z, h3, h4⟩ := src_j1 l C h1 h2
   refine ⟨k + 1, C, m, z, ?_, h4⟩
   rw [spec_l1Source.l0, if_pos (by omega), if_neg c, h3]
theorem src_ok (l : List Int) (hl : ∀ x ∈ l, (Lit.int .u8 x).wf = true) : ∃ k C m z, spec_l1Source.f k l = some (C, 0, m, z) ∧ St C 0 m z := by
 have hl' : ∀ x ∈ l, 0 ≤ x ∧ x < 256 := fun x hx => by
  have := hl x hx
  simp [Lit.wf] at this
  have e1 : IntKind.u8.min = 0 := rfl
  have e2 : IntKind.u8.max = 255 := rfl
  omega
 obtain ⟨k, C', m, z, h3, h4⟩ := src_l0 l hl' l.length [] (by simp) (by simp) (fun x hx => by cases hx)
 exact ⟨k, C', m, z, by simpa [spec_l1Source.f] using h3, h4⟩

def Is (c : Nat) (w0 w : World) (g : Nat) : Prop := ∃ s0 a m z, IsS171 c w0 w g s0 a m z ∧ St s0 a m z
theorem next_is (c g : Nat) (n : Int) (w0 w : World) (hB : Below w0.heap.size w0 w) (h : Is c w0 w g) :
  Calls Try.prog 94 #[.pointer (some ⟨g, 0, none⟩), .int .i64 n] w fun e w' => ∃ r : Int, e = .returned (.int .i64 r) ∧ 0 ≤ r ∧ (r < n ∨ r = 0) ∧ Is c w0 w' g ∧ Below w0.heap.size w0 w' ∧ KeepBut w w' g none := by
 obtain ⟨s0, a, m, z, hI, hS⟩ := h
 obtain ⟨r, a', m', e, hS', h0, h1⟩ := next_ok hS n
 refine (spec_l1Next.calls c g s0 a m z n r a' m' z w0 w hI hB e).mono ?_
 rintro e w' ⟨rfl, hi, hb, hk⟩
 exact ⟨r, rfl, h0, h1, ⟨_, _, _, _, hi, hS'⟩, hb, hk⟩
theorem source_is (A0 : Option Addr) (c0 : Nat) (l0 : List Int) (w0 w : World) (hB : Below w0.heap.size w0 w) (hr0 : Kd.C (Kd.int .u8) w0 A0 l0.length l0) (hc0 : l0.length ≤ c0) (hl : ∀ x ∈ l0, (Lit.int .u8 x).wf = true) :
  Calls Try.prog 93 #[.slice A0 l0.length c0] w fun e w' => ∃ c_ g_ : Nat, e = .returned (.pointer (some ⟨g_, 0, none⟩)) ∧ Is c_ w0 w' g_ ∧ Below w0.heap.size w0 w' ∧ Below w.heap.size w w' := by
 obtain ⟨k, C, m, z, e, hS⟩ := src_ok l0 hl
 refine (spec_l1Source.calls k A0 c0 l0 C 0 m z w0 w hB hr0 hc0 e).mono ?_
 rintro e w' ⟨c_, g_, rfl, hi, hb, hb2⟩
 exact ⟨c_, g_, rfl, ⟨_, _, _, _, hi, hS⟩, hb, hb2⟩
theorem Is.grown {c g : Nat} {w0 W W1 : World} {row : Option Nat} (h : Is c w0 W g) (hw : W.grownBy W1 row) (hne : some g ≠ row ∧ some c ≠ row) : Is c w0 W1 g := by
 obtain ⟨s0, a, m, z, hI, hS⟩ := h
 exact ⟨_, _, _, _, hI.grown hw hne, hS⟩
theorem Is.below {c g : Nat} {w0 W W1 : World} (h : Is c w0 W g) (hw : Below W.heap.size W W1) : Is c w0 W1 g := by
 obtain ⟨s0, a, m, z, hI, hS⟩ := h
 exact ⟨_, _, _, _, hI.below hw, hS⟩
theorem Is.far {c g : Nat} {w0 W : World} {p : Addr} (h : Is c w0 W g) (hne : g ≠ p.block) (hne2 : c ≠ p.block) (u : Value) : Is c w0 (W.setCell p u) g := by
 obtain ⟨s0, a, m, z, hI, hS⟩ := h
 exact ⟨_, _, _, _, hI.far hne hne2 u, hS⟩
theorem Is.lt {c g : Nat} {w0 W : World} (h : Is c w0 W g) : g < W.heap.size ∧ c < W.heap.size := by
 obtain ⟨s0, a, m, z, hI, hS⟩ := h
 exact ⟨hI.lt, hI.lt2⟩
theorem Is.ge {c g : Nat} {w0 W : World} (h : Is c w0 W g) : w0.heap.size ≤ g := by
 obtain ⟨s0, a, m, z, hI, hS⟩ := h
 exact hI.ge
end Go.Proofs.Ytpmdgmnpkdoamaa.Src
