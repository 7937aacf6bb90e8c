/- Proved here: what impl.Overlap answers: whether the places of two views' elements meet. Conditions: what impl.ValidView answers is a premise; behind it as in the Places text. -/
import Derived.Test.YtpmdgmnpkdoamaaPlc4
namespace Go.Proofs.Ytpmdgmnpkdoamaa.Odo
open Go.RowKit Go.Shelf Rf Go.Proofs.YtpmdgmnpkdoamaaW.PrintWords Go.Proofs.YtpmdgmnpkdoamaaW.PrintLast Go.Proofs.YtpmdgmnpkdoamaaW.PrintMore
attribute [local go_sem] Oper.semAt_some wide_fn
/-- What impl.ValidView answers of a view that is read. -/
def Vld (A0 A1 : Option Addr) (c0 c1 : Nat) (l0 l1 : List Int) (o : Int) (b : Bool) : Prop := ∀ w, Kd.C (Kd.int .i64) w A0 l0.length l0 → Kd.C (Kd.int .i64) w A1 l1.length l1 →
  Calls Try.prog 26 #[.agg #[.slice A0 l0.length c0, .slice A1 l1.length c1, .int .i64 o]] w fun e w' => e = .returned (.bool b) ∧ Below w.heap.size w w'
theorem old_T {β : Type} (T m k : Nat) (f : β → Obj) (hk : k < m) : OwnT T m (fun (s : β) W => W.heap[k]? = some (f s)) := by
  intro s X Y row h hg hrow
  rw [hg.block k (Array.getElem?_eq_some_iff.1 h).1 (fun e' => ?_)]
  · exact h
  · have := (hrow k e'.symm).1
    omega
set_option maxHeartbeats 8000000 in
set_option maxRecDepth 100000 in
theorem overlap_in (n : Nat) (hn : 4 ≤ n) (A0 A1 E0 E1 : Option Addr) (c0 c1 d0 d1 : Nat) (l0 l1 m0 m1 : List Int) (o u c d : Int) (w : World)
    (hr0 : Kd.C (Kd.int .i64) w A0 l0.length l0) (hr1 : Kd.C (Kd.int .i64) w A1 l1.length l1) (hs0 : Kd.C (Kd.int .i64) w E0 m0.length m0) (hs1 : Kd.C (Kd.int .i64) w E1 m1.length m1)
    (hva : Vld A0 A1 c0 c1 l0 l1 o true) (hvb : Vld E0 E1 d0 d1 m0 m1 u true)
    (hcnt : Cnt A0 c0 l0 c) (hgood : Good l0 l1 o c) (hcntb : Cnt E0 d0 m0 d) (hgoodb : Good m0 m1 u d) :
    CallsIn Fence.wide n Try.prog 44 #[.agg #[.slice A0 l0.length c0, .slice A1 l1.length c1, .int .i64 o], .agg #[.slice E0 m0.length d0, .slice E1 m1.length d1, .int .i64 u]] w fun e w' =>
      e = .returned (.bool (decide (∃ x ∈ placesOf m0 m1 u d, x ∈ placesOf l0 l1 o c))) ∧ Below w.heap.size w w' := by
  have h1 : 1 ≤ n := by omega
  obtain ⟨xs, hxs⟩ : ∃ xs, xs = placesOf l0 l1 o c := ⟨_, rfl⟩
  obtain ⟨ys, hys⟩ : ∃ ys, ys = placesOf m0 m1 u d := ⟨_, rfl⟩
  have R := Aside0.mk (And.intro (And.intro hr0 hr1) (And.intro hcnt (And.intro hgood hxs)))
  have Sb := Aside0.mk (And.intro (And.intro hs0 hs1) (And.intro hcntb (And.intro hgoodb hys)))
  have VV := Aside0.mk (And.intro hva hvb)
  rw [← hxs, ← hys]
  clear hr0 hr1 hcnt hgood hxs hs0 hs1 hcntb hgoodb hys hva hvb
  refine callsIn_of_wp_marks Try.func44 rfl trivial ?_ rfl
  simp only [Try.ntmps44, List.size_toArray, List.length_cons, List.length_nil, Nat.reduceAdd, Nat.reduceSub, Array.replicate_succ, Array.replicate_zero, List.push_toArray, List.append_toArray, List.nil_append, List.cons_append]
  gi_wp2_with (gi_at_call 26; fail)
  obtain ⟨w0, hw0⟩ : ∃ w0, w0 = ((w.alloc (Obj.cells #[Value.slice A0 l0.length c0, Value.slice A1 l1.length c1, Value.int IntKind.i64 o] 32)).alloc (Obj.cells #[Value.slice E0 m0.length d0, Value.slice E1 m1.length d1, Value.int IntKind.i64 u] 32)).alloc (Obj.cells #[Value.bool false] 4) := ⟨_, rfl⟩
  have sz0 : w0.heap.size = w.heap.size + 3 := by rw [hw0]; simp
  have hB0 : Below w.heap.size w w0 := by
    rw [hw0]; exact (((Below.refl _ w).alloc (Nat.le_refl _) _).alloc (by simp) _).alloc (by simp; omega) _
  obtain ⟨ha0, hb0, hc0⟩ : w0.heap[w.heap.size]? = some (.cells #[Value.slice A0 l0.length c0, Value.slice A1 l1.length c1, Value.int IntKind.i64 o] 32 (0, 0)) ∧ w0.heap[w.heap.size + 1]? = some (.cells #[Value.slice E0 m0.length d0, Value.slice E1 m1.length d1, Value.int IntKind.i64 u] 32 (0, 0)) ∧
      w0.heap[w.heap.size + 1 + 1]? = some (.cells #[Value.bool false] 4 (0, 0)) := by
    have s1 := blk_new (w.alloc (Obj.cells #[Value.slice A0 l0.length c0, Value.slice A1 l1.length c1, Value.int IntKind.i64 o] 32)) (Obj.cells #[Value.slice E0 m0.length d0, Value.slice E1 m1.length d1, Value.int IntKind.i64 u] 32)
    have s2 := blk_new ((w.alloc (Obj.cells #[Value.slice A0 l0.length c0, Value.slice A1 l1.length c1, Value.int IntKind.i64 o] 32)).alloc (Obj.cells #[Value.slice E0 m0.length d0, Value.slice E1 m1.length d1, Value.int IntKind.i64 u] 32)) (Obj.cells #[Value.bool false] 4)
    simp only [World.size_alloc] at s1 s2
    rw [hw0]
    exact ⟨blk_alloc (blk_alloc (blk_new w _) _) _, blk_alloc s1 _, s2⟩
  rw [← hw0]
  clear hw0
  refine (callsIn_wide.2 (VV.out.1 w0 (Kd.C_below R.out.1.1 hB0) (Kd.C_below R.out.1.2 hB0))).mono ?_
  rintro e w1 ⟨rfl, hb⟩
  have ha1 := (hb.block w.heap.size (by omega)).trans ha0
  have hb1 := (hb.block (w.heap.size + 1) (by omega)).trans hb0
  have hc1 := (hb.block (w.heap.size + 1 + 1) (by omega)).trans hc0
  have hB1 : Below w.heap.size w w1 := hB0.trans (hb.mono (by omega))
  have sz1 : w.heap.size + 3 ≤ w1.heap.size := by have := hb.size; omega
  clear ha0 hb0 hc0 hB0 hb sz0
  have q0 : w1.cell? ⟨w.heap.size + 1, 0, none⟩ = some (Value.slice E0 m0.length d0) := (blk_cell hb1 0).trans rfl
  have q1 : w1.cell? ⟨w.heap.size + 1, 1, none⟩ = some (Value.slice E1 m1.length d1) := (blk_cell hb1 1).trans rfl
  have q2 : w1.cell? ⟨w.heap.size + 1, 2, none⟩ = some (Value.int IntKind.i64 u) := (blk_cell hb1 2).trans rfl
  gi_wp2_with (gi_at_call 26; fail)
  refine (callsIn_wide.2 (VV.out.2 w1 (Kd.C_below Sb.out.1.1 hB1) (Kd.C_below Sb.out.1.2 hB1))).mono ?_
  rintro e w2 ⟨rfl, hb⟩
  have ha2 := (hb.block w.heap.size (by omega)).trans ha1
  have hb2 := (hb.block (w.heap.size + 1) (by omega)).trans hb1
  have hc2 := (hb.block (w.heap.size + 1 + 1) (by omega)).trans hc1
  have hB2 : Below w.heap.size w w2 := hB1.trans (hb.mono (by omega))
  have sz2 : w.heap.size + 3 ≤ w2.heap.size := by have := hb.size; omega
  clear ha1 hb1 hc1 hB1 hb sz1 q0 q1 q2
  have q0 : ∀ x, (w2.alloc x).cell? ⟨w.heap.size, 0, none⟩ = some (Value.slice A0 l0.length c0) := fun x => (blk_cell (blk_alloc ha2 x) 0).trans rfl
  have q1 : ∀ x, (w2.alloc x).cell? ⟨w.heap.size, 1, none⟩ = some (Value.slice A1 l1.length c1) := fun x => (blk_cell (blk_alloc ha2 x) 1).trans rfl
  have q2 : ∀ x, (w2.alloc x).cell? ⟨w.heap.size, 2, none⟩ = some (Value.int IntKind.i64 o) := fun x => (blk_cell (blk_alloc ha2 x) 2).trans rfl
  gi_wp2_with (first | (refine wpListIn_alloc rfl 104 rfl inf104 ?_; rw [mk_nil 4096]) | (gi_at_call 90; refine (places_calls (n - 1) _ _ _ _).mono ?_; rintro e w' ⟨rfl, rfl⟩))
  obtain ⟨wl, hwl⟩ : ∃ wl, wl = (w2.alloc (Obj.cells (mkN 4096 []) 104)).alloc (Obj.cells #[Value.slice A0 l0.length c0, Value.slice A1 l1.length c1, Value.int IntKind.i64 o] 32) := ⟨_, rfl⟩
  have sz : wl.heap.size = w2.heap.size + 2 := by rw [hwl]; simp
  have hB0 : Below w.heap.size w wl := by
    rw [hwl]; exact (hB2.alloc (by omega) _).alloc (by simp; omega) _
  obtain ⟨g1, g2, g3, g4⟩ : wl.heap[w2.heap.size]? = some (.cells (mkN 4096 []) 104 (0, 0)) ∧ wl.heap[w2.heap.size + 1]? = some (.cells #[Value.slice A0 l0.length c0, Value.slice A1 l1.length c1, Value.int IntKind.i64 o] 32 (0, 0)) ∧
      wl.heap[w.heap.size + 1]? = some (.cells #[Value.slice E0 m0.length d0, Value.slice E1 m1.length d1, Value.int IntKind.i64 u] 32 (0, 0)) ∧ wl.heap[w.heap.size + 1 + 1]? = some (.cells #[Value.bool false] 4 (0, 0)) := by
    have s1 := blk_new (w2.alloc (Obj.cells (mkN 4096 []) 104)) (Obj.cells #[Value.slice A0 l0.length c0, Value.slice A1 l1.length c1, Value.int IntKind.i64 o] 32)
    simp only [World.size_alloc] at s1
    rw [hwl]
    exact ⟨blk_alloc (blk_new w2 _) _, s1, blk_alloc (blk_alloc hb2 _) _, blk_alloc (blk_alloc hc2 _) _⟩
  rw [← hwl]
  clear hwl ha2 hb2 hc2 hB2 q0 q1 q2
  have INx : Aside0 (∀ x ∈ xs, 0 ≤ x ∧ x < 4096) := ⟨by
    intro x hx
    rw [R.out.2.2.2] at hx
    unfold placesOf at hx
    split at hx
    · simp at hx
    · rename_i h
      exact (R.out.2.2.1.2.2 h).2.2.2 x hx⟩
  have INy : Aside0 (∀ x ∈ ys, 0 ≤ x ∧ x < 4096) := ⟨by
    intro x hx
    rw [Sb.out.2.2.2] at hx
    unfold placesOf at hx
    split at hx
    · simp at hx
    · rename_i h
      exact (Sb.out.2.2.1.2.2 h).2.2.2 x hx⟩
  refine rangeFunc_T (T := 137) rfl h1 (gf := 114) (lb := #[.pointer (some ⟨w2.heap.size + 1, 0, none⟩)]) rfl trivial (enters_of Try.func114 (by kernel_rfl) rfl)
    (places_seq (n - 1) (by omega) (w2.heap.size + 1) A0 A1 c0 c1 l0 l1 o c wl (by omega) g2 (Kd.C_below R.out.1.1 hB0) (Kd.C_below R.out.1.2 hB0) R.out.2.1 R.out.2.2.1 xs R.out.2.2.2) kpT_t (fun W l o o' _ a b _ => kpT_obj W l o o' a b) (Below.refl _ _) (fun _ => rfl)
    (fun pre W => (W.heap[w.heap.size + 1]? = some (.cells #[Value.slice E0 m0.length d0, Value.slice E1 m1.length d1, Value.int IntKind.i64 u] 32 (0, 0)) ∧ W.heap[w.heap.size + 1 + 1]? = some (.cells #[.bool false] 4 (0, 0)) ∧ W.heap[w2.heap.size]? = some (.cells (mkN 4096 pre) 104 (0, 0))) ∧ Below w.heap.size w W)
    (fun _ _ _ => False)
    (ownT_and (ownT_and (old_T 137 wl.heap.size _ (fun _ => _) (by omega)) (ownT_and (old_T 137 wl.heap.size _ (fun _ => _) (by omega)) (old_T 137 wl.heap.size _ (fun pre => .cells (mkN 4096 pre) 104 (0, 0)) (by omega)))) (below_T (by omega) (Nat.le_refl _)))
    (fun _ _ _ _ _ hs _ _ => hs)
    ⟨⟨g3, g4, g1⟩, hB0⟩
    (fun x => { tmps := #[.agg #[.slice A0 l0.length c0, .slice A1 l1.length c1, .int .i64 o], .agg #[.slice E0 m0.length d0, .slice E1 m1.length d1, .int .i64 u], .pointer (some ⟨w.heap.size, 0, none⟩), .pointer (some ⟨w.heap.size + 1, 0, none⟩), .pointer (some ⟨w.heap.size + 1 + 1, 0, none⟩), .pointer (some ⟨w2.heap.size, 0, none⟩), .int .i64 x, undef,
      .agg #[.slice A0 l0.length c0, .slice A1 l1.length c1, .int .i64 o], .bool true, .bool false, .bool false, .agg #[.slice E0 m0.length d0, .slice E1 m1.length d1, .int .i64 u], .bool true, .bool false, .bool false,
      .agg #[.slice A0 l0.length c0, .slice A1 l1.length c1, .int .i64 o], .func (.func 114) #[] #[.pointer (some ⟨w2.heap.size + 1, 0, none⟩)], .int .i64 x, undef, undef, undef, undef, undef, undef, undef, undef], defers := [] }) ?assign ?body ?done ?stop
  case assign =>
    intro l x W K hK
    gi_wp2
    exact hK
  case body =>
    rintro l pre x W ⟨⟨hv, hr, hm⟩, hB⟩ hpx
    have hx := INx.out x (hpx.subset (by simp))
    obtain ⟨q, rfl⟩ : ∃ q : Nat, x = (q : Int) := ⟨x.toNat, by omega⟩
    have hq : q < 4096 := by omega
    have hqi : (q : Int) < 4096 := by omega
    have hcm : W.cell? ⟨w2.heap.size, q, none⟩ = some (.bool (decide ((q : Int) ∈ pre))) := by rw [blk_cell hm q]; exact mk_get 4096 pre q hq
    have hfm := blk_frozen hm q
    have K := Aside0.mk (And.intro (And.intro hv (And.intro hr hm)) hB)
    clear hv hr hm hB hpx hB0 hx g1 g2 g3 g4
    gi_wp2
    refine ⟨(KeepsOthers.setCell _ _ _).from _, kpT_grown (grown_put W _ q _) (fun r cs e h => ?_), ⟨blk_far K.out.1.1 (by show w.heap.size + 1 ≠ w2.heap.size; omega) _, blk_far K.out.1.2.1 (by show w.heap.size + 1 + 1 ≠ w2.heap.size; omega) _, blk_put K.out.1.2.2 q _ (mk_set 4096 pre q)⟩, K.out.2.setCell (by simp; omega) _⟩
    cases e
    rw [K.out.1.2.2] at h
    cases h
  case done =>
    rintro D ys' W hD rfl ⟨⟨hv, hr, hm⟩, hB⟩ hK
    have q0 : W.cell? ⟨w.heap.size + 1, 0, none⟩ = some (Value.slice E0 m0.length d0) := (blk_cell hv 0).trans rfl
    have q1 : W.cell? ⟨w.heap.size + 1, 1, none⟩ = some (Value.slice E1 m1.length d1) := (blk_cell hv 1).trans rfl
    have q2 : W.cell? ⟨w.heap.size + 1, 2, none⟩ = some (Value.int IntKind.i64 u) := (blk_cell hv 2).trans rfl
    gi_wp2_with (gi_at_call 90; refine (places_calls (n - 1) _ _ _ _).mono ?_; rintro e w' ⟨rfl, rfl⟩)
    obtain ⟨wk, hwk⟩ : ∃ wk, wk = W.alloc (Obj.cells #[Value.slice E0 m0.length d0, Value.slice E1 m1.length d1, Value.int IntKind.i64 u] 32) := ⟨_, rfl⟩
    have szk : wk.heap.size = W.heap.size + 1 := by rw [hwk]; simp
    have hszW : w2.heap.size < W.heap.size := blk_lt hm
    have hDlt : D < W.heap.size := (Array.getElem?_eq_some_iff.1 hK).1
    have hBk : Below w.heap.size w wk := by rw [hwk]; exact hB.alloc (by omega) _
    have k1 : wk.heap[W.heap.size]? = some (.cells #[Value.slice E0 m0.length d0, Value.slice E1 m1.length d1, Value.int IntKind.i64 u] 32 (0, 0)) := by rw [hwk]; exact blk_new W _
    have k2 : wk.heap[w.heap.size + 1 + 1]? = some (.cells #[.bool false] 4 (0, 0)) := by rw [hwk]; exact blk_alloc hr _
    have k3 : wk.heap[w2.heap.size]? = some (.cells (mkN 4096 ys') 104 (0, 0)) := by rw [hwk]; exact blk_alloc hm _
    have k4 : wk.heap[D]? = some (.deferred (some [])) := by rw [hwk]; exact (Below.heap_alloc _ _ _ (by omega)).trans hK
    rw [← hwk]
    clear q0 q1 q2 hv hr hm hB hK hwk g1 g2 g3 g4
    refine rangeFunc_T (T := 137) rfl h1 (gf := 114) (lb := #[.pointer (some ⟨W.heap.size, 0, none⟩)]) rfl trivial (enters_of Try.func114 (by kernel_rfl) rfl)
      (places_seq (n - 1) (by omega) W.heap.size E0 E1 d0 d1 m0 m1 u d wk (by omega) k1 (Kd.C_below Sb.out.1.1 hBk) (Kd.C_below Sb.out.1.2 hBk) Sb.out.2.1 Sb.out.2.2.1 ys Sb.out.2.2.2) kpT_t (fun W l o o' _ a b _ => kpT_obj W l o o' a b) (Below.refl _ _) (fun _ => rfl)
      (fun pre W3 => (W3.heap[D]? = some (.deferred (some [])) ∧ W3.heap[w.heap.size + 1 + 1]? = some (.cells #[.bool false] 4 (0, 0)) ∧ W3.heap[w2.heap.size]? = some (.cells (mkN 4096 ys') 104 (0, 0)) ∧ (∀ p ∈ pre, p ∉ ys')) ∧ Below w.heap.size w W3)
      (fun c pre W3 => (W3.heap[D]? = some (.deferred (some [])) ∧ W3.heap[w.heap.size + 1 + 1]? = some (.cells #[.bool true] 4 (0, 0)) ∧ (c = .ret ∧ ∃ x ∈ ys, x ∈ ys')) ∧ Below w.heap.size w W3)
      (ownT_and (ownT_and (old_T 137 wk.heap.size _ (fun _ => _) (by omega)) (ownT_and (old_T 137 wk.heap.size _ (fun _ => _) (by omega)) (ownT_and (old_T 137 wk.heap.size _ (fun _ => _) (by omega)) (pure_T _ _ _)))) (below_T (by omega) (Nat.le_refl _)))
      (fun c => ownT_and (ownT_and (old_T 137 wk.heap.size _ (fun _ => _) (by omega)) (ownT_and (old_T 137 wk.heap.size _ (fun _ => _) (by omega)) (pure_T _ _ _))) (below_T (by omega) (Nat.le_refl _)))
      ⟨⟨k4, k2, k3, by simp⟩, hBk⟩
      (fun x => { tmps := #[.agg #[.slice A0 l0.length c0, .slice A1 l1.length c1, .int .i64 o], .agg #[.slice E0 m0.length d0, .slice E1 m1.length d1, .int .i64 u], .pointer (some ⟨w.heap.size, 0, none⟩), .pointer (some ⟨w.heap.size + 1, 0, none⟩), .pointer (some ⟨w.heap.size + 1 + 1, 0, none⟩), .pointer (some ⟨w2.heap.size, 0, none⟩), undef, .int .i64 x,
        .agg #[.slice A0 l0.length c0, .slice A1 l1.length c1, .int .i64 o], .bool true, .bool false, .bool false, .agg #[.slice E0 m0.length d0, .slice E1 m1.length d1, .int .i64 u], .bool true, .bool false, .bool false,
        .agg #[.slice A0 l0.length c0, .slice A1 l1.length c1, .int .i64 o], .func (.func 114) #[] #[.pointer (some ⟨w2.heap.size + 1, 0, none⟩)], undef, undef, undef, .agg #[.slice E0 m0.length d0, .slice E1 m1.length d1, .int .i64 u], .func (.func 114) #[] #[.pointer (some ⟨W.heap.size, 0, none⟩)], .int .i64 x, undef, undef, undef], defers := [] }) ?assign2 ?body2 ?done2 ?stop2
    case assign2 =>
      intro l x W K hK
      gi_wp2
      exact hK
    case body2 =>
      rintro l pre x W3 ⟨⟨hD3, hr, hm, hno⟩, hB⟩ hpx
      have hx := INy.out x (hpx.subset (by simp))
      have hxy : x ∈ ys := hpx.subset (by simp)
      obtain ⟨q, rfl⟩ : ∃ q : Nat, x = (q : Int) := ⟨x.toNat, by omega⟩
      have hq : q < 4096 := by omega
      have hqi : (q : Int) < 4096 := by omega
      have hcm : W3.cell? ⟨w2.heap.size, q, none⟩ = some (.bool (decide ((q : Int) ∈ ys'))) := by rw [blk_cell hm q]; exact mk_get 4096 ys' q hq
      have hcr : W3.cell? ⟨w.heap.size + 1 + 1, 0, none⟩ = some (.bool false) := (blk_cell hr 0).trans rfl
      have hfr := blk_frozen hr 0
      have K := Aside0.mk (And.intro (And.intro hD3 (And.intro hr hm)) (And.intro (And.intro hno hxy) hB))
      clear hD3 hr hm hno hB hpx hx hxy hBk k1 k2 k3 k4
      by_cases hmem : (q : Int) ∈ ys'
      · have hd : decide ((q : Int) ∈ ys') = true := decide_eq_true hmem
        have MM := Aside0.mk hmem
        clear hmem
        rw [hd] at hcm
        gi_wp2
        refine ⟨(KeepsOthers.setCell _ _ _).from _, ⟨(Below.heap_setCell _ _ _ _ (by show D ≠ w.heap.size + 1 + 1; omega)).trans K.out.1.1, blk_put K.out.1.2.1 0 _ rfl, rfl, _, K.out.2.1.2, MM.out⟩, K.out.2.2.setCell (by simp; omega) _⟩
      · have hd : decide ((q : Int) ∈ ys') = false := decide_eq_false hmem
        have MM := Aside0.mk hmem
        clear hmem
        rw [hd] at hcm
        gi_wp2
        refine ⟨KeepsFrom.refl _ _, fun _ _ h => h, ⟨K.out.1.1, K.out.1.2.1, K.out.1.2.2, ?_⟩, K.out.2.2⟩
        intro p hp
        rcases List.mem_append.1 hp with hp | hp
        · exact K.out.2.1.1 p hp
        · rw [List.mem_singleton.1 hp]; exact MM.out
    case done2 =>
      rintro D2 zs W3 hD2 rfl ⟨⟨hD3, hr, hm, hno⟩, hB⟩ hK2
      have hcr : W3.cell? ⟨w.heap.size + 1 + 1, 0, none⟩ = some (.bool false) := (blk_cell hr 0).trans rfl
      have hfr := blk_frozen hr 0
      gi_wp2
      have e1 : (W3.setCell ⟨w.heap.size + 1 + 1, 0, none⟩ (.bool false)).heap[D2]? = some (.deferred (some [])) := (Below.heap_setCell _ _ _ _ (by show D2 ≠ w.heap.size + 1 + 1; omega)).trans hK2
      have e2 : ((W3.setCell ⟨w.heap.size + 1 + 1, 0, none⟩ (.bool false)).putObj D2 (.deferred none)).heap[D]? = some (.deferred (some [])) := (World.putObj_heap_other (by omega)).trans ((Below.heap_setCell _ _ _ _ (by show D ≠ w.heap.size + 1 + 1; omega)).trans hD3)
      refine ⟨by simp, .inl ⟨_, _, rfl, run_takeDeferred e1, ⟨by simp, .inl ⟨_, _, rfl, run_takeDeferred e2, ?_⟩⟩⟩⟩
      have hset := blk_put (cs' := #[.bool false]) hr 0 (.bool false) rfl
      refine ⟨_, results_cell rfl Try.underlying4 _ _ ⟨w.heap.size + 1 + 1, 0, none⟩ false rfl ?_, by rw [decide_eq_false (fun ⟨x, h1, h2⟩ => hno x h1 h2)], ?_⟩
      · exact (blk_cell (show (((W3.setCell ⟨w.heap.size + 1 + 1, 0, none⟩ (.bool false)).putObj D2 (.deferred none)).putObj D (.deferred none)).heap[w.heap.size + 1 + 1]? = some (.cells #[.bool false] 4 (0, 0)) from (World.putObj_heap_other (by omega)).trans ((World.putObj_heap_other (by omega)).trans hset)) 0).trans rfl
      · exact ((hB.setCell (by simp; omega) _).trans (belowK_b (w := w) (Nat.le_refl _) _ D2 _ _ (by omega) e1 rfl rfl)).trans (belowK_b (w := w) (Nat.le_refl _) _ D _ _ (by omega) e2 rfl rfl)
    case stop2 =>
      rintro D2 c pre W3 hD2 hp ⟨⟨hD3, hr, rfl, hex⟩, hB⟩ hK2
      gi_wp2
      have e2 : (W3.putObj D2 (.deferred none)).heap[D]? = some (.deferred (some [])) := (World.putObj_heap_other (by omega)).trans hD3
      refine ⟨by simp, .inl ⟨_, _, rfl, run_takeDeferred hK2, ⟨by simp, .inl ⟨_, _, rfl, run_takeDeferred e2, ?_⟩⟩⟩⟩
      refine ⟨_, results_cell rfl Try.underlying4 _ _ ⟨w.heap.size + 1 + 1, 0, none⟩ true rfl ?_, by rw [decide_eq_true hex], ?_⟩
      · exact (blk_cell (show ((W3.putObj D2 (.deferred none)).putObj D (.deferred none)).heap[w.heap.size + 1 + 1]? = some (.cells #[.bool true] 4 (0, 0)) from (World.putObj_heap_other (by omega)).trans ((World.putObj_heap_other (by omega)).trans hr)) 0).trans rfl
      · exact (hB.trans (belowK_b (w := w) (Nat.le_refl _) _ D2 _ _ (by omega) hK2 rfl rfl)).trans (belowK_b (w := w) (Nat.le_refl _) _ D _ _ (by omega) e2 rfl rfl)
  case stop =>
    rintro D c pre W _ _ h _
    exact h.elim
end Go.Proofs.Ytpmdgmnpkdoamaa.Odo
