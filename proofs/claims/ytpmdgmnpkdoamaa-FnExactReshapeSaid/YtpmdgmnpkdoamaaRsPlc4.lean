/- Proved here: what impl.writable answers: whether the places of a view's elements differ. Conditions: as in the Places text, or the count of the shape is 0. -/
import Derived.Test.YtpmdgmnpkdoamaaRsPlc3
namespace Go.Proofs.Ytpmdgmnpkdoamaa.Odo
open Go.RowKit Go.Shelf Rf Go.Proofs.YtpmdgmnpkdoamaaW.PrintWords Go.Proofs.YtpmdgmnpkdoamaaW.PrintLast Go.Proofs.YtpmdgmnpkdoamaaW.PrintMore
attribute [local go_sem] Oper.semAt_some wide_fn
theorem inf104 : (Try.prog.info? 104).bind (fun i => i.zero) = some (.agg (Array.replicate 4096 (.bool false))) := by kernel_rfl
theorem run_zero {P : Program} {t : TypeId} {z : Value} (h : (P.info? t).bind (fun i => i.zero) = some z) (w : World) : (zeroValue t).run P w = .ok z w := by
  obtain ⟨i, hi, hz⟩ := Option.bind_eq_some_iff.1 h
  simp [zeroValue, typeInfo, hi, hz]
theorem wpListIn_alloc {F : Fence} {n : Nat} {P : Program} {ops : Array Oper} {rest : List Oper} {o : Oper} {a : Act} {Q : Exit → Act → World → Prop} {w : World} (hg : o.guard = none) (t : TypeId) (ho : o.op = .alloc t) {z : Value}
    (hz : (P.info? t).bind (fun i => i.zero) = some z) (h : wpListIn F n P ops Q rest (a.put o.dst (.pointer (some ⟨w.heap.size, 0, none⟩))) (w.alloc (.cells z.cells t))) : wpListIn F n P ops Q (o :: rest) a w := by
  refine wpListIn_plain hg fun K hK => ?_
  have hr : (Instr.alloc t true (.tuple #[])).run P w = .ok (.pointer (some ⟨w.heap.size, 0, none⟩)) (w.alloc (.cells z.cells t)) := by
    simp [Instr.alloc, run_zero hz, newVar, newRow]
  unfold Oper.wpIn
  refine ⟨by simp [Oper.about, ho], ?_⟩
  rw [Oper.semAt_plain F _ _ (by rw [ho]; intro c hc'; cases hc')]
  simp [execOp, ho, hr, Result.andThen]
  exact hK _ _ h
/-- The marks of the places so far. -/
def mkN (m : Nat) (pre : List Int) : Array Value := ((List.range m).map fun (i : Nat) => Value.bool (decide ((i : Int) ∈ pre))).toArray
theorem mk_nil (m : Nat) : (Value.agg (Array.replicate m (.bool false))).cells = mkN m [] := by
  have e : (List.range m).map (fun (i : Nat) => Value.bool (decide ((i : Int) ∈ ([] : List Int)))) = List.replicate m (.bool false) := by
    apply List.ext_getElem (by simp)
    intro i h1 h2
    simp
  unfold mkN
  rw [e]
  simp [Value.cells]
theorem mk_get (m : Nat) (pre : List Int) (q : Nat) (h : q < m) : (mkN m pre)[q]? = some (.bool (decide ((q : Int) ∈ pre))) := by
  unfold mkN
  simp [h]
theorem mk_set (m : Nat) (pre : List Int) (q : Nat) : (mkN m pre).setIfInBounds q (.bool true) = mkN m (pre ++ [(q : Int)]) := by
  unfold mkN
  apply Array.ext (by simp)
  intro i h1 h2
  simp at h1 h2
  simp only [List.setIfInBounds_toArray, List.getElem_toArray, List.getElem_set, List.getElem_map, List.getElem_range, List.mem_append, List.mem_singleton]
  by_cases e : q = i
  · subst e; simp
  · have : ¬ (i : Int) = (q : Int) := by omega
    simp [e, this]
theorem blk_T {β : Type} (T m k : Nat) (t : TypeId) (f : β → Array Value) (ht : t ≠ T) : OwnT T m (fun (s : β) W => W.heap[k]? = some (.cells (f s) t (0, 0))) := by
  intro s X Y row h hg hrow
  rw [hg.block k (Array.getElem?_eq_some_iff.1 h).1 (fun e' => ?_)]
  · exact h
  · obtain ⟨_, o, ho, hc⟩ := hrow k e'.symm
    rw [show X.heap[k]? = _ from h] at ho; cases ho
    rcases hc with hc | ⟨cs, hc⟩
    · cases hc
    · cases hc; exact ht rfl
theorem results_cell {P : Program} {fn : Func} {t : Tmp} (h : fn.results = #[.cell t 4]) (hu : P.underlying 4 = some .bool) (tmps : Array Value) (w : World) (ad : Addr) (b : Bool) (ht : tmps.getD t undef = .pointer (some ad)) (hc : w.cell? ad = some (.bool b)) :
    (results fn tmps).run P w = .ok (.bool b) w := by
  unfold results
  rw [h]
  rw [Array.getD_eq_getD_getElem?] at ht
  have hu' := run_underlying hu w
  simp [ht, loadVar, asAddr, isAgg, hu', hc]
theorem pure_T {β : Type} (T m : Nat) (p : β → Prop) : OwnT T m (fun (s : β) (_ : World) => p s) := fun _ _ _ _ h _ _ => h
theorem nodup_snoc {pre : List Int} {x : Int} : (pre ++ [x]).Nodup ↔ pre.Nodup ∧ x ∉ pre := by
  rw [List.nodup_append]
  simp
  intro _
  exact ⟨fun h hx => h x hx rfl, fun h a ha e => h (e ▸ ha)⟩
set_option maxHeartbeats 8000000 in
set_option maxRecDepth 100000 in
theorem writable_in (n : Nat) (hn : 4 ≤ n) (A0 A1 : Option Addr) (c0 c1 : Nat) (l0 l1 : List Int) (o c : Int) (w : World)
    (hr0 : Kd.C (Kd.int .i64) w A0 l0.length l0) (hr1 : Kd.C (Kd.int .i64) w A1 l1.length l1) (hcnt : Cnt A0 c0 l0 c) (hgood : Good l0 l1 o c) :
    CallsIn Fence.wide n Try.prog 89 #[.agg #[.slice A0 l0.length c0, .slice A1 l1.length c1, .int .i64 o]] w fun e w' => e = .returned (.bool (decide (placesOf l0 l1 o c).Nodup)) ∧ Below w.heap.size w w' := by
  have h1 : 1 ≤ n := by omega
  obtain ⟨xs, hxs⟩ : ∃ xs, xs = placesOf l0 l1 o c := ⟨_, rfl⟩
  have hin : ∀ x ∈ xs, 0 ≤ x ∧ x < 4096 := by
    intro x hx
    rw [hxs] at hx
    unfold placesOf at hx
    split at hx
    · simp at hx
    · rename_i h
      exact (hgood.2.2 h).2.2.2 x hx
  have R := Aside0.mk (And.intro (And.intro hr0 hr1) (And.intro hcnt (And.intro hgood hxs)))
  have IN := Aside0.mk hin
  rw [← hxs]
  clear hr0 hr1 hcnt hgood hxs hin
  refine callsIn_of_wp_marks Try.func89 rfl trivial ?_ rfl
  simp only [Try.ntmps89, List.size_toArray, List.length_cons, List.length_nil, Nat.reduceAdd, Nat.reduceSub, Array.replicate_succ, Array.replicate_zero, List.push_toArray, List.append_toArray, List.nil_append, List.cons_append]
  gi_wp2_with (first | (refine wpListIn_alloc rfl 104 rfl inf104 ?_; rw [mk_nil 4096]) | (gi_at_call 90; refine (places_calls (n - 1) _ _ _ _).mono ?_; rintro e w' ⟨rfl, rfl⟩))
  obtain ⟨wl, hwl⟩ : ∃ wl, wl = ((((w.alloc (Obj.cells #[Value.slice A0 l0.length c0, Value.slice A1 l1.length c1, Value.int IntKind.i64 o] 32)).alloc (Obj.cells #[Value.bool false] 4)).alloc (Obj.cells (mkN 4096 []) 104)).alloc
      (Obj.cells #[Value.slice A0 l0.length c0, Value.slice A1 l1.length c1, Value.int IntKind.i64 o] 32)) := ⟨_, rfl⟩
  have sz : wl.heap.size = w.heap.size + 4 := by rw [hwl]; simp
  have hB0 : Below w.heap.size w wl := by
    rw [hwl]; exact ((((Below.refl _ w).alloc (Nat.le_refl _) _).alloc (by simp) _).alloc (by simp; omega) _).alloc (by simp; omega) _
  obtain ⟨hb1, hb2, hb3⟩ : wl.heap[w.heap.size + 1]? = some (.cells #[.bool false] 4 (0, 0)) ∧ wl.heap[w.heap.size + 1 + 1]? = some (.cells (mkN 4096 []) 104 (0, 0)) ∧
      wl.heap[w.heap.size + 1 + 1 + 1]? = some (.cells #[Value.slice A0 l0.length c0, Value.slice A1 l1.length c1, Value.int IntKind.i64 o] 32 (0, 0)) := by
    have s1 := blk_new (w.alloc (Obj.cells #[Value.slice A0 l0.length c0, Value.slice A1 l1.length c1, Value.int IntKind.i64 o] 32)) (.cells #[Value.bool false] 4)
    have s2 := blk_new ((w.alloc (Obj.cells #[Value.slice A0 l0.length c0, Value.slice A1 l1.length c1, Value.int IntKind.i64 o] 32)).alloc (.cells #[Value.bool false] 4)) (.cells (mkN 4096 []) 104)
    have s3 := blk_new (((w.alloc (Obj.cells #[Value.slice A0 l0.length c0, Value.slice A1 l1.length c1, Value.int IntKind.i64 o] 32)).alloc (.cells #[Value.bool false] 4)).alloc (.cells (mkN 4096 []) 104)) (.cells #[Value.slice A0 l0.length c0, Value.slice A1 l1.length c1, Value.int IntKind.i64 o] 32)
    simp only [World.size_alloc] at s1 s2 s3
    rw [hwl]
    exact ⟨blk_alloc (blk_alloc s1 _) _, blk_alloc s2 _, s3⟩
  rw [← hwl]
  refine rangeFunc_T (T := 137) rfl h1 (gf := 114) (lb := #[.pointer (some ⟨w.heap.size + 1 + 1 + 1, 0, none⟩)]) rfl trivial (enters_of Try.func114 (by kernel_rfl) rfl)
    (places_seq (n - 1) (by omega) (w.heap.size + 1 + 1 + 1) A0 A1 c0 c1 l0 l1 o c wl (by omega) hb3 (Kd.C_below R.out.1.1 hB0) (Kd.C_below R.out.1.2 hB0) R.out.2.1 R.out.2.2.1 xs R.out.2.2.2) kpT_t (fun W l o o' _ a b _ => kpT_obj W l o o' a b) (Below.refl _ _) (fun _ => rfl)
    (fun pre W => (W.heap[w.heap.size + 1]? = some (.cells #[.bool false] 4 (0, 0)) ∧ W.heap[w.heap.size + 1 + 1]? = some (.cells (mkN 4096 pre) 104 (0, 0)) ∧ (pre.Nodup ∧ pre <+: xs)) ∧ Below w.heap.size w W)
    (fun c pre W => (W.heap[w.heap.size + 1]? = some (.cells #[.bool false] 4 (0, 0)) ∧ (c = .ret ∧ ¬ pre.Nodup)) ∧ Below w.heap.size w W)
    (ownT_and (ownT_and (blk_T 137 wl.heap.size (w.heap.size + 1) 4 (fun _ => #[.bool false]) (by decide)) (ownT_and (blk_T 137 wl.heap.size (w.heap.size + 1 + 1) 104 (fun pre => mkN 4096 pre) (by decide)) (pure_T _ _ _))) (below_T (by omega) (Nat.le_refl _)))
    (fun c => ownT_and (ownT_and (blk_T 137 wl.heap.size (w.heap.size + 1) 4 (fun _ => #[.bool false]) (by decide)) (pure_T _ _ _)) (below_T (by omega) (Nat.le_refl _)))
    ⟨⟨hb1, hb2, List.nodup_nil, List.nil_prefix⟩, hB0⟩
    (fun x => { tmps := #[.agg #[.slice A0 l0.length c0, .slice A1 l1.length c1, .int .i64 o], .pointer (some ⟨w.heap.size, 0, none⟩), .pointer (some ⟨w.heap.size + 1, 0, none⟩), .pointer (some ⟨w.heap.size + 1 + 1, 0, none⟩), .int .i64 x,
      .agg #[.slice A0 l0.length c0, .slice A1 l1.length c1, .int .i64 o], .func (.func 114) #[] #[.pointer (some ⟨w.heap.size + 1 + 1 + 1, 0, none⟩)], .int .i64 x, undef, undef, undef, undef, undef], defers := [] }) ?assign ?body ?done ?stop
  case assign =>
    intro l x W K hK
    gi_wp2
    exact hK
  case body =>
    rintro l pre x W ⟨⟨hr, hm, hnd, hpp⟩, hB⟩ hpx
    have hx := IN.out x (hpx.subset (by simp))
    obtain ⟨q, rfl⟩ : ∃ q : Nat, x = (q : Int) := ⟨x.toNat, by omega⟩
    have hq : q < 4096 := by omega
    have hqi : (q : Int) < 4096 := by omega
    have hcm : W.cell? ⟨w.heap.size + 1 + 1, q, none⟩ = some (.bool (decide ((q : Int) ∈ pre))) := by rw [blk_cell hm q]; exact mk_get 4096 pre q hq
    have hfm := blk_frozen hm q
    have hcr : W.cell? ⟨w.heap.size + 1, 0, none⟩ = some (.bool false) := (blk_cell hr 0).trans rfl
    have hfr := blk_frozen hr 0
    have K := Aside0.mk (And.intro (And.intro hr hm) (And.intro (And.intro hnd hpp) (And.intro hB hpx)))
    clear hr hm hnd hpp hB hpx hwl hb1 hb2 hb3 hB0 hx
    by_cases hmem : (q : Int) ∈ pre
    · have hd : decide ((q : Int) ∈ pre) = true := decide_eq_true hmem
      have MM := Aside0.mk hmem
      clear hmem
      rw [hd] at hcm
      gi_wp2
      refine ⟨(KeepsOthers.setCell _ _ _).from _, ⟨blk_put K.out.1.1 0 _ rfl, rfl, by rw [nodup_snoc]; exact fun h => h.2 MM.out⟩, K.out.2.2.1.setCell (by simp) _⟩
    · have hd : decide ((q : Int) ∈ pre) = false := decide_eq_false hmem
      have MM := Aside0.mk hmem
      clear hmem
      rw [hd] at hcm
      gi_wp2
      refine ⟨(KeepsOthers.setCell _ _ _).from _, kpT_grown (grown_put W _ q _) (fun r cs e h => ?_), ⟨blk_far K.out.1.1 (by simp) _, blk_put K.out.1.2 q _ (mk_set 4096 pre q), nodup_snoc.2 ⟨K.out.2.1.1, MM.out⟩, K.out.2.2.2⟩, K.out.2.2.1.setCell (by simp; omega) _⟩
      cases e
      rw [K.out.1.2] at h
      cases h
  case done =>
    rintro D ys W hD rfl ⟨⟨hr, hm, hnd, hpx⟩, hB⟩ hK
    have hfr := blk_frozen hr 0
    have hcr : W.cell? ⟨w.heap.size + 1, 0, none⟩ = some (.bool false) := (blk_cell hr 0).trans rfl
    gi_wp2
    have hK' : (W.setCell ⟨w.heap.size + 1, 0, none⟩ (.bool true)).heap[D]? = some (.deferred (some [])) := (Below.heap_setCell _ _ _ _ (by simp; omega)).trans hK
    refine ⟨by simp, .inl ⟨_, _, rfl, run_takeDeferred hK', ?_⟩⟩
    have hset := blk_put (cs' := #[.bool true]) hr 0 (.bool true) rfl
    have hDne : D ≠ w.heap.size + 1 := by omega
    refine ⟨_, results_cell rfl Try.underlying4 _ _ ⟨w.heap.size + 1, 0, none⟩ true rfl ?_, by rw [decide_eq_true hnd], ?_⟩
    · exact (blk_cell (show ((W.setCell ⟨w.heap.size + 1, 0, none⟩ (.bool true)).putObj D (.deferred none)).heap[w.heap.size + 1]? = some (.cells #[.bool true] 4 (0, 0)) from (World.putObj_heap_other (by omega)).trans hset) 0).trans rfl
    · exact (hB.setCell (by simp) _).trans (belowK_b (w := w) (Nat.le_refl _) _ D _ _ (by omega) hK' rfl rfl)
  case stop =>
    rintro D c pre W hD hp ⟨⟨hr, rfl, hnd⟩, hB⟩ hK
    gi_wp2
    refine ⟨by simp, .inl ⟨_, _, rfl, run_takeDeferred hK, ?_⟩⟩
    have hno : ¬ xs.Nodup := fun h => hnd (hp.sublist.nodup h)
    refine ⟨_, results_cell rfl Try.underlying4 _ _ ⟨w.heap.size + 1, 0, none⟩ false rfl ?_, by rw [decide_eq_false hno], ?_⟩
    · exact (blk_cell (show (W.putObj D (.deferred none)).heap[w.heap.size + 1]? = some (.cells #[.bool false] 4 (0, 0)) from (World.putObj_heap_other (by omega)).trans hr) 0).trans rfl
    · exact hB.trans (belowK_b (w := w) (Nat.le_refl _) _ D _ _ (by omega) hK rfl rfl)
theorem writable_calls (A0 A1 : Option Addr) (c0 c1 : Nat) (l0 l1 : List Int) (o c : Int) (w : World)
    (hr0 : Kd.C (Kd.int .i64) w A0 l0.length l0) (hr1 : Kd.C (Kd.int .i64) w A1 l1.length l1) (hcnt : Cnt A0 c0 l0 c) (hgood : Good l0 l1 o c) :
    Calls Try.prog 89 #[.agg #[.slice A0 l0.length c0, .slice A1 l1.length c1, .int .i64 o]] w fun e w' => e = .returned (.bool (decide (placesOf l0 l1 o c).Nodup)) ∧ Below w.heap.size w w' :=
  callsIn_wide.1 (writable_in 4 (Nat.le_refl _) A0 A1 c0 c1 l0 l1 o c w hr0 hr1 hcnt hgood)
end Go.Proofs.Ytpmdgmnpkdoamaa.Odo
