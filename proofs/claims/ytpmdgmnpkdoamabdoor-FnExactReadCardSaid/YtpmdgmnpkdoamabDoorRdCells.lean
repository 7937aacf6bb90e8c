/- Proved here: what impl.cells answers: the cells at a view's places, in an own list. Conditions: those of impl.places; the store's cells can be read, the places lie in it. -/
import Derived.Test.YtpmdgmnpkdoamabDoorRdPlc4
import Derived.Shelf.RegionOpen
namespace Go.Proofs.YtpmdgmnpkdoamabDoor.Odo
open Go.RowKit Go.Shelf Rf Go.Proofs.YtpmdgmnpkdoamabDoorW.PrintWords Go.Proofs.YtpmdgmnpkdoamabDoorW.PrintLast Go.Proofs.YtpmdgmnpkdoamabDoorW.PrintMore
attribute [local go_sem] Oper.semAt_some wide_fn
theorem inf27 : (Tryd.prog.info? 27).map (fun i => (i.zero, i.size, i.bytes)) = some (some (.agg #[.int .i64 0, .float .f64 0, .float .f64 0]), 3, 24) := by kernel_rfl
def three (V : Nat → Nat → Value) (xs : List Int) : List Value := xs.flatMap fun p => [V p.toNat 0, V p.toNat 1, V p.toNat 2]
theorem three_snoc (V : Nat → Nat → Value) (xs : List Int) (p : Int) : three V (xs ++ [p]) = three V xs ++ [V p.toNat 0, V p.toNat 1, V p.toNat 2] := by simp [three]
theorem oper_append {F : Fence} {n : Nat} {P : Program} (w : World) {o : Oper} {a : Act} {Q : Exit → Act → World → Prop} {K : Act → World → Prop} (s x : Operand) (t : TypeId) (hop : o.op = Op.call { callee := Callee.builtin Builtin.append, args := #[s, x], argTypes := #[t, t] })
  (base : Nat) (e : TypeId) (i : TypeInfo) (z : Value) (size bytes : Nat) (h1 : P.underlying t = some (.slice e)) (h2 : P.info? e = some i) (h3 : i.zero = some z) (h4 : i.size = size) (h5 : i.bytes = bytes) (h6 : z.cells.size = size) (h7 : 0 < size)
  (v : Value) (k : Nat) (xs : List Value) (hs : a.eval s = v) (hown : w.ownsRow base e size v k xs) (ad : Addr) (m c : Nat) (news : List Value) (hx : a.eval x = .slice (some ad) m c) (hn : news.length = m * size)
  (hc : ∀ j u, news[j]? = some u → w.cell? (ad.add j) = some u) (h1c : ∀ u ∈ news, u.oneCell' = true) (b1 : k + m ≤ maxLen) (b2 : (k + m) * bytes ≤ 140737488355328) (b3 : base ≤ w.heap.size)
  (hK : ∀ v' w', w'.ownsRow base e size v' (k + m) (xs ++ news) → w.grownBy w' v.ownBlock → K (a.put o.dst v') w') : Oper.wpIn F n P o a w K Q := by
 obtain ⟨v', w', hrun, r1, r2, r3⟩ := run_append_own (P := P) w base t o.type e i z size bytes h1 h2 h3 h4 h5 h6 h7 v k xs hown ad m c news hn hc h1c b1 b2 b3
 unfold Oper.wpIn
 refine ⟨?_, ?_⟩
 ·simp [Oper.about, hop, resolve, Target.leads, Sem.run_pure]
 ·rw [Oper.semAt_plain F _ _ (by rw [hop]; intro c hc'; cases hc')]
  simp [execOp, hop, resolve, invoke, builtin, hs, hx, hrun, Result.andThen]
  exact hK v' w' r1 r2
theorem news3 (W : World) (a b c : Value) : ∀ j u, [a, b, c][j]? = some u → (World.drew (W.alloc (.cells #[a, b, c] 27))).cell? (Addr.add ⟨W.heap.size, 0, none⟩ j) = some u := by
 intro j u h
 have e : (World.drew (W.alloc (.cells #[a, b, c] 27))).cell? ⟨W.heap.size, j, none⟩ = #[a, b, c][j]? := qJ (blk_new W (.cells #[a, b, c] 27)) j
 have e2 : Addr.add ⟨W.heap.size, 0, none⟩ j = ⟨W.heap.size, j, none⟩ := by simp [Addr.add]; exact fun h => h.symm
 rw [e2, e]
 simpa using h
theorem cells_next {V : Nat → Nat → Value} {w W w1 : World} {B S g' cap' m : Nat} {v u : Value} {pre : List Int} {x : Int} {tmp : Obj} (hrow : W.ownsRow w.heap.size 27 3 v pre.length (three V pre)) (hst : W.heap[S]? = some (.cells #[u] 73 (0, 0))) (hB : Below w.heap.size w W)
  (hgrow : (W.drew.alloc tmp).grownBy w1 v.ownBlock) (hv1 : Boxed w1 B 73 v) (hv2 : Boxed (w1.setCell ⟨B, 0, none⟩ (.slice (some ⟨g', 0, none⟩) (pre.length + 1) cap')) B 73 (.slice (some ⟨g', 0, none⟩) (pre.length + 1) cap'))
  (hr2 : (w1.setCell ⟨B, 0, none⟩ (.slice (some ⟨g', 0, none⟩) (pre.length + 1) cap')).ownsRow w.heap.size 27 3 (.slice (some ⟨g', 0, none⟩) (pre.length + 1) cap') (pre.length + 1) (three V pre ++ [V x.toNat 0, V x.toNat 1, V x.toNat 2]))
  (hk2 : KeepsOthers W.drew (w1.setCell ⟨B, 0, none⟩ (.slice (some ⟨g', 0, none⟩) (pre.length + 1) cap'))) (hb2 : Below w.heap.size W.drew (w1.setCell ⟨B, 0, none⟩ (.slice (some ⟨g', 0, none⟩) (pre.length + 1) cap'))) (hne : S ≠ B) :
  KeepsFrom m W (w1.setCell ⟨B, 0, none⟩ (.slice (some ⟨g', 0, none⟩) (pre.length + 1) cap')) ∧ KpT W (w1.setCell ⟨B, 0, none⟩ (.slice (some ⟨g', 0, none⟩) (pre.length + 1) cap')) ∧
   ((∃ v', Boxed (w1.setCell ⟨B, 0, none⟩ (.slice (some ⟨g', 0, none⟩) (pre.length + 1) cap')) B 73 v' ∧ (w1.setCell ⟨B, 0, none⟩ (.slice (some ⟨g', 0, none⟩) (pre.length + 1) cap')).ownsRow w.heap.size 27 3 v' (pre ++ [x]).length (three V (pre ++ [x]))) ∧
    ((w1.setCell ⟨B, 0, none⟩ (.slice (some ⟨g', 0, none⟩) (pre.length + 1) cap')).heap[S]? = some (.cells #[u] 73 (0, 0)) ∧ Below w.heap.size w (w1.setCell ⟨B, 0, none⟩ (.slice (some ⟨g', 0, none⟩) (pre.length + 1) cap')))) := by
 have k1 : KpT W.drew (W.drew.alloc tmp) := kpT_grown (World.grownBy_alloc W.drew _ none) (fun r cs e => by cases e)
 have k2 : KpT (W.drew.alloc tmp) w1 := kpT_grown hgrow (fun r cs e h => by
  obtain ⟨cells, hcl⟩ := own_typed (show (W.drew.alloc tmp).ownsRow _ _ _ _ _ _ from hrow.alloc tmp) r e
  rw [hcl] at h
  cases h)
 have k3 := kpT_grown (grownBy_setCell' w1 B (.slice (some ⟨g', 0, none⟩) (pre.length + 1) cap')) (fun r cs e h => by
  cases e
  rw [show w1.heap[B]? = _ from hv1] at h
  cases h)
 have hS : Boxed W S 73 u := hst
 have hS1 : Boxed w1 S 73 u := (show Boxed (W.drew.alloc tmp) S 73 u from hS.alloc tmp).kept hgrow (hS.not_row (by decide) hrow)
 refine ⟨((KeepsOthers.drew W).trans hk2).from _, kpT_t (fun b cs e => e) (kpT_t k1 (kpT_t k2 k3)), ⟨_, hv2, ?_⟩, jO hS1 hne _, (qC hB).trans hb2⟩
 rw [three_snoc]
 simpa using hr2
set_option maxHeartbeats 8000000 in
set_option maxRecDepth 100000 in
theorem cells_in (n : Nat) (hn : 4 ≤ n) (ad : Addr) (H cH : Nat) (s : Int) (A0 A1 Ac : Option Addr) (c0 c1 nn cc : Nat) (l0 l1 : List Int) (o c : Int) (V : Nat → Nat → Value) (w : World) (hs0 : 0 ≤ s) (hs1 : s < (H : Int))
  (hr0 : Kd.C (Kd.int .i64) w A0 l0.length l0) (hr1 : Kd.C (Kd.int .i64) w A1 l1.length l1)
  (hq : w.cell? ⟨(ad.add (s.toNat * 2)).block, (ad.add (s.toNat * 2)).off + 1, none⟩ = some (.slice Ac nn cc))
  (hV : ∀ p : Int, 0 ≤ p → p < nn → ∃ a, Ac = some a ∧ w.cell? (a.add (p.toNat * 3)) = some (V p.toNat 0) ∧ w.cell? ⟨(a.add (p.toNat * 3)).block, (a.add (p.toNat * 3)).off + 1, none⟩ = some (V p.toNat 1) ∧ w.cell? ⟨(a.add (p.toNat * 3)).block, (a.add (p.toNat * 3)).off + 2, none⟩ = some (V p.toNat 2)) (h1V : ∀ p i, (V p i).oneCell' = true)
  (hcnt : Cnt A0 c0 l0 c) (hgood : Good l0 l1 o c) (hlen : (placesOf l0 l1 o c).length ≤ 4096) (hin : ∀ p ∈ placesOf l0 l1 o c, 0 ≤ p ∧ p < (nn : Int)) :
  CallsIn Fence.wide n Tryd.prog 112 #[.agg #[.slice (some ad) H cH], .agg #[.int .i64 s, .slice A0 l0.length c0, .slice A1 l1.length c1, .int .i64 o]] w fun e w' =>
   ∃ v0_ : Value, e = .returned v0_ ∧ w'.ownsRow w.heap.size 27 3 v0_ (placesOf l0 l1 o c).length (three V (placesOf l0 l1 o c)) ∧ Below w.heap.size w w' := by
 have h1 : 1 ≤ n := by omega
 obtain ⟨xs, hxs⟩ : ∃ xs, xs = placesOf l0 l1 o c := ⟨_, rfl⟩
 have R := qV.mk (And.intro (And.intro hr0 hr1) (And.intro hcnt (And.intro hgood (And.intro hlen hxs))))
 rw [← hxs] at hin ⊢
 have HV := qV.mk (And.intro hV (And.intro h1V hin))
 have HQ := qV.mk hq
 have hq4 : ∀ x1 x2 x3 x4, ((((w.alloc x1).alloc x2).alloc x3).alloc x4).cell? ⟨(ad.add (s.toNat * 2)).block, (ad.add (s.toNat * 2)).off + 1, none⟩ = some (.slice Ac nn cc) := fun x1 x2 x3 x4 =>
  (((((Below.refl _ w).alloc (Nat.le_refl _) x1).alloc (by simp) x2).alloc (by simp; omega) x3 |>.alloc (by simp; omega) x4).cell (World.block_lt_of_cell? w _ hq)).trans hq
 clear hr0 hr1 hcnt hgood hlen hxs hV h1V hin hq
 refine callsIn_of_wp_marks Tryd.func112 rfl trivial ?_ rfl
 simp only [Tryd.ntmps112, List.size_toArray, List.length_cons, List.length_nil, Nat.reduceAdd, Nat.reduceSub, Array.replicate_succ, Array.replicate_zero, List.push_toArray, List.append_toArray, List.nil_append, List.cons_append]
 gi_wp2_with (gi_at_call 122; refine (places_calls (n - 1) _ _ _ _).mono ?_; rintro e w' ⟨rfl, rfl⟩)
 obtain ⟨i0, hi, hz0, hz1, hz2⟩ := info_parts inf27
 obtain ⟨wl, hwl⟩ : ∃ wl, wl = ((((((w.alloc (Obj.cells #[Value.slice (some ad) H cH] 39)).alloc (Obj.cells #[Value.int IntKind.i64 s, Value.slice A0 l0.length c0, Value.slice A1 l1.length c1, Value.int IntKind.i64 o] 66)).alloc (Obj.cells #[] 27)).alloc (Obj.cells #[Value.slice (some { block := w.heap.size + 1 + 1, off := 0 }) 0 0] 73)).alloc (Obj.cells #[Value.slice Ac nn cc] 73)).alloc (Obj.cells #[Value.slice A0 l0.length c0, Value.slice A1 l1.length c1, Value.int IntKind.i64 o] 64)) := ⟨_, rfl⟩
 have sz : wl.heap.size = w.heap.size + 6 := by rw [hwl]; simp
 have hB0 : Below w.heap.size w wl := by
  rw [hwl]; exact ((((((Below.refl _ w).alloc (Nat.le_refl _) _).alloc (by simp) _).alloc (by simp; omega) _).alloc (by simp; omega) _).alloc (by simp; omega) _).alloc (by simp; omega) _
 obtain ⟨g1, g2, g3, g4⟩ : wl.heap[w.heap.size + 1 + 1]? = some (.cells #[] 27 (0, 0)) ∧ wl.heap[w.heap.size + 1 + 1 + 1]? = some (.cells #[Value.slice (some { block := w.heap.size + 1 + 1, off := 0 }) 0 0] 73 (0, 0)) ∧
   wl.heap[w.heap.size + 1 + 1 + 1 + 1]? = some (.cells #[Value.slice Ac nn cc] 73 (0, 0)) ∧ wl.heap[w.heap.size + 1 + 1 + 1 + 1 + 1]? = some (.cells #[Value.slice A0 l0.length c0, Value.slice A1 l1.length c1, Value.int IntKind.i64 o] 64 (0, 0)) := by
  have s2 := fun x1 x2 o => blk_new ((w.alloc x1).alloc x2) o
  have s3 := fun x1 x2 x3 o => blk_new (((w.alloc x1).alloc x2).alloc x3) o
  have s4 := fun x1 x2 x3 x4 o => blk_new ((((w.alloc x1).alloc x2).alloc x3).alloc x4) o
  have s5 := fun x1 x2 x3 x4 x5 o => blk_new (((((w.alloc x1).alloc x2).alloc x3).alloc x4).alloc x5) o
  simp only [World.size_alloc] at s2 s3 s4 s5
  rw [hwl]
  exact ⟨qG (qG (qG (s2 _ _ _) _) _) _, qG (qG (s3 _ _ _ _) _) _, qG (s4 _ _ _ _ _) _, s5 _ _ _ _ _ _⟩
 have hR : wl.ownsRow w.heap.size 27 3 (.slice (some ⟨w.heap.size + 1 + 1, 0, none⟩) 0 0) 0 [] := ⟨by simp, .inr ⟨w.heap.size + 1 + 1, 0, #[], rfl, by omega, g1, Nat.le_refl _, by simp [maxLen], by simp, by simp⟩⟩
 rw [← hwl]
 refine rangeFunc_T (T := 186) rfl h1 (gf := 170) (lb := #[.pointer (some ⟨w.heap.size + 1 + 1 + 1 + 1 + 1, 0, none⟩)]) rfl trivial (enters_of Tryd.func170 (by kernel_rfl) rfl)
  (places_seq (n - 1) (by omega) (w.heap.size + 1 + 1 + 1 + 1 + 1) A0 A1 c0 c1 l0 l1 o c wl (by omega) g4 (Kd.zA R.out.1.1 hB0) (Kd.zA R.out.1.2 hB0) R.out.2.1 R.out.2.2.1 xs R.out.2.2.2.2) kpT_t (fun W l o o' _ a b _ => kpT_obj W l o o' a b) (Below.refl _ _) (fun _ => rfl)
  (fun pre W => (∃ v, Boxed W (w.heap.size + 1 + 1 + 1) 73 v ∧ W.ownsRow w.heap.size 27 3 v pre.length (three V pre)) ∧ (W.heap[w.heap.size + 1 + 1 + 1 + 1]? = some (.cells #[Value.slice Ac nn cc] 73 (0, 0)) ∧ Below w.heap.size w W))
  (fun _ _ _ => False)
  (ownT_and (holdsRow_T 186 wl.heap.size w.heap.size (w.heap.size + 1 + 1 + 1) 73 27 3 _ _ (by decide) (by decide)) (ownT_and (blk_T 186 wl.heap.size (w.heap.size + 1 + 1 + 1 + 1) 73 (fun _ => #[Value.slice Ac nn cc]) (by decide)) (below_T (by omega) (Nat.le_refl _))))
  (fun _ _ _ _ _ hs _ _ => hs)
  ⟨⟨_, g2, hR⟩, g3, hB0⟩
  (fun x => { tmps := #[.agg #[.slice (some ad) H cH], .agg #[.int .i64 s, .slice A0 l0.length c0, .slice A1 l1.length c1, .int .i64 o], .pointer (some ⟨w.heap.size, 0, none⟩), .pointer (some ⟨w.heap.size + 1, 0, none⟩), .slice none 0 0, .pointer (some ⟨w.heap.size + 1 + 1 + 1, 0, none⟩), .pointer (some ⟨w.heap.size + 1 + 1 + 1 + 1, 0, none⟩), .int .i64 x,
   .slice (some ⟨w.heap.size + 1 + 1, 0, none⟩) 0 0, .pointer (some ⟨w.heap.size, 0, none⟩), .slice (some ad) H cH, .pointer (some ⟨w.heap.size + 1, 0, none⟩), .int .i64 s, .pointer (some (ad.add (s.toNat * 2))), .pointer (some ⟨(ad.add (s.toNat * 2)).block, (ad.add (s.toNat * 2)).off + 1, none⟩), .slice Ac nn cc, .pointer (some ⟨w.heap.size + 1, 1, none⟩),
   .agg #[.slice A0 l0.length c0, .slice A1 l1.length c1, .int .i64 o], .func (.func 170) #[] #[.pointer (some ⟨w.heap.size + 1 + 1 + 1 + 1 + 1, 0, none⟩)], .int .i64 x, undef, undef, undef, undef, undef, undef, undef, undef], defers := [] }) ?assign ?body ?done ?stop
 case assign =>
  intro l x W K hK
  gi_wp2
  exact hK
 case body =>
  rintro l pre x W ⟨⟨v, hv, hrow⟩, hst, hB⟩ hpx
  have hlt : pre.length < xs.length := by have := hpx.length_le; simp at this; omega
  obtain ⟨hx0, hx1⟩ := HV.out.2.2 x (hpx.subset (by simp))
  clear hpx
  have hc := hv.cell
  have hs6 : W.cell? ⟨w.heap.size + 1 + 1 + 1 + 1, 0, none⟩ = some (.slice Ac nn cc) := (qJ hst 0).trans rfl
  have hx4 : xs.length ≤ 4096 := by rw [R.out.2.2.2.2]; exact R.out.2.2.2.1
  have hsz : W.heap.size ≥ w.heap.size := hB.size
  obtain ⟨a, rfl, v0, v1, v2⟩ := HV.out.1 x hx0 hx1
  have c0' : W.cell? (a.add (x.toNat * 3)) = some (V x.toNat 0) := (hB.cell (World.block_lt_of_cell? w _ v0)).trans v0
  have c1' : W.cell? ⟨(a.add (x.toNat * 3)).block, (a.add (x.toNat * 3)).off + 1, none⟩ = some (V x.toNat 1) := (hB.cell (World.block_lt_of_cell? w _ v1)).trans v1
  have c2' : W.cell? ⟨(a.add (x.toNat * 3)).block, (a.add (x.toNat * 3)).off + 2, none⟩ = some (V x.toNat 2) := (hB.cell (World.block_lt_of_cell? w _ v2)).trans v2
  clear v0 v1 v2
  have hmix : Tryd.prog.follows .mixedOrders = true := by kernel_rfl
  clear hwl g1 g2 g3 g4 hR sz hB0 hq4
  gi_wp2
  refine wpIn_region_any hmix ?_
  try (change wpAnyIn _ _ _ _ _ _ _ _ _ (World.drew _))
  have hca : ∀ y, (W.alloc y).cell? ⟨w.heap.size + 1 + 1 + 1, 0, none⟩ = some v := fun y => (hv.alloc y).cell
  have hsa : ∀ y, (W.alloc y).cell? ⟨w.heap.size + 1 + 1 + 1 + 1, 0, none⟩ = some (.slice (some a) nn cc) := fun y => (qJ (qG hst y) 0).trans rfl
  have hVs := HV.out.2.1
  --TREE
  refine wpAnyIn_ready (rs := [0, 1, 2]) (by kernel_rfl) (by simp) ?_
  refine AllReadyIn.cons rfl (fun K hK => ?_) (AllReadyIn.cons rfl (fun K hK => ?_) (AllReadyIn.cons rfl (fun K hK => ?_) (AllReadyIn.nil)))
  ·go_simp
   refine hK _ _ ?_
   clear hK K
   refine wpAnyIn_ready (rs := [1, 2]) (by kernel_rfl) (by simp) ?_
   refine AllReadyIn.cons rfl (fun K hK => ?_) (AllReadyIn.cons rfl (fun K hK => ?_) (AllReadyIn.nil))
   ·go_simp
    refine hK _ _ ?_
    clear hK K
    refine wpAnyIn_ready (rs := [2]) (by kernel_rfl) (by simp) ?_
    refine AllReadyIn.cons rfl (fun K hK => ?_) (AllReadyIn.nil)
    ·go_simp
     refine hK _ _ ?_
     clear hK K
     refine wpAnyIn_ready (rs := [3]) (by kernel_rfl) (by simp) ?_
     refine AllReadyIn.cons rfl (fun K hK => ?_) (AllReadyIn.nil)
     ·go_simp
      refine hK _ _ ?_
      clear hK K
      refine wpAnyIn_ready (rs := [4]) (by kernel_rfl) (by simp) ?_
      refine AllReadyIn.cons rfl (fun K hK => ?_) (AllReadyIn.nil)
      ·go_simp
       refine hK _ _ ?_
       clear hK K
       refine wpAnyIn_ready (rs := [5]) (by kernel_rfl) (by simp) ?_
       refine AllReadyIn.cons rfl (fun K hK => ?_) (AllReadyIn.nil)
       ·go_simp
        refine hK _ _ ?_
        clear hK K
        refine wpAnyIn_ready (rs := [6]) (by kernel_rfl) (by simp) ?_
        refine AllReadyIn.cons rfl (fun K hK => ?_) AllReadyIn.nil
        refine Eq.mpr (if_pos (by kernel_rfl)) ?_
        refine oper_append _ _ _ 73 rfl w.heap.size 27 i0 (.agg #[.int .i64 0, .float .f64 0, .float .f64 0]) 3 24 Tryd.underlying73 hi hz0 hz1 hz2 rfl (by decide) _ _ _ rfl (show World.ownsRow (World.drew (W.alloc _)) _ _ _ _ _ _ from hrow.alloc _) ⟨W.heap.size, 0, none⟩ 1 1 [V x.toNat 0, V x.toNat 1, V x.toNat 2] rfl rfl (news3 W _ _ _) (by simp [hVs]) (by unfold maxLen; omega) (by omega) (by simp; omega) ?_
        intro v' w1 hown' hgrow
        obtain ⟨g', cap', rfl⟩ := ownsRow_succ hown'
        obtain ⟨hv1, hv2, hr2, hk2, hb2⟩ := Boxed.appended (W := W.drew) hv (by decide) hrow hB.size (by omega) hown' hgrow
        have hc1 := hv1.cell
        have hf1 := hv1.frozen
        refine hK _ _ ?_
        clear hK K
        refine wpAnyIn_ready (rs := [7]) (by kernel_rfl) (by simp) ?_
        refine AllReadyIn.cons rfl (fun K hK => ?_) AllReadyIn.nil
        go_simp
        refine hK _ _ ?_
        clear hK K
        refine wpAnyIn_done (by kernel_rfl) ?_ _
        exact cells_next hrow hst hB hgrow hv1 hv2 hr2 hk2 hb2 (by omega)
   ·go_simp
    refine hK _ _ ?_
    clear hK K
    refine wpAnyIn_ready (rs := [1]) (by kernel_rfl) (by simp) ?_
    refine AllReadyIn.cons rfl (fun K hK => ?_) (AllReadyIn.nil)
    ·go_simp
     refine hK _ _ ?_
     clear hK K
     refine wpAnyIn_ready (rs := [3]) (by kernel_rfl) (by simp) ?_
     refine AllReadyIn.cons rfl (fun K hK => ?_) (AllReadyIn.nil)
     ·go_simp
      refine hK _ _ ?_
      clear hK K
      refine wpAnyIn_ready (rs := [4]) (by kernel_rfl) (by simp) ?_
      refine AllReadyIn.cons rfl (fun K hK => ?_) (AllReadyIn.nil)
      ·go_simp
       refine hK _ _ ?_
       clear hK K
       refine wpAnyIn_ready (rs := [5]) (by kernel_rfl) (by simp) ?_
       refine AllReadyIn.cons rfl (fun K hK => ?_) (AllReadyIn.nil)
       ·go_simp
        refine hK _ _ ?_
        clear hK K
        refine wpAnyIn_ready (rs := [6]) (by kernel_rfl) (by simp) ?_
        refine AllReadyIn.cons rfl (fun K hK => ?_) AllReadyIn.nil
        refine Eq.mpr (if_pos (by kernel_rfl)) ?_
        refine oper_append _ _ _ 73 rfl w.heap.size 27 i0 (.agg #[.int .i64 0, .float .f64 0, .float .f64 0]) 3 24 Tryd.underlying73 hi hz0 hz1 hz2 rfl (by decide) _ _ _ rfl (show World.ownsRow (World.drew (W.alloc _)) _ _ _ _ _ _ from hrow.alloc _) ⟨W.heap.size, 0, none⟩ 1 1 [V x.toNat 0, V x.toNat 1, V x.toNat 2] rfl rfl (news3 W _ _ _) (by simp [hVs]) (by unfold maxLen; omega) (by omega) (by simp; omega) ?_
        intro v' w1 hown' hgrow
        obtain ⟨g', cap', rfl⟩ := ownsRow_succ hown'
        obtain ⟨hv1, hv2, hr2, hk2, hb2⟩ := Boxed.appended (W := W.drew) hv (by decide) hrow hB.size (by omega) hown' hgrow
        have hc1 := hv1.cell
        have hf1 := hv1.frozen
        refine hK _ _ ?_
        clear hK K
        refine wpAnyIn_ready (rs := [7]) (by kernel_rfl) (by simp) ?_
        refine AllReadyIn.cons rfl (fun K hK => ?_) AllReadyIn.nil
        go_simp
        refine hK _ _ ?_
        clear hK K
        refine wpAnyIn_done (by kernel_rfl) ?_ _
        exact cells_next hrow hst hB hgrow hv1 hv2 hr2 hk2 hb2 (by omega)
  ·go_simp
   refine hK _ _ ?_
   clear hK K
   refine wpAnyIn_ready (rs := [0, 2]) (by kernel_rfl) (by simp) ?_
   refine AllReadyIn.cons rfl (fun K hK => ?_) (AllReadyIn.cons rfl (fun K hK => ?_) (AllReadyIn.nil))
   ·go_simp
    refine hK _ _ ?_
    clear hK K
    refine wpAnyIn_ready (rs := [2]) (by kernel_rfl) (by simp) ?_
    refine AllReadyIn.cons rfl (fun K hK => ?_) (AllReadyIn.nil)
    ·go_simp
     refine hK _ _ ?_
     clear hK K
     refine wpAnyIn_ready (rs := [3]) (by kernel_rfl) (by simp) ?_
     refine AllReadyIn.cons rfl (fun K hK => ?_) (AllReadyIn.nil)
     ·go_simp
      refine hK _ _ ?_
      clear hK K
      refine wpAnyIn_ready (rs := [4]) (by kernel_rfl) (by simp) ?_
      refine AllReadyIn.cons rfl (fun K hK => ?_) (AllReadyIn.nil)
      ·go_simp
       refine hK _ _ ?_
       clear hK K
       refine wpAnyIn_ready (rs := [5]) (by kernel_rfl) (by simp) ?_
       refine AllReadyIn.cons rfl (fun K hK => ?_) (AllReadyIn.nil)
       ·go_simp
        refine hK _ _ ?_
        clear hK K
        refine wpAnyIn_ready (rs := [6]) (by kernel_rfl) (by simp) ?_
        refine AllReadyIn.cons rfl (fun K hK => ?_) AllReadyIn.nil
        refine Eq.mpr (if_pos (by kernel_rfl)) ?_
        refine oper_append _ _ _ 73 rfl w.heap.size 27 i0 (.agg #[.int .i64 0, .float .f64 0, .float .f64 0]) 3 24 Tryd.underlying73 hi hz0 hz1 hz2 rfl (by decide) _ _ _ rfl (show World.ownsRow (World.drew (W.alloc _)) _ _ _ _ _ _ from hrow.alloc _) ⟨W.heap.size, 0, none⟩ 1 1 [V x.toNat 0, V x.toNat 1, V x.toNat 2] rfl rfl (news3 W _ _ _) (by simp [hVs]) (by unfold maxLen; omega) (by omega) (by simp; omega) ?_
        intro v' w1 hown' hgrow
        obtain ⟨g', cap', rfl⟩ := ownsRow_succ hown'
        obtain ⟨hv1, hv2, hr2, hk2, hb2⟩ := Boxed.appended (W := W.drew) hv (by decide) hrow hB.size (by omega) hown' hgrow
        have hc1 := hv1.cell
        have hf1 := hv1.frozen
        refine hK _ _ ?_
        clear hK K
        refine wpAnyIn_ready (rs := [7]) (by kernel_rfl) (by simp) ?_
        refine AllReadyIn.cons rfl (fun K hK => ?_) AllReadyIn.nil
        go_simp
        refine hK _ _ ?_
        clear hK K
        refine wpAnyIn_done (by kernel_rfl) ?_ _
        exact cells_next hrow hst hB hgrow hv1 hv2 hr2 hk2 hb2 (by omega)
   ·go_simp
    refine hK _ _ ?_
    clear hK K
    refine wpAnyIn_ready (rs := [0, 3]) (by kernel_rfl) (by simp) ?_
    refine AllReadyIn.cons rfl (fun K hK => ?_) (AllReadyIn.cons rfl (fun K hK => ?_) (AllReadyIn.nil))
    ·go_simp
     refine hK _ _ ?_
     clear hK K
     refine wpAnyIn_ready (rs := [3]) (by kernel_rfl) (by simp) ?_
     refine AllReadyIn.cons rfl (fun K hK => ?_) (AllReadyIn.nil)
     ·go_simp
      refine hK _ _ ?_
      clear hK K
      refine wpAnyIn_ready (rs := [4]) (by kernel_rfl) (by simp) ?_
      refine AllReadyIn.cons rfl (fun K hK => ?_) (AllReadyIn.nil)
      ·go_simp
       refine hK _ _ ?_
       clear hK K
       refine wpAnyIn_ready (rs := [5]) (by kernel_rfl) (by simp) ?_
       refine AllReadyIn.cons rfl (fun K hK => ?_) (AllReadyIn.nil)
       ·go_simp
        refine hK _ _ ?_
        clear hK K
        refine wpAnyIn_ready (rs := [6]) (by kernel_rfl) (by simp) ?_
        refine AllReadyIn.cons rfl (fun K hK => ?_) AllReadyIn.nil
        refine Eq.mpr (if_pos (by kernel_rfl)) ?_
        refine oper_append _ _ _ 73 rfl w.heap.size 27 i0 (.agg #[.int .i64 0, .float .f64 0, .float .f64 0]) 3 24 Tryd.underlying73 hi hz0 hz1 hz2 rfl (by decide) _ _ _ rfl (show World.ownsRow (World.drew (W.alloc _)) _ _ _ _ _ _ from hrow.alloc _) ⟨W.heap.size, 0, none⟩ 1 1 [V x.toNat 0, V x.toNat 1, V x.toNat 2] rfl rfl (news3 W _ _ _) (by simp [hVs]) (by unfold maxLen; omega) (by omega) (by simp; omega) ?_
        intro v' w1 hown' hgrow
        obtain ⟨g', cap', rfl⟩ := ownsRow_succ hown'
        obtain ⟨hv1, hv2, hr2, hk2, hb2⟩ := Boxed.appended (W := W.drew) hv (by decide) hrow hB.size (by omega) hown' hgrow
        have hc1 := hv1.cell
        have hf1 := hv1.frozen
        refine hK _ _ ?_
        clear hK K
        refine wpAnyIn_ready (rs := [7]) (by kernel_rfl) (by simp) ?_
        refine AllReadyIn.cons rfl (fun K hK => ?_) AllReadyIn.nil
        go_simp
        refine hK _ _ ?_
        clear hK K
        refine wpAnyIn_done (by kernel_rfl) ?_ _
        exact cells_next hrow hst hB hgrow hv1 hv2 hr2 hk2 hb2 (by omega)
    ·go_simp
     refine hK _ _ ?_
     clear hK K
     refine wpAnyIn_ready (rs := [0, 4]) (by kernel_rfl) (by simp) ?_
     refine AllReadyIn.cons rfl (fun K hK => ?_) (AllReadyIn.cons rfl (fun K hK => ?_) (AllReadyIn.nil))
     ·go_simp
      refine hK _ _ ?_
      clear hK K
      refine wpAnyIn_ready (rs := [4]) (by kernel_rfl) (by simp) ?_
      refine AllReadyIn.cons rfl (fun K hK => ?_) (AllReadyIn.nil)
      ·go_simp
       refine hK _ _ ?_
       clear hK K
       refine wpAnyIn_ready (rs := [5]) (by kernel_rfl) (by simp) ?_
       refine AllReadyIn.cons rfl (fun K hK => ?_) (AllReadyIn.nil)
       ·go_simp
        refine hK _ _ ?_
        clear hK K
        refine wpAnyIn_ready (rs := [6]) (by kernel_rfl) (by simp) ?_
        refine AllReadyIn.cons rfl (fun K hK => ?_) AllReadyIn.nil
        refine Eq.mpr (if_pos (by kernel_rfl)) ?_
        refine oper_append _ _ _ 73 rfl w.heap.size 27 i0 (.agg #[.int .i64 0, .float .f64 0, .float .f64 0]) 3 24 Tryd.underlying73 hi hz0 hz1 hz2 rfl (by decide) _ _ _ rfl (show World.ownsRow (World.drew (W.alloc _)) _ _ _ _ _ _ from hrow.alloc _) ⟨W.heap.size, 0, none⟩ 1 1 [V x.toNat 0, V x.toNat 1, V x.toNat 2] rfl rfl (news3 W _ _ _) (by simp [hVs]) (by unfold maxLen; omega) (by omega) (by simp; omega) ?_
        intro v' w1 hown' hgrow
        obtain ⟨g', cap', rfl⟩ := ownsRow_succ hown'
        obtain ⟨hv1, hv2, hr2, hk2, hb2⟩ := Boxed.appended (W := W.drew) hv (by decide) hrow hB.size (by omega) hown' hgrow
        have hc1 := hv1.cell
        have hf1 := hv1.frozen
        refine hK _ _ ?_
        clear hK K
        refine wpAnyIn_ready (rs := [7]) (by kernel_rfl) (by simp) ?_
        refine AllReadyIn.cons rfl (fun K hK => ?_) AllReadyIn.nil
        go_simp
        refine hK _ _ ?_
        clear hK K
        refine wpAnyIn_done (by kernel_rfl) ?_ _
        exact cells_next hrow hst hB hgrow hv1 hv2 hr2 hk2 hb2 (by omega)
     ·go_simp
      refine hK _ _ ?_
      clear hK K
      refine wpAnyIn_ready (rs := [0, 5]) (by kernel_rfl) (by simp) ?_
      refine AllReadyIn.cons rfl (fun K hK => ?_) (AllReadyIn.cons rfl (fun K hK => ?_) (AllReadyIn.nil))
      ·go_simp
       refine hK _ _ ?_
       clear hK K
       refine wpAnyIn_ready (rs := [5]) (by kernel_rfl) (by simp) ?_
       refine AllReadyIn.cons rfl (fun K hK => ?_) (AllReadyIn.nil)
       ·go_simp
        refine hK _ _ ?_
        clear hK K
        refine wpAnyIn_ready (rs := [6]) (by kernel_rfl) (by simp) ?_
        refine AllReadyIn.cons rfl (fun K hK => ?_) AllReadyIn.nil
        refine Eq.mpr (if_pos (by kernel_rfl)) ?_
        refine oper_append _ _ _ 73 rfl w.heap.size 27 i0 (.agg #[.int .i64 0, .float .f64 0, .float .f64 0]) 3 24 Tryd.underlying73 hi hz0 hz1 hz2 rfl (by decide) _ _ _ rfl (show World.ownsRow (World.drew (W.alloc _)) _ _ _ _ _ _ from hrow.alloc _) ⟨W.heap.size, 0, none⟩ 1 1 [V x.toNat 0, V x.toNat 1, V x.toNat 2] rfl rfl (news3 W _ _ _) (by simp [hVs]) (by unfold maxLen; omega) (by omega) (by simp; omega) ?_
        intro v' w1 hown' hgrow
        obtain ⟨g', cap', rfl⟩ := ownsRow_succ hown'
        obtain ⟨hv1, hv2, hr2, hk2, hb2⟩ := Boxed.appended (W := W.drew) hv (by decide) hrow hB.size (by omega) hown' hgrow
        have hc1 := hv1.cell
        have hf1 := hv1.frozen
        refine hK _ _ ?_
        clear hK K
        refine wpAnyIn_ready (rs := [7]) (by kernel_rfl) (by simp) ?_
        refine AllReadyIn.cons rfl (fun K hK => ?_) AllReadyIn.nil
        go_simp
        refine hK _ _ ?_
        clear hK K
        refine wpAnyIn_done (by kernel_rfl) ?_ _
        exact cells_next hrow hst hB hgrow hv1 hv2 hr2 hk2 hb2 (by omega)
      ·go_simp
       refine hK _ _ ?_
       clear hK K
       refine wpAnyIn_ready (rs := [0]) (by kernel_rfl) (by simp) ?_
       refine AllReadyIn.cons rfl (fun K hK => ?_) (AllReadyIn.nil)
       ·go_simp
        refine hK _ _ ?_
        clear hK K
        refine wpAnyIn_ready (rs := [6]) (by kernel_rfl) (by simp) ?_
        refine AllReadyIn.cons rfl (fun K hK => ?_) AllReadyIn.nil
        refine Eq.mpr (if_pos (by kernel_rfl)) ?_
        refine oper_append _ _ _ 73 rfl w.heap.size 27 i0 (.agg #[.int .i64 0, .float .f64 0, .float .f64 0]) 3 24 Tryd.underlying73 hi hz0 hz1 hz2 rfl (by decide) _ _ _ rfl (show World.ownsRow (World.drew (W.alloc _)) _ _ _ _ _ _ from hrow.alloc _) ⟨W.heap.size, 0, none⟩ 1 1 [V x.toNat 0, V x.toNat 1, V x.toNat 2] rfl rfl (news3 W _ _ _) (by simp [hVs]) (by unfold maxLen; omega) (by omega) (by simp; omega) ?_
        intro v' w1 hown' hgrow
        obtain ⟨g', cap', rfl⟩ := ownsRow_succ hown'
        obtain ⟨hv1, hv2, hr2, hk2, hb2⟩ := Boxed.appended (W := W.drew) hv (by decide) hrow hB.size (by omega) hown' hgrow
        have hc1 := hv1.cell
        have hf1 := hv1.frozen
        refine hK _ _ ?_
        clear hK K
        refine wpAnyIn_ready (rs := [7]) (by kernel_rfl) (by simp) ?_
        refine AllReadyIn.cons rfl (fun K hK => ?_) AllReadyIn.nil
        go_simp
        refine hK _ _ ?_
        clear hK K
        refine wpAnyIn_done (by kernel_rfl) ?_ _
        exact cells_next hrow hst hB hgrow hv1 hv2 hr2 hk2 hb2 (by omega)
  ·go_simp
   refine hK _ _ ?_
   clear hK K
   refine wpAnyIn_ready (rs := [0, 1]) (by kernel_rfl) (by simp) ?_
   refine AllReadyIn.cons rfl (fun K hK => ?_) (AllReadyIn.cons rfl (fun K hK => ?_) (AllReadyIn.nil))
   ·go_simp
    refine hK _ _ ?_
    clear hK K
    refine wpAnyIn_ready (rs := [1]) (by kernel_rfl) (by simp) ?_
    refine AllReadyIn.cons rfl (fun K hK => ?_) (AllReadyIn.nil)
    ·go_simp
     refine hK _ _ ?_
     clear hK K
     refine wpAnyIn_ready (rs := [3]) (by kernel_rfl) (by simp) ?_
     refine AllReadyIn.cons rfl (fun K hK => ?_) (AllReadyIn.nil)
     ·go_simp
      refine hK _ _ ?_
      clear hK K
      refine wpAnyIn_ready (rs := [4]) (by kernel_rfl) (by simp) ?_
      refine AllReadyIn.cons rfl (fun K hK => ?_) (AllReadyIn.nil)
      ·go_simp
       refine hK _ _ ?_
       clear hK K
       refine wpAnyIn_ready (rs := [5]) (by kernel_rfl) (by simp) ?_
       refine AllReadyIn.cons rfl (fun K hK => ?_) (AllReadyIn.nil)
       ·go_simp
        refine hK _ _ ?_
        clear hK K
        refine wpAnyIn_ready (rs := [6]) (by kernel_rfl) (by simp) ?_
        refine AllReadyIn.cons rfl (fun K hK => ?_) AllReadyIn.nil
        refine Eq.mpr (if_pos (by kernel_rfl)) ?_
        refine oper_append _ _ _ 73 rfl w.heap.size 27 i0 (.agg #[.int .i64 0, .float .f64 0, .float .f64 0]) 3 24 Tryd.underlying73 hi hz0 hz1 hz2 rfl (by decide) _ _ _ rfl (show World.ownsRow (World.drew (W.alloc _)) _ _ _ _ _ _ from hrow.alloc _) ⟨W.heap.size, 0, none⟩ 1 1 [V x.toNat 0, V x.toNat 1, V x.toNat 2] rfl rfl (news3 W _ _ _) (by simp [hVs]) (by unfold maxLen; omega) (by omega) (by simp; omega) ?_
        intro v' w1 hown' hgrow
        obtain ⟨g', cap', rfl⟩ := ownsRow_succ hown'
        obtain ⟨hv1, hv2, hr2, hk2, hb2⟩ := Boxed.appended (W := W.drew) hv (by decide) hrow hB.size (by omega) hown' hgrow
        have hc1 := hv1.cell
        have hf1 := hv1.frozen
        refine hK _ _ ?_
        clear hK K
        refine wpAnyIn_ready (rs := [7]) (by kernel_rfl) (by simp) ?_
        refine AllReadyIn.cons rfl (fun K hK => ?_) AllReadyIn.nil
        go_simp
        refine hK _ _ ?_
        clear hK K
        refine wpAnyIn_done (by kernel_rfl) ?_ _
        exact cells_next hrow hst hB hgrow hv1 hv2 hr2 hk2 hb2 (by omega)
   ·go_simp
    refine hK _ _ ?_
    clear hK K
    refine wpAnyIn_ready (rs := [0, 3]) (by kernel_rfl) (by simp) ?_
    refine AllReadyIn.cons rfl (fun K hK => ?_) (AllReadyIn.cons rfl (fun K hK => ?_) (AllReadyIn.nil))
    ·go_simp
     refine hK _ _ ?_
     clear hK K
     refine wpAnyIn_ready (rs := [3]) (by kernel_rfl) (by simp) ?_
     refine AllReadyIn.cons rfl (fun K hK => ?_) (AllReadyIn.nil)
     ·go_simp
      refine hK _ _ ?_
      clear hK K
      refine wpAnyIn_ready (rs := [4]) (by kernel_rfl) (by simp) ?_
      refine AllReadyIn.cons rfl (fun K hK => ?_) (AllReadyIn.nil)
      ·go_simp
       refine hK _ _ ?_
       clear hK K
       refine wpAnyIn_ready (rs := [5]) (by kernel_rfl) (by simp) ?_
       refine AllReadyIn.cons rfl (fun K hK => ?_) (AllReadyIn.nil)
       ·go_simp
        refine hK _ _ ?_
        clear hK K
        refine wpAnyIn_ready (rs := [6]) (by kernel_rfl) (by simp) ?_
        refine AllReadyIn.cons rfl (fun K hK => ?_) AllReadyIn.nil
        refine Eq.mpr (if_pos (by kernel_rfl)) ?_
        refine oper_append _ _ _ 73 rfl w.heap.size 27 i0 (.agg #[.int .i64 0, .float .f64 0, .float .f64 0]) 3 24 Tryd.underlying73 hi hz0 hz1 hz2 rfl (by decide) _ _ _ rfl (show World.ownsRow (World.drew (W.alloc _)) _ _ _ _ _ _ from hrow.alloc _) ⟨W.heap.size, 0, none⟩ 1 1 [V x.toNat 0, V x.toNat 1, V x.toNat 2] rfl rfl (news3 W _ _ _) (by simp [hVs]) (by unfold maxLen; omega) (by omega) (by simp; omega) ?_
        intro v' w1 hown' hgrow
        obtain ⟨g', cap', rfl⟩ := ownsRow_succ hown'
        obtain ⟨hv1, hv2, hr2, hk2, hb2⟩ := Boxed.appended (W := W.drew) hv (by decide) hrow hB.size (by omega) hown' hgrow
        have hc1 := hv1.cell
        have hf1 := hv1.frozen
        refine hK _ _ ?_
        clear hK K
        refine wpAnyIn_ready (rs := [7]) (by kernel_rfl) (by simp) ?_
        refine AllReadyIn.cons rfl (fun K hK => ?_) AllReadyIn.nil
        go_simp
        refine hK _ _ ?_
        clear hK K
        refine wpAnyIn_done (by kernel_rfl) ?_ _
        exact cells_next hrow hst hB hgrow hv1 hv2 hr2 hk2 hb2 (by omega)
    ·go_simp
     refine hK _ _ ?_
     clear hK K
     refine wpAnyIn_ready (rs := [0, 4]) (by kernel_rfl) (by simp) ?_
     refine AllReadyIn.cons rfl (fun K hK => ?_) (AllReadyIn.cons rfl (fun K hK => ?_) (AllReadyIn.nil))
     ·go_simp
      refine hK _ _ ?_
      clear hK K
      refine wpAnyIn_ready (rs := [4]) (by kernel_rfl) (by simp) ?_
      refine AllReadyIn.cons rfl (fun K hK => ?_) (AllReadyIn.nil)
      ·go_simp
       refine hK _ _ ?_
       clear hK K
       refine wpAnyIn_ready (rs := [5]) (by kernel_rfl) (by simp) ?_
       refine AllReadyIn.cons rfl (fun K hK => ?_) (AllReadyIn.nil)
       ·go_simp
        refine hK _ _ ?_
        clear hK K
        refine wpAnyIn_ready (rs := [6]) (by kernel_rfl) (by simp) ?_
        refine AllReadyIn.cons rfl (fun K hK => ?_) AllReadyIn.nil
        refine Eq.mpr (if_pos (by kernel_rfl)) ?_
        refine oper_append _ _ _ 73 rfl w.heap.size 27 i0 (.agg #[.int .i64 0, .float .f64 0, .float .f64 0]) 3 24 Tryd.underlying73 hi hz0 hz1 hz2 rfl (by decide) _ _ _ rfl (show World.ownsRow (World.drew (W.alloc _)) _ _ _ _ _ _ from hrow.alloc _) ⟨W.heap.size, 0, none⟩ 1 1 [V x.toNat 0, V x.toNat 1, V x.toNat 2] rfl rfl (news3 W _ _ _) (by simp [hVs]) (by unfold maxLen; omega) (by omega) (by simp; omega) ?_
        intro v' w1 hown' hgrow
        obtain ⟨g', cap', rfl⟩ := ownsRow_succ hown'
        obtain ⟨hv1, hv2, hr2, hk2, hb2⟩ := Boxed.appended (W := W.drew) hv (by decide) hrow hB.size (by omega) hown' hgrow
        have hc1 := hv1.cell
        have hf1 := hv1.frozen
        refine hK _ _ ?_
        clear hK K
        refine wpAnyIn_ready (rs := [7]) (by kernel_rfl) (by simp) ?_
        refine AllReadyIn.cons rfl (fun K hK => ?_) AllReadyIn.nil
        go_simp
        refine hK _ _ ?_
        clear hK K
        refine wpAnyIn_done (by kernel_rfl) ?_ _
        exact cells_next hrow hst hB hgrow hv1 hv2 hr2 hk2 hb2 (by omega)
     ·go_simp
      refine hK _ _ ?_
      clear hK K
      refine wpAnyIn_ready (rs := [0, 5]) (by kernel_rfl) (by simp) ?_
      refine AllReadyIn.cons rfl (fun K hK => ?_) (AllReadyIn.cons rfl (fun K hK => ?_) (AllReadyIn.nil))
      ·go_simp
       refine hK _ _ ?_
       clear hK K
       refine wpAnyIn_ready (rs := [5]) (by kernel_rfl) (by simp) ?_
       refine AllReadyIn.cons rfl (fun K hK => ?_) (AllReadyIn.nil)
       ·go_simp
        refine hK _ _ ?_
        clear hK K
        refine wpAnyIn_ready (rs := [6]) (by kernel_rfl) (by simp) ?_
        refine AllReadyIn.cons rfl (fun K hK => ?_) AllReadyIn.nil
        refine Eq.mpr (if_pos (by kernel_rfl)) ?_
        refine oper_append _ _ _ 73 rfl w.heap.size 27 i0 (.agg #[.int .i64 0, .float .f64 0, .float .f64 0]) 3 24 Tryd.underlying73 hi hz0 hz1 hz2 rfl (by decide) _ _ _ rfl (show World.ownsRow (World.drew (W.alloc _)) _ _ _ _ _ _ from hrow.alloc _) ⟨W.heap.size, 0, none⟩ 1 1 [V x.toNat 0, V x.toNat 1, V x.toNat 2] rfl rfl (news3 W _ _ _) (by simp [hVs]) (by unfold maxLen; omega) (by omega) (by simp; omega) ?_
        intro v' w1 hown' hgrow
        obtain ⟨g', cap', rfl⟩ := ownsRow_succ hown'
        obtain ⟨hv1, hv2, hr2, hk2, hb2⟩ := Boxed.appended (W := W.drew) hv (by decide) hrow hB.size (by omega) hown' hgrow
        have hc1 := hv1.cell
        have hf1 := hv1.frozen
        refine hK _ _ ?_
        clear hK K
        refine wpAnyIn_ready (rs := [7]) (by kernel_rfl) (by simp) ?_
        refine AllReadyIn.cons rfl (fun K hK => ?_) AllReadyIn.nil
        go_simp
        refine hK _ _ ?_
        clear hK K
        refine wpAnyIn_done (by kernel_rfl) ?_ _
        exact cells_next hrow hst hB hgrow hv1 hv2 hr2 hk2 hb2 (by omega)
      ·go_simp
       refine hK _ _ ?_
       clear hK K
       refine wpAnyIn_ready (rs := [0]) (by kernel_rfl) (by simp) ?_
       refine AllReadyIn.cons rfl (fun K hK => ?_) (AllReadyIn.nil)
       ·go_simp
        refine hK _ _ ?_
        clear hK K
        refine wpAnyIn_ready (rs := [6]) (by kernel_rfl) (by simp) ?_
        refine AllReadyIn.cons rfl (fun K hK => ?_) AllReadyIn.nil
        refine Eq.mpr (if_pos (by kernel_rfl)) ?_
        refine oper_append _ _ _ 73 rfl w.heap.size 27 i0 (.agg #[.int .i64 0, .float .f64 0, .float .f64 0]) 3 24 Tryd.underlying73 hi hz0 hz1 hz2 rfl (by decide) _ _ _ rfl (show World.ownsRow (World.drew (W.alloc _)) _ _ _ _ _ _ from hrow.alloc _) ⟨W.heap.size, 0, none⟩ 1 1 [V x.toNat 0, V x.toNat 1, V x.toNat 2] rfl rfl (news3 W _ _ _) (by simp [hVs]) (by unfold maxLen; omega) (by omega) (by simp; omega) ?_
        intro v' w1 hown' hgrow
        obtain ⟨g', cap', rfl⟩ := ownsRow_succ hown'
        obtain ⟨hv1, hv2, hr2, hk2, hb2⟩ := Boxed.appended (W := W.drew) hv (by decide) hrow hB.size (by omega) hown' hgrow
        have hc1 := hv1.cell
        have hf1 := hv1.frozen
        refine hK _ _ ?_
        clear hK K
        refine wpAnyIn_ready (rs := [7]) (by kernel_rfl) (by simp) ?_
        refine AllReadyIn.cons rfl (fun K hK => ?_) AllReadyIn.nil
        go_simp
        refine hK _ _ ?_
        clear hK K
        refine wpAnyIn_done (by kernel_rfl) ?_ _
        exact cells_next hrow hst hB hgrow hv1 hv2 hr2 hk2 hb2 (by omega)
  --END
 case done =>
  rintro D ys W hD rfl ⟨⟨v, hv, hrow⟩, _, hB⟩ hK
  have hc := hv.cell
  gi_wp2
  refine ⟨by simp, .inl ⟨_, _, rfl, run_takeDeferred hK, ?_⟩⟩
  exact ⟨_, results_tmp rfl _ _ _, v, rfl, ownsRow_putObj hrow _ hK rfl, hB.trans (belowK_b (w := w) (Nat.le_refl _) W D _ _ (by omega) hK rfl rfl)⟩
 case stop =>
  rintro D c pre W _ _ h _
  exact h.elim
end Go.Proofs.YtpmdgmnpkdoamabDoor.Odo
