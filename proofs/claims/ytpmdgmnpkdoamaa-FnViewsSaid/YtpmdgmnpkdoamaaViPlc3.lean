/- Proved here: what impl.offsets answers: the places of a view's elements, in an own list. Conditions: as in the Places text, or the count of the shape is 0. -/
import Derived.Test.YtpmdgmnpkdoamaaViPlc2
import Derived.OwnWalk
namespace Go.Proofs.Ytpmdgmnpkdoamaa.Odo
open Go.RowKit Go.Shelf Rf Go.Proofs.YtpmdgmnpkdoamaaW.PrintWords Go.Proofs.YtpmdgmnpkdoamaaW.PrintLast Go.Proofs.YtpmdgmnpkdoamaaW.PrintMore
attribute [local go_sem] Oper.semAt_some wide_fn
theorem inf2 : (Try.prog.info? 2).map (fun i => (i.zero, i.size, i.bytes)) = some (some (.int .i64 0), 1, 8) := by kernel_rfl
theorem holdsRow_T {β : Type} (T m n₀ B : Nat) (t e : TypeId) (size : Nat) (k : β → Nat) (f : β → List Value) (ht : t ≠ T) (he : e ≠ T) : OwnT T m (fun s W => ∃ v, Boxed W B t v ∧ W.ownsRow n₀ e size v (k s) (f s)) := by
 rintro s X Y row ⟨v, hv, hr⟩ hg hrow
 refine ⟨v, hv.kept hg (fun e' => ?_), hr.kept hg ?_⟩
 ·obtain ⟨_, o, ho, hc⟩ := hrow B e'.symm
  rw [show X.heap[B]? = _ from hv] at ho; cases ho
  rcases hc with hc | ⟨cs, hc⟩
  ·cases hc
  ·cases hc; exact ht rfl
 ·rcases hr.2 with ⟨rfl, _⟩ | ⟨g, cap, cur, rfl, _, hgb, _⟩
  ·exact .inl rfl
  ·refine .inr fun e' => ?_
   obtain ⟨_, o, ho, hc⟩ := hrow g (by simpa [Value.ownBlock] using e'.symm)
   rw [hgb] at ho; cases ho
   rcases hc with hc | ⟨cs, hc⟩
   ·cases hc
   ·cases hc; exact he rfl
theorem below_T {β : Type} {T m n₀ : Nat} {w : World} (h1 : n₀ ≤ m) (h2 : n₀ ≤ w.heap.size) : OwnT T m (fun (_ : β) W => Below n₀ w W) := fun _ _ _ _ h hg hr =>
 pw_below_grown h _ (Nat.le_trans h2 h.size) hg (fun k e => Nat.le_trans h1 (hr k e).1)
theorem ownT_and {β : Type} {T m : Nat} {I J : β → World → Prop} (h : OwnT T m I) (k : OwnT T m J) : OwnT T m (fun s W => I s W ∧ J s W) := fun s W W' row a b c => ⟨h s W W' row a.1 b c, k s W W' row a.2 b c⟩
set_option maxHeartbeats 8000000 in
set_option maxRecDepth 100000 in
theorem offsets_in (n : Nat) (hn : 4 ≤ n) (A0 A1 : Option Addr) (c0 c1 : Nat) (l0 l1 : List Int) (o c : Int) (w : World)
  (hr0 : Kd.C (Kd.int .i64) w A0 l0.length l0) (hr1 : Kd.C (Kd.int .i64) w A1 l1.length l1) (hcnt : Cnt A0 c0 l0 c) (hgood : Good l0 l1 o c) (hlen : (placesOf l0 l1 o c).length ≤ 4096) :
  CallsIn Fence.wide n Try.prog 91 #[.agg #[.slice A0 l0.length c0, .slice A1 l1.length c1, .int .i64 o]] w fun e w' => ∃ v0_ : Value, e = .returned (v0_) ∧ Kd.R (Kd.int .i64) 2 w' w.heap.size (fun _ => True) v0_ (placesOf l0 l1 o c) ∧ Below w.heap.size w w' := by
 have h1 : 1 ≤ n := by omega
 obtain ⟨xs, hxs⟩ : ∃ xs, xs = placesOf l0 l1 o c := ⟨_, rfl⟩
 have R := qS.mk (And.intro (And.intro hr0 hr1) (And.intro hcnt (And.intro hgood (And.intro hlen hxs))))
 rw [← hxs]
 clear hr0 hr1 hcnt hgood hlen hxs
 refine callsIn_of_wp_marks Try.func91 rfl trivial ?_ rfl
 simp only [Try.ntmps91, List.size_toArray, List.length_cons, List.length_nil, Nat.reduceAdd, Nat.reduceSub, Array.replicate_succ, Array.replicate_zero, List.push_toArray, List.append_toArray, List.nil_append, List.cons_append]
 gi_wp2_with (gi_at_call 90; refine (places_calls (n - 1) _ _ _ _).mono ?_; rintro e w' ⟨rfl, rfl⟩)
 obtain ⟨i0, hi, hz0, hz1, hz2⟩ := info_parts inf2
 obtain ⟨wl, hwl⟩ : ∃ wl, wl = ((((w.alloc (Obj.cells #[Value.slice A0 l0.length c0, Value.slice A1 l1.length c1, Value.int IntKind.i64 o] 32)).alloc (Obj.cells #[] 2)).alloc (Obj.cells #[Value.slice (some { block := w.heap.size + 1, off := 0 }) 0 0] 27)).alloc
   (Obj.cells #[Value.slice A0 l0.length c0, Value.slice A1 l1.length c1, Value.int IntKind.i64 o] 32)) := ⟨_, rfl⟩
 have sz : wl.heap.size = w.heap.size + 4 := by rw [hwl]; simp
 have hB0 : Below w.heap.size w wl := by
  rw [hwl]; exact ((((Below.refl _ w).alloc (Nat.le_refl _) _).alloc (by simp) _).alloc (by simp; omega) _).alloc (by simp; omega) _
 obtain ⟨hb1, hb2, hb3⟩ : wl.heap[w.heap.size + 1]? = some (.cells #[] 2 (0, 0)) ∧ wl.heap[w.heap.size + 1 + 1]? = some (.cells #[Value.slice (some { block := w.heap.size + 1, off := 0 }) 0 0] 27 (0, 0)) ∧
   wl.heap[w.heap.size + 1 + 1 + 1]? = some (.cells #[Value.slice A0 l0.length c0, Value.slice A1 l1.length c1, Value.int IntKind.i64 o] 32 (0, 0)) := by
  have s1 := blk_new (w.alloc (Obj.cells #[Value.slice A0 l0.length c0, Value.slice A1 l1.length c1, Value.int IntKind.i64 o] 32)) (.cells #[] 2)
  have s2 := blk_new ((w.alloc (Obj.cells #[Value.slice A0 l0.length c0, Value.slice A1 l1.length c1, Value.int IntKind.i64 o] 32)).alloc (.cells #[] 2)) (.cells #[Value.slice (some { block := w.heap.size + 1, off := 0 }) 0 0] 27)
  have s3 := blk_new (((w.alloc (Obj.cells #[Value.slice A0 l0.length c0, Value.slice A1 l1.length c1, Value.int IntKind.i64 o] 32)).alloc (.cells #[] 2)).alloc (.cells #[Value.slice (some { block := w.heap.size + 1, off := 0 }) 0 0] 27)) (.cells #[Value.slice A0 l0.length c0, Value.slice A1 l1.length c1, Value.int IntKind.i64 o] 32)
  simp only [World.size_alloc] at s1 s2 s3
  rw [hwl]
  exact ⟨qG (qG s1 _) _, qG s2 _, s3⟩
 have hR : wl.ownsRow w.heap.size 2 1 (.slice (some ⟨w.heap.size + 1, 0, none⟩) 0 0) 0 [] := ⟨by simp, .inr ⟨w.heap.size + 1, 0, #[], rfl, by omega, hb1, Nat.le_refl _, by simp [maxLen], by simp, by simp⟩⟩
 rw [← hwl]
 refine rangeFunc_T (T := 137) rfl h1 (gf := 114) (lb := #[.pointer (some ⟨w.heap.size + 1 + 1 + 1, 0, none⟩)]) rfl trivial (enters_of Try.func114 (by kernel_rfl) rfl)
  (places_seq (n - 1) (by omega) (w.heap.size + 1 + 1 + 1) A0 A1 c0 c1 l0 l1 o c wl (by omega) hb3 (Kd.qW R.out.1.1 hB0) (Kd.qW R.out.1.2 hB0) R.out.2.1 R.out.2.2.1 xs R.out.2.2.2.2) kpT_t (fun W l o o' _ a b _ => kpT_obj W l o o' a b) (Below.refl _ _) (fun _ => rfl)
  (fun pre W => (∃ v, Boxed W (w.heap.size + 1 + 1) 27 v ∧ W.ownsRow w.heap.size 2 1 v pre.length (encs (Value.int .i64) pre)) ∧ Below w.heap.size w W)
  (fun _ _ _ => False)
  (ownT_and (holdsRow_T 137 wl.heap.size w.heap.size (w.heap.size + 1 + 1) 27 2 1 _ _ (by decide) (by decide)) (below_T (by omega) (Nat.le_refl _)))
  (fun _ _ _ _ _ hs _ _ => hs)
  ⟨⟨_, hb2, hR⟩, hB0⟩
  (fun x => { tmps := #[.agg #[.slice A0 l0.length c0, .slice A1 l1.length c1, .int .i64 o], .pointer (some ⟨w.heap.size, 0, none⟩), .slice none 0 0, .pointer (some ⟨w.heap.size + 1 + 1, 0, none⟩), .int .i64 x, .slice (some ⟨w.heap.size + 1, 0, none⟩) 0 0,
   .agg #[.slice A0 l0.length c0, .slice A1 l1.length c1, .int .i64 o], .func (.func 114) #[] #[.pointer (some ⟨w.heap.size + 1 + 1 + 1, 0, none⟩)], .int .i64 x, undef, undef, undef, undef, undef], defers := [] }) ?assign ?body ?done ?stop
 case assign =>
  intro l x W K hK
  gi_wp2
  exact hK
 case body =>
  rintro l pre x W ⟨⟨v, hv, hrow⟩, hB⟩ hpx
  have hlt : pre.length < xs.length := by have := hpx.length_le; simp at this; omega
  clear hpx
  have hc := hv.cell
  have hx4 : xs.length ≤ 4096 := by rw [R.out.2.2.2.2]; exact R.out.2.2.2.1
  have hsz : W.heap.size ≥ w.heap.size := hB.size
  clear hwl hb1 hb2 hb3 hR sz hB0
  gi_wp2_with (gi_at_builtin; go_loud (refine wpListIn_append_own _ rfl _ _ 27 rfl w.heap.size 2 i0 (.int .i64 0) 1 8 Try.underlying27 hi hz0 hz1 hz2 rfl (by decide) _ _ _ rfl (hrow.alloc _) ⟨W.heap.size, 0, none⟩ 1 1 [.int .i64 x] rfl rfl (cell_one_new _ _ _) (by simp [Value.oneCell']) (by unfold maxLen; omega) (by omega) (by simp; omega) ?_); intro v' w1 hown' hgrow _; obtain ⟨g', cap', rfl⟩ := ownsRow_succ hown'; obtain ⟨hv1, hv2, hr2, hk2, hb2⟩ := hv.appended (by decide) hrow hB.size (by omega) hown' hgrow; have hc1 := hv1.cell; have hf1 := hv1.frozen)
  have k1 : KpT W (W.alloc (.cells #[.int .i64 x] 2)) := kpT_grown (World.grownBy_alloc W _ none) (fun r cs e => by cases e)
  have k2 := kpT_grown hgrow (fun r cs e h => by
   obtain ⟨cells, hcl⟩ := own_typed (hrow.alloc (.cells #[.int .i64 x] 2)) r e
   rw [hcl] at h
   cases h)
  have k3 := kpT_grown (grownBy_setCell' w1 (w.heap.size + 1 + 1) (.slice (some ⟨g', 0, none⟩) (pre.length + 1) cap')) (fun r cs e h => by
   cases e
   rw [show w1.heap[w.heap.size + 1 + 1]? = _ from hv1] at h
   cases h)
  refine ⟨hk2.from _, kpT_t k1 (kpT_t k2 k3), ⟨_, hv2, ?_⟩, hB.trans hb2⟩
  rw [encs_append]
  simpa [encs] using hr2
 case done =>
  rintro D ys W hD rfl ⟨⟨v, hv, hrow⟩, hB⟩ hK
  have hc := hv.cell
  gi_wp2
  refine ⟨by simp, .inl ⟨_, _, rfl, run_takeDeferred hK, ?_⟩⟩
  exact ⟨_, results_tmp rfl _ _ _, v, rfl, Kd.R_of_own (ownsRow_putObj hrow _ hK rfl) (fun _ _ => trivial), hB.trans (belowK_b (w := w) (Nat.le_refl _) W D _ _ (by omega) hK rfl rfl)⟩
 case stop =>
  rintro D c pre W _ _ h _
  exact h.elim
theorem flat_len {α : Type} (f : Nat → List α) (c : Int) (h : ∀ i, ((f i).length : Int) = c) : ∀ m : Nat, (((List.range m).flatMap f).length : Int) = (m : Int) * c
 | 0 => by simp
 | m + 1 => by
  rw [List.range_succ, List.flatMap_append, List.length_append, Int.natCast_add, flat_len f c h m]
  simp only [List.flatMap_cons, List.flatMap_nil, List.append_nil, h, Int.natCast_add, Int.natCast_one, Int.add_mul, Int.one_mul]
theorem places_len : ∀ (l0 l1 : List Int) (o : Int), l1.length = l0.length → (∀ x ∈ l0, 0 ≤ x) → ((places l0 l1 o).length : Int) = pr l0
 | [], l1, o, _, _ => by cases l1 <;> simp [places, pr]
 | _ :: _, [], _, h, _ => by simp at h
 | n :: l0, s :: l1, o, h, hp => by
  have n0 : 0 ≤ n := hp n (by simp)
  simp only [places, pr]
  rw [flat_len _ (pr l0) (fun i => places_len l0 l1 _ (by simpa using h) (fun x hx => hp x (by simp [hx])))]
  rw [Int.toNat_of_nonneg n0]
theorem placesOf_len {l0 l1 : List Int} {o c : Int} (h : Good l0 l1 o c) : (placesOf l0 l1 o c).length ≤ 4096 := by
 unfold placesOf
 by_cases hc : c = 0
 ·rw [if_pos hc]; simp
 ·rw [if_neg hc]
  obtain ⟨h1, h2, h3⟩ := h
  obtain ⟨h4, h5, h6, _⟩ := h3 hc
  have := places_len l0 l1 o h1 (fun x hx => by have := h4 x hx; omega)
  omega
theorem offsets_calls (A0 A1 : Option Addr) (c0 c1 : Nat) (l0 l1 : List Int) (o c : Int) (w : World)
  (hr0 : Kd.C (Kd.int .i64) w A0 l0.length l0) (hr1 : Kd.C (Kd.int .i64) w A1 l1.length l1) (hcnt : Cnt A0 c0 l0 c) (hgood : Good l0 l1 o c) :
  Calls Try.prog 91 #[.agg #[.slice A0 l0.length c0, .slice A1 l1.length c1, .int .i64 o]] w fun e w' => ∃ v0_ : Value, e = .returned (v0_) ∧ Kd.R (Kd.int .i64) 2 w' w.heap.size (fun _ => True) v0_ (placesOf l0 l1 o c) ∧ Below w.heap.size w w' :=
 callsIn_wide.1 (offsets_in 4 (Nat.le_refl _) A0 A1 c0 c1 l0 l1 o c w hr0 hr1 hcnt hgood (placesOf_len hgood))
end Go.Proofs.Ytpmdgmnpkdoamaa.Odo
