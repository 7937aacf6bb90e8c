/- Proved here: what impl.Overlap answers where a view is not valid: false. Conditions: what impl.ValidView answers is a premise. -/
import Derived.Test.YtpmdgmnpkdoamaaPlc5
namespace Go.Proofs.Ytpmdgmnpkdoamaa.Odo
open Go.RowKit Go.Shelf Rf Go.Proofs.YtpmdgmnpkdoamaaW.PrintWords Go.Proofs.YtpmdgmnpkdoamaaW.PrintLast Go.Proofs.YtpmdgmnpkdoamaaW.PrintMore
attribute [local go_sem] Oper.semAt_some wide_fn
set_option maxHeartbeats 8000000 in
set_option maxRecDepth 100000 in
theorem overlap_bad (n : Nat) (hn : 4 ≤ n) (A0 A1 E0 E1 : Option Addr) (c0 c1 d0 d1 : Nat) (l0 l1 m0 m1 : List Int) (o u : Int) (w : World)
    (hr0 : Kd.C (Kd.int .i64) w A0 l0.length l0) (hr1 : Kd.C (Kd.int .i64) w A1 l1.length l1)
    (hva : Vld A0 A1 c0 c1 l0 l1 o false) :
    CallsIn Fence.wide n Try.prog 44 #[.agg #[.slice A0 l0.length c0, .slice A1 l1.length c1, .int .i64 o], .agg #[.slice E0 m0.length d0, .slice E1 m1.length d1, .int .i64 u]] w fun e w' =>
      e = .returned (.bool false) ∧ Below w.heap.size w w' := by
  have h1 : 1 ≤ n := by omega
  refine callsIn_of_wp_marks Try.func44 rfl trivial ?_ rfl
  simp only [Try.ntmps44, List.size_toArray, List.length_cons, List.length_nil, Nat.reduceAdd, Nat.reduceSub, Array.replicate_succ, Array.replicate_zero, List.push_toArray, List.append_toArray, List.nil_append, List.cons_append]
  gi_wp2_with (gi_at_call 26; fail)
  obtain ⟨w0, hw0⟩ : ∃ w0, w0 = ((w.alloc (Obj.cells #[Value.slice A0 l0.length c0, Value.slice A1 l1.length c1, Value.int IntKind.i64 o] 32)).alloc (Obj.cells #[Value.slice E0 m0.length d0, Value.slice E1 m1.length d1, Value.int IntKind.i64 u] 32)).alloc (Obj.cells #[Value.bool false] 4) := ⟨_, rfl⟩
  have sz0 : w0.heap.size = w.heap.size + 3 := by rw [hw0]; simp
  have hB0 : Below w.heap.size w w0 := by
    rw [hw0]; exact (((Below.refl _ w).alloc (Nat.le_refl _) _).alloc (by simp) _).alloc (by simp; omega) _
  have hc0 : w0.heap[w.heap.size + 1 + 1]? = some (.cells #[Value.bool false] 4 (0, 0)) := by
    have s2 := blk_new ((w.alloc (Obj.cells #[Value.slice A0 l0.length c0, Value.slice A1 l1.length c1, Value.int IntKind.i64 o] 32)).alloc (Obj.cells #[Value.slice E0 m0.length d0, Value.slice E1 m1.length d1, Value.int IntKind.i64 u] 32)) (Obj.cells #[Value.bool false] 4)
    simp only [World.size_alloc] at s2
    rw [hw0]
    exact s2
  rw [← hw0]
  clear hw0
  refine (callsIn_wide.2 (hva w0 (Kd.C_below hr0 hB0) (Kd.C_below hr1 hB0))).mono ?_
  rintro e w1 ⟨rfl, hb⟩
  have hc1 := (hb.block (w.heap.size + 1 + 1) (by omega)).trans hc0
  have hB1 : Below w.heap.size w w1 := hB0.trans (hb.mono (by omega))
  have hcr : w1.cell? ⟨w.heap.size + 1 + 1, 0, none⟩ = some (.bool false) := (blk_cell hc1 0).trans rfl
  have hfr := blk_frozen hc1 0
  gi_wp2
  have hset := blk_put (cs' := #[.bool false]) hc1 0 (.bool false) rfl
  refine ⟨_, results_cell rfl Try.underlying4 _ _ ⟨w.heap.size + 1 + 1, 0, none⟩ false rfl ?_, rfl, ?_⟩
  · exact (blk_cell hset 0).trans rfl
  · exact hB1.setCell (by simp; omega) _
set_option maxHeartbeats 8000000 in
set_option maxRecDepth 100000 in
theorem overlap_bad2 (n : Nat) (hn : 4 ≤ n) (A0 A1 E0 E1 : Option Addr) (c0 c1 d0 d1 : Nat) (l0 l1 m0 m1 : List Int) (o u : Int) (w : World)
    (hr0 : Kd.C (Kd.int .i64) w A0 l0.length l0) (hr1 : Kd.C (Kd.int .i64) w A1 l1.length l1)
    (hs0 : Kd.C (Kd.int .i64) w E0 m0.length m0) (hs1 : Kd.C (Kd.int .i64) w E1 m1.length m1) (hva : Vld A0 A1 c0 c1 l0 l1 o true) (hvb : Vld E0 E1 d0 d1 m0 m1 u false) :
    CallsIn Fence.wide n Try.prog 44 #[.agg #[.slice A0 l0.length c0, .slice A1 l1.length c1, .int .i64 o], .agg #[.slice E0 m0.length d0, .slice E1 m1.length d1, .int .i64 u]] w fun e w' =>
      e = .returned (.bool false) ∧ Below w.heap.size w w' := by
  have h1 : 1 ≤ n := by omega
  refine callsIn_of_wp_marks Try.func44 rfl trivial ?_ rfl
  simp only [Try.ntmps44, List.size_toArray, List.length_cons, List.length_nil, Nat.reduceAdd, Nat.reduceSub, Array.replicate_succ, Array.replicate_zero, List.push_toArray, List.append_toArray, List.nil_append, List.cons_append]
  gi_wp2_with (gi_at_call 26; fail)
  obtain ⟨w0, hw0⟩ : ∃ w0, w0 = ((w.alloc (Obj.cells #[Value.slice A0 l0.length c0, Value.slice A1 l1.length c1, Value.int IntKind.i64 o] 32)).alloc (Obj.cells #[Value.slice E0 m0.length d0, Value.slice E1 m1.length d1, Value.int IntKind.i64 u] 32)).alloc (Obj.cells #[Value.bool false] 4) := ⟨_, rfl⟩
  have sz0 : w0.heap.size = w.heap.size + 3 := by rw [hw0]; simp
  have hB0 : Below w.heap.size w w0 := by
    rw [hw0]; exact (((Below.refl _ w).alloc (Nat.le_refl _) _).alloc (by simp) _).alloc (by simp; omega) _
  have hb0 : w0.heap[w.heap.size + 1]? = some (.cells #[Value.slice E0 m0.length d0, Value.slice E1 m1.length d1, Value.int IntKind.i64 u] 32 (0, 0)) := by
    have s1 := blk_new (w.alloc (Obj.cells #[Value.slice A0 l0.length c0, Value.slice A1 l1.length c1, Value.int IntKind.i64 o] 32)) (Obj.cells #[Value.slice E0 m0.length d0, Value.slice E1 m1.length d1, Value.int IntKind.i64 u] 32)
    simp only [World.size_alloc] at s1
    rw [hw0]
    exact blk_alloc s1 _
  have hc0 : w0.heap[w.heap.size + 1 + 1]? = some (.cells #[Value.bool false] 4 (0, 0)) := by
    have s2 := blk_new ((w.alloc (Obj.cells #[Value.slice A0 l0.length c0, Value.slice A1 l1.length c1, Value.int IntKind.i64 o] 32)).alloc (Obj.cells #[Value.slice E0 m0.length d0, Value.slice E1 m1.length d1, Value.int IntKind.i64 u] 32)) (Obj.cells #[Value.bool false] 4)
    simp only [World.size_alloc] at s2
    rw [hw0]
    exact s2
  rw [← hw0]
  clear hw0
  refine (callsIn_wide.2 (hva w0 (Kd.C_below hr0 hB0) (Kd.C_below hr1 hB0))).mono ?_
  rintro e w1 ⟨rfl, hb⟩
  have hc1 := (hb.block (w.heap.size + 1 + 1) (by omega)).trans hc0
  have hB1 : Below w.heap.size w w1 := hB0.trans (hb.mono (by omega))
  have hb1 := (hb.block (w.heap.size + 1) (by omega)).trans hb0
  have sz1 : w.heap.size + 3 ≤ w1.heap.size := by have := hb.size; omega
  have q0 : w1.cell? ⟨w.heap.size + 1, 0, none⟩ = some (Value.slice E0 m0.length d0) := (blk_cell hb1 0).trans rfl
  have q1 : w1.cell? ⟨w.heap.size + 1, 1, none⟩ = some (Value.slice E1 m1.length d1) := (blk_cell hb1 1).trans rfl
  have q2 : w1.cell? ⟨w.heap.size + 1, 2, none⟩ = some (Value.int IntKind.i64 u) := (blk_cell hb1 2).trans rfl
  clear hb hB0 hc0 hb0 sz0
  gi_wp2_with (gi_at_call 26; fail)
  refine (callsIn_wide.2 (hvb w1 (Kd.C_below hs0 hB1) (Kd.C_below hs1 hB1))).mono ?_
  rintro e w2 ⟨rfl, hb⟩
  have hc2 := (hb.block (w.heap.size + 1 + 1) (by omega)).trans hc1
  have hB2 : Below w.heap.size w w2 := hB1.trans (hb.mono (by omega))
  have hcr : w2.cell? ⟨w.heap.size + 1 + 1, 0, none⟩ = some (.bool false) := (blk_cell hc2 0).trans rfl
  have hfr := blk_frozen hc2 0
  gi_wp2
  have hset := blk_put (cs' := #[.bool false]) hc2 0 (.bool false) rfl
  refine ⟨_, results_cell rfl Try.underlying4 _ _ ⟨w.heap.size + 1 + 1, 0, none⟩ false rfl ?_, rfl, ?_⟩
  · exact (blk_cell hset 0).trans rfl
  · exact hB2.setCell (by simp; omega) _
end Go.Proofs.Ytpmdgmnpkdoamaa.Odo
