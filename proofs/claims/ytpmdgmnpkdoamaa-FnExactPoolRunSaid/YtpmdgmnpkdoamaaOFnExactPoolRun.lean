/- Proved here: how a list of operations that came in is read. Condition: the value is of its type. -/
import Derived.Test.YtpmdgmnpkdoamaaDFnExactPoolRunx0
import Derived.Deep.Slices
import Derived.Deep.Fields
import Derived.ChangeSame
import Derived.Lib.SmallJoins
namespace Go.Proofs.Ytpmdgmnpkdoamaa.DFnExactPoolRun
open Go.RowKit Go.Proofs.YtpmdgmnpkdoamaaW.PrintWords Go.Proofs.YtpmdgmnpkdoamaaW.PrintLast Go.Proofs.YtpmdgmnpkdoamaaW.PrintMore
open Go.ChangeShapes Go.WideShapes Go.Deep
theorem list_of {α : Type} (P : Nat → α → Prop) : ∀ n, (∀ i, i < n → ∃ x, P i x) → ∃ xs : List α, xs.length = n ∧ ∀ i x, xs[i]? = some x → P i x
  | 0, _ => ⟨[], rfl, by simp⟩
  | n + 1, h => by
    obtain ⟨xs, hl, hx⟩ := list_of P n (fun i hi => h i (by omega))
    obtain ⟨y, hy⟩ := h n (by omega)
    refine ⟨xs ++ [y], by simp [hl], fun i x hi => ?_⟩
    by_cases c : i < n
    · rw [List.getElem?_append_left (by omega)] at hi
      exact hx i x hi
    · obtain rfl : i = n := by
        have := (List.getElem?_eq_some_iff.1 hi).1
        simp [hl] at this
        omega
      rw [List.getElem?_append_right (by omega), hl] at hi
      simp at hi
      subst hi
      exact hy
section
variable {H : Type} {enc : TypeId × Value → H} {w : World} {base : Nat} {spare : Nat → Bool} {held : Bool}
theorem one_of {t : TypeId} {fuel : Nat} {cs : List Value} {i n : Nat} {ys : List (DataW H × List MemPlace)} (hs : Try.prog.cellsOf t = 1) (hi : i < n) (hn : cs.length = n) (hy : ys.length = n)
    (h : DataW.trod enc Try.prog w base spare held fuel t ((cs.drop i).take (Try.prog.cellsOf t)) = ys[i]?) : ∃ v y, cs[i]? = some v ∧ DataW.trod enc Try.prog w base spare held fuel t [v] = some y := by
  rw [hs, List.drop_eq_getElem_cons (by omega), List.take_succ_cons, List.take_zero, List.getElem?_eq_getElem (by omega)] at h
  exact ⟨_, _, List.getElem?_eq_getElem (by omega), h⟩
theorem c2 : Try.prog.cellsOf 2 = 1 := by kernel_rfl
theorem c71 : Try.prog.cellsOf 71 = 1 := by kernel_rfl
theorem c131 : Try.prog.cellsOf 131 = 3 := by kernel_rfl
set_option maxRecDepth 100000 in
set_option maxHeartbeats 4000000 in
theorem open_ops {b0 : Nat} {v : Value} {d : DataW H} {p : List MemPlace} (hv : Value.okWide Try.prog w .any b0 71 v) (h : DataW.Trod enc Try.prog w base spare held 71 v d p) :
    ∃ (A : Option Addr) (cap : Nat) (xs : List S131), v = .slice A xs.length cap ∧ xs.length ≤ cap ∧ xs.length ≤ 9223372036854775807 ∧ Kd.C k131 w A xs.length xs := by
  obtain ⟨a0, n0, c0, rfl⟩ := okWide_slice Try.underlying71 hv
  obtain ⟨fuel, hf⟩ := h
  have hf' : DataW.trod enc Try.prog w base spare held fuel 71 [.slice a0 n0 c0] = some (d, p) := by simpa [Value.cells] using hf
  rcases open_slice Try.underlying71 hf' with ⟨hcs, _⟩ | ⟨a, len, cap, m, n, D, Pl, hcs, _, hl, hm, hmm, _, hi⟩
  · simp only [List.cons.injEq, Value.slice.injEq, and_true] at hcs
    obtain ⟨rfl, rfl, rfl⟩ := hcs
    exact ⟨none, 0, [], rfl, by simp, by simp, ⟨rfl, by simp, fun h => by simp at h⟩⟩
  · simp only [List.cons.injEq, Value.slice.injEq, and_true] at hcs
    obtain ⟨rfl, rfl, rfl⟩ := hcs
    have hlm : n0 ≤ m := by rw [hmm]; split <;> omega
    have hmx : c0 ≤ 9223372036854775807 := hm
    have e3 := c131
    obtain ⟨xs, hxl, hx⟩ := list_of (fun i (y : S131) => w.cell? (a.add (i * 3 + 0)) = some (.int .i64 y.f0) ∧ w.cell? (a.add (i * 3 + 1)) = some (.int .i64 y.f1) ∧ w.cell? (a.add (i * 3 + 2)) = some (.int .i64 y.f2)) n0 (fun i hi' => by
      obtain ⟨cs, hc, ht⟩ := hi i (by omega)
      rw [e3] at hc
      obtain ⟨_, hcl, hat⟩ := World.cells?_some hc
      obtain ⟨ys, n', _, _, _, hyl, hf⟩ := DataW.trod_struct Try.underlying131 ht
      obtain ⟨v0, y0, g0, t0⟩ := one_of (i := 0) c2 (by omega) hcl hyl (hf 0 _ rfl)
      obtain ⟨v1, y1, g1, t1⟩ := one_of (i := 1) c2 (by omega) hcl hyl (hf 1 _ rfl)
      obtain ⟨v2, y2, g2, t2⟩ := one_of (i := 2) c2 (by omega) hcl hyl (hf 2 _ rfl)
      obtain ⟨n0, e0, _, _⟩ := DataW.trod_int Try.underlying2 t0
      obtain ⟨n1, e1, _, _⟩ := DataW.trod_int Try.underlying2 t1
      obtain ⟨n2, e2, _, _⟩ := DataW.trod_int Try.underlying2 t2
      obtain rfl : v0 = .int .i64 n0 := by simpa using e0
      obtain rfl : v1 = .int .i64 n1 := by simpa using e1
      obtain rfl : v2 = .int .i64 n2 := by simpa using e2
      refine ⟨⟨n0, n1, n2⟩, ?_, ?_, ?_⟩
      · rw [← Go.Deep.add_add, hat 0 (by omega), g0]
      · rw [← Go.Deep.add_add, hat 1 (by omega), g1]
      · rw [← Go.Deep.add_add, hat 2 (by omega), g2])
    subst hxl
    refine ⟨some a, c0, xs, rfl, by omega, by omega, ⟨rfl, by omega, fun _ => ⟨a, rfl, fun j p hp => ⟨_, rfl, k131_mk w p, fun i u hu => ?_⟩⟩⟩⟩
    obtain ⟨q0, q1, q2⟩ := hx j p hp
    match i, hu with
    | 0, hu => simp at hu; subst hu; exact q0
    | 1, hu => simp at hu; subst hu; exact q1
    | 2, hu => simp at hu; subst hu; exact q2
    | i + 3, hu => simp at hu
end
end Go.Proofs.Ytpmdgmnpkdoamaa.DFnExactPoolRun
