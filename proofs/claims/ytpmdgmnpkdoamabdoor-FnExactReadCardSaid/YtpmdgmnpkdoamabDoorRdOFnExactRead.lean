/- Proved here: how a heap that came in is read: its stores and their cells as lists. Condition: the value is of its type. -/
import Derived.Test.YtpmdgmnpkdoamabDoorRdOpen
import Derived.Test.YtpmdgmnpkdoamabDoorRdDFnExactReadx0
import Derived.Deep.Slices
import Derived.Deep.Fields
import Derived.ChangeSame
import Derived.Lib.SmallJoins
namespace Go.Proofs.YtpmdgmnpkdoamabDoor.DFnExactRead
open Go.RowKit Go.Proofs.YtpmdgmnpkdoamabDoorW.PrintWords Go.Proofs.YtpmdgmnpkdoamabDoorW.PrintLast Go.Proofs.YtpmdgmnpkdoamabDoorW.PrintMore
open Go.ChangeShapes Go.WideShapes Go.Deep
theorem list_of {α : Type} (P : Nat → α → Prop) : ∀ n, (∀ i, i < n → ∃ x, P i x) → ∃ xs : List α, xs.length = n ∧ ∀ i x, xs[i]? = some x → P i x
 | 0, _ => ⟨[], rfl, by simp⟩
 | n + 1, h => by
  obtain ⟨xs, hl, hx⟩ := list_of P n (fun i hi => h i (by omega))
  obtain ⟨y, hy⟩ := h n (by omega)
  refine ⟨xs ++ [y], by simp [hl], fun i x hi => ?_⟩
  by_cases c : i < n
  ·rw [List.getElem?_append_left (by omega)] at hi
   exact hx i x hi
  ·obtain rfl : i = n := by
    have := (List.getElem?_eq_some_iff.1 hi).1
    simp [hl] at this
    omega
   rw [List.getElem?_append_right (by omega), hl] at hi
   simp at hi
   subst hi
   exact hy
section
variable {H : Type} {enc : TypeId × Value → H} {w : World} {base : Nat} {spare : Nat → Bool} {held : Bool}
theorem one_of {t : TypeId} {fuel : Nat} {cs : List Value} {i n : Nat} {ys : List (DataW H × List MemPlace)} (hs : Tryd.prog.cellsOf t = 1) (hi : i < n) (hn : cs.length = n) (hy : ys.length = n)
  (h : DataW.trod enc Tryd.prog w base spare held fuel t ((cs.drop i).take (Tryd.prog.cellsOf t)) = ys[i]?) : ∃ v y, cs[i]? = some v ∧ DataW.trod enc Tryd.prog w base spare held fuel t [v] = some y := by
 rw [hs, List.drop_eq_getElem_cons (by omega), List.take_succ_cons, List.take_zero, List.getElem?_eq_getElem (by omega)] at h
 exact ⟨_, _, List.getElem?_eq_getElem (by omega), h⟩
theorem c2 : Tryd.prog.cellsOf 2 = 1 := by kernel_rfl
theorem c23 : Tryd.prog.cellsOf 23 = 1 := by kernel_rfl
theorem c164 : Tryd.prog.cellsOf 164 = 1 := by kernel_rfl
theorem c25 : Tryd.prog.cellsOf 25 = 3 := by kernel_rfl
theorem c166 : Tryd.prog.cellsOf 166 = 2 := by kernel_rfl
theorem c34 : Tryd.prog.cellsOf 34 = 1 := by kernel_rfl
theorem c32 : Tryd.prog.cellsOf 32 = 1 := by kernel_rfl
theorem open_cells {fuel : Nat} {c : Value} {x : DataW H × List MemPlace} (h : DataW.trod enc Tryd.prog w base spare held fuel 164 [c] = some x) :
  ∃ (A : Option Addr) (cap : Nat) (xs : List S25), c = .slice A xs.length cap ∧ xs.length ≤ cap ∧ xs.length ≤ 9223372036854775807 ∧ Kd.C k25 w A xs.length xs ∧ ∀ y ∈ xs, y.f1.toNat < 18446744073709551616 ∧ y.f2.toNat < 18446744073709551616 := by
 rcases open_slice Tryd.underlying164 h with ⟨hcs, _⟩ | ⟨a, len, cap, m, n, D, Pl, hcs, _, hl, hm, hmm, _, hi⟩
 ·obtain rfl : c = .slice none 0 0 := by simpa using hcs
  exact ⟨none, 0, [], rfl, by simp, by simp, ⟨rfl, by simp, fun h => by simp at h⟩, by simp⟩
 ·obtain rfl : c = .slice (some a) len cap := by simpa using hcs
  have hlm : len ≤ m := by rw [hmm]; split <;> omega
  have hmx : cap ≤ 9223372036854775807 := hm
  have e3 := c25
  obtain ⟨xs, hxl, hx⟩ := list_of (fun i (y : S25) => (y.f1.toNat < 18446744073709551616 ∧ y.f2.toNat < 18446744073709551616) ∧ w.cell? (a.add (i * 3 + 0)) = some (.int .i64 y.f0) ∧ w.cell? (a.add (i * 3 + 1)) = some (.float .f64 (Int.toNat y.f1)) ∧ w.cell? (a.add (i * 3 + 2)) = some (.float .f64 (Int.toNat y.f2))) len (fun i hil => by
   obtain ⟨cs, hc, ht⟩ := hi i (by omega)
   rw [e3] at hc
   obtain ⟨_, hcl, hat⟩ := World.cells?_some hc
   obtain ⟨ys, n', _, _, _, hyl, hf⟩ := DataW.trod_struct Tryd.underlying25 ht
   obtain ⟨v0, y0, g0, t0⟩ := one_of (i := 0) c2 (by omega) hcl hyl (hf 0 _ rfl)
   obtain ⟨v1, y1, g1, t1⟩ := one_of (i := 1) c23 (by omega) hcl hyl (hf 1 _ rfl)
   obtain ⟨v2, y2, g2, t2⟩ := one_of (i := 2) c23 (by omega) hcl hyl (hf 2 _ rfl)
   obtain ⟨n0, e0, _, _⟩ := DataW.trod_int Tryd.underlying2 t0
   obtain ⟨f1, e1, w1⟩ := Table.trod_float Tryd.underlying23 t1
   obtain ⟨f2, e2, w2⟩ := Table.trod_float Tryd.underlying23 t2
   obtain rfl : v0 = .int .i64 n0 := by simpa using e0
   obtain rfl : v1 = .float .f64 f1 := by simpa using e1
   obtain rfl : v2 = .float .f64 f2 := by simpa using e2
   refine ⟨⟨n0, (f1 : Int), (f2 : Int)⟩, ⟨by simpa [Lit.wf] using w1, by simpa [Lit.wf] using w2⟩, ?_, ?_, ?_⟩
   ·rw [← Go.Deep.add_add, hat 0 (by omega), g0]
   ·rw [← Go.Deep.add_add, hat 1 (by omega), g1]; rfl
   ·rw [← Go.Deep.add_add, hat 2 (by omega), g2]; rfl)
  subst hxl
  refine ⟨some a, cap, xs, rfl, by omega, by omega, ⟨rfl, by omega, fun _ => ⟨a, rfl, fun j p hp => ⟨_, rfl, k25_mk w p, fun i u hu => ?_⟩⟩⟩, fun y hy => ?_⟩
  ·obtain ⟨_, q0, q1, q2⟩ := hx j p hp
   match i, hu with
   | 0, hu => simp at hu; subst hu; exact q0
   | 1, hu => simp at hu; subst hu; exact q1
   | 2, hu => simp at hu; subst hu; exact q2
   | i + 3, hu => simp at hu
  ·obtain ⟨i, hi'⟩ := List.getElem?_of_mem hy
   exact (hx i y hi').1
def Known (hs : List S166) : Prop := ∀ s ∈ hs, s.f1.length ≤ 9223372036854775807 ∧ ∀ c ∈ s.f1, c.f1.toNat < 18446744073709551616 ∧ c.f2.toNat < 18446744073709551616
theorem open_stores {fuel : Nat} {c : Value} {x : DataW H × List MemPlace} (h : DataW.trod enc Tryd.prog w base spare held fuel 32 [c] = some x) :
  ∃ (A : Option Addr) (cap : Nat) (hs : List S166), c = .slice A hs.length cap ∧ hs.length ≤ cap ∧ hs.length ≤ 9223372036854775807 ∧ Kd.C k166 w A hs.length hs ∧ Known hs := by
 rcases open_slice Tryd.underlying32 h with ⟨hcs, _⟩ | ⟨a, len, cap, m, n, D, Pl, hcs, _, hl, hm, hmm, _, hi⟩
 ·obtain rfl : c = .slice none 0 0 := by simpa using hcs
  exact ⟨none, 0, [], rfl, by simp, by simp, ⟨rfl, by simp, fun h => by simp at h⟩, fun s hs => by simp at hs⟩
 ·obtain rfl : c = .slice (some a) len cap := by simpa using hcs
  have hlm : len ≤ m := by rw [hmm]; split <;> omega
  have hmx : cap ≤ 9223372036854775807 := hm
  have e2 := c166
  obtain ⟨hs, hxl, hx⟩ := list_of (fun i (y : S166) => (y.f1.length ≤ 9223372036854775807 ∧ ∀ c ∈ y.f1, c.f1.toNat < 18446744073709551616 ∧ c.f2.toNat < 18446744073709551616) ∧ ∃ A1 c1, y.f1.length ≤ c1 ∧ Kd.C k25 w A1 y.f1.length y.f1 ∧ w.cell? (a.add (i * 2 + 0)) = some (.int .i64 y.f0) ∧ w.cell? (a.add (i * 2 + 1)) = some (.slice A1 y.f1.length c1)) len (fun i hil => by
   obtain ⟨cs, hc, ht⟩ := hi i (by omega)
   rw [e2] at hc
   obtain ⟨_, hcl, hat⟩ := World.cells?_some hc
   obtain ⟨ys, n', _, _, _, hyl, hf⟩ := DataW.trod_struct Tryd.underlying166 ht
   obtain ⟨v0, y0, g0, t0⟩ := one_of (i := 0) c2 (by omega) hcl hyl (hf 0 _ rfl)
   obtain ⟨v1, y1, g1, t1⟩ := one_of (i := 1) c164 (by omega) hcl hyl (hf 1 _ rfl)
   obtain ⟨n0, e0, _, _⟩ := DataW.trod_int Tryd.underlying2 t0
   obtain rfl : v0 = .int .i64 n0 := by simpa using e0
   obtain ⟨A1, c1, xs, rfl, l1, l2, C1, B1⟩ := open_cells t1
   refine ⟨⟨n0, xs⟩, ⟨l2, B1⟩, A1, c1, l1, C1, ?_, ?_⟩
   ·rw [← Go.Deep.add_add, hat 0 (by omega), g0]
   ·rw [← Go.Deep.add_add, hat 1 (by omega), g1])
  subst hxl
  refine ⟨some a, cap, hs, rfl, by omega, by omega, ⟨rfl, by omega, fun _ => ⟨a, rfl, fun j p hp => ?_⟩⟩, fun y hy => ?_⟩
  ·obtain ⟨_, A1, c1, l1, C1, q0, q1⟩ := hx j p hp
   refine ⟨_, rfl, k166_mk w p l1 C1, fun i u hu => ?_⟩
   match i, hu with
   | 0, hu => simp at hu; subst hu; exact q0
   | 1, hu => simp at hu; subst hu; exact q1
   | i + 2, hu => simp at hu
  ·obtain ⟨i, hi'⟩ := List.getElem?_of_mem hy
   exact (hx i y hi').1
set_option maxRecDepth 100000 in
theorem open_heap {b0 : Nat} {v : Value} {d : DataW H} {p : List MemPlace} (hv : Value.okWide Tryd.prog w .any b0 34 v) (h : DataW.Trod enc Tryd.prog w base spare held 34 v d p) :
  ∃ (A : Option Addr) (cap : Nat) (hs : List S166), v = .agg #[.slice A hs.length cap] ∧ hs.length ≤ cap ∧ hs.length ≤ 9223372036854775807 ∧ Kd.C k166 w A hs.length hs ∧ Known hs := by
 obtain ⟨cs, rfl, hsz⟩ := okWide_struct Tryd.underlying34 hv
 have hs1 : cs.size = 1 := hsz.trans c34
 clear hsz hv
 obtain ⟨l⟩ := cs
 obtain ⟨c0, rfl⟩ : ∃ c0, l = [c0] := List.length_eq_one_iff.1 (by simpa using hs1)
 obtain ⟨fuel, hf⟩ := h
 obtain ⟨xs, n, _, _, _, hlen, hg⟩ := DataW.trod_struct Tryd.underlying34 hf
 have hcells : (Value.agg #[c0]).cells.toList = [c0] := by simp [Value.cells]
 obtain ⟨v, y, g0, t0⟩ := one_of (i := 0) (n := 1) c32 (by omega) (by rw [hcells]; rfl) hlen (hg 0 _ rfl)
 rw [hcells] at g0
 obtain rfl : c0 = v := by simpa using g0
 obtain ⟨A, cap, hs, rfl, a, b, c, d⟩ := open_stores t0
 exact ⟨A, cap, hs, rfl, a, b, c, d⟩
end
end Go.Proofs.YtpmdgmnpkdoamabDoor.DFnExactRead
