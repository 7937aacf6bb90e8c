/- Proved here: how an array that came in is read: its store's number, its shape, strides and offset. Condition: the value is of its type. -/
import Derived.Test.YtpmdgmnpkdoamabDoorRdOFnExactRead
import Derived.Test.YtpmdgmnpkdoamabDoorRdBFnExactRead
namespace Go.Proofs.YtpmdgmnpkdoamabDoor.DFnExactRead
open Go.RowKit Go.Proofs.YtpmdgmnpkdoamabDoorW.PrintWords Go.Proofs.YtpmdgmnpkdoamabDoorW.PrintLast Go.Proofs.YtpmdgmnpkdoamabDoorW.PrintMore
open Go.ChangeShapes Go.WideShapes Go.Deep
section
variable {H : Type} {enc : TypeId × Value → H} {w : World} {base : Nat} {spare : Nat → Bool} {held : Bool}
theorem c61 : Tryd.prog.cellsOf 61 = 4 := by kernel_rfl
theorem c59 : Tryd.prog.cellsOf 59 = 3 := by kernel_rfl
theorem c57 : Tryd.prog.cellsOf 57 = 1 := by kernel_rfl
set_option maxRecDepth 100000 in
theorem open_array {b0 : Nat} {v : Value} {d : DataW H} {p : List MemPlace} (hv : Value.okWide Tryd.prog w .any b0 61 v) (h : DataW.Trod enc Tryd.prog w base spare held 61 v d p) :
  ∃ (s : Int) (A0 : Option Addr) (cap0 : Nat) (xs : List Int) (A1 : Option Addr) (cap1 : Nat) (ys : List Int) (o : Int), v = .agg #[.int .i64 s, .slice A0 xs.length cap0, .slice A1 ys.length cap1, .int .i64 o] ∧
   xs.length ≤ cap0 ∧ xs.length ≤ 9223372036854775807 ∧ Kd.C (Kd.int .i64) w A0 xs.length xs ∧ ys.length ≤ cap1 ∧ ys.length ≤ 9223372036854775807 ∧ Kd.C (Kd.int .i64) w A1 ys.length ys := by
 obtain ⟨cs, rfl, hsz⟩ := okWide_struct Tryd.underlying61 hv
 have hs1 : cs.size = 4 := hsz.trans c61
 clear hsz hv
 obtain ⟨l⟩ := cs
 have hl : l.length = 4 := by simpa using hs1
 obtain ⟨a0, a1, a2, a3, rfl⟩ : ∃ a b c d, l = [a, b, c, d] := by
  match l, hl with
  | [a, b, c, d], _ => exact ⟨a, b, c, d, rfl⟩
 obtain ⟨fuel, hf⟩ := h
 obtain ⟨zs, n, _, _, _, hlen, hg⟩ := DataW.trod_struct Tryd.underlying61 hf
 have hcells : (Value.agg #[a0, a1, a2, a3]).cells.toList = [a0, a1, a2, a3] := by simp [Value.cells]
 have hlen2 : zs.length = 2 := hlen
 have g0 : DataW.trod enc Tryd.prog w base spare held n 2 ((((Value.agg #[a0, a1, a2, a3]).cells.toList).drop 0).take (Tryd.prog.cellsOf 2)) = zs[0]? := hg 0 _ rfl
 have g1 : DataW.trod enc Tryd.prog w base spare held n 59 ((((Value.agg #[a0, a1, a2, a3]).cells.toList).drop 1).take (Tryd.prog.cellsOf 59)) = zs[1]? := hg 1 _ rfl
 rw [hcells, c2] at g0
 rw [hcells, c59] at g1
 have z0 : zs[0]? = some (zs[0]'(by omega)) := List.getElem?_eq_getElem (by omega)
 have z1 : zs[1]? = some (zs[1]'(by omega)) := List.getElem?_eq_getElem (by omega)
 rw [z0] at g0
 rw [z1] at g1
 have t0 : DataW.trod enc Tryd.prog w base spare held n 2 [a0] = some (zs[0]'(by omega)) := g0
 have t1 : DataW.trod enc Tryd.prog w base spare held n 59 [a1, a2, a3] = some (zs[1]'(by omega)) := g1
 obtain ⟨s, e0, _, _⟩ := DataW.trod_int Tryd.underlying2 t0
 obtain rfl : a0 = .int .i64 s := by simpa using e0
 obtain ⟨us, n', _, _, _, hul, hv⟩ := DataW.trod_struct Tryd.underlying59 t1
 obtain ⟨v1, y1, q1, r1⟩ := one_of (cs := [a1, a2, a3]) (n := 3) (i := 0) c57 (by omega) rfl hul (hv 0 _ rfl)
 obtain ⟨v2, y2, q2, r2⟩ := one_of (cs := [a1, a2, a3]) (n := 3) (i := 1) c57 (by omega) rfl hul (hv 1 _ rfl)
 obtain ⟨v3, y3, q3, r3⟩ := one_of (cs := [a1, a2, a3]) (n := 3) (i := 2) c2 (by omega) rfl hul (hv 2 _ rfl)
 obtain rfl : a1 = v1 := by simpa using q1
 obtain rfl : a2 = v2 := by simpa using q2
 obtain rfl : a3 = v3 := by simpa using q3
 obtain ⟨A0, cap0, xs, rfl, l0, m0, R0⟩ := field_ints Tryd.underlying57 Tryd.underlying2 c2 r1
 obtain ⟨A1, cap1, ys, rfl, l1, m1, R1⟩ := field_ints Tryd.underlying57 Tryd.underlying2 c2 r2
 obtain ⟨o, e3, _, _⟩ := DataW.trod_int Tryd.underlying2 r3
 obtain rfl : a3 = .int .i64 o := by simpa using e3
 exact ⟨s, A0, cap0, xs, A1, cap1, ys, o, rfl, l0, m0, R0, l1, m1, R1⟩
end
end Go.Proofs.YtpmdgmnpkdoamabDoor.DFnExactRead
