/- Proved here: what the negative of a float's word is. Conditions: the words are of their kind. -/
import Derived.Test.YtpmdgmnpkdoamabGreatDoorCtUn3
namespace Go.Proofs.YtpmdgmnpkdoamabGreatDoor.Vc
open Go.RowKit Fl Prom
open Ieee (single double)
attribute [local go_sem] run_store_float'
def unI (op k a i : Int) (f g : Nat) : Int × Nat × Nat :=
  if op = 1 then (if k = 1 then (cutI a (wrap64 (-i)), 0, 0) else if k = 2 then (0, Fl.flip f, 0) else (0, Fl.flip f, Fl.flip g))
  else if op = 2 then (if k = 0 then (wrap64 (1 - i), 0, 0) else (cutI a (bits BinOp.xor IntKind.i64 (-1) i), 0, 0))
  else if op = 3 then (if k = 2 then (0, f % negZero, 0) else if i < 0 then (cutI a (wrap64 (-i)), 0, 0) else (i, f, g))
  else (if k = 3 then (i, f, Fl.flip g) else (i, f, g))
def UnP (op k a i : Int) (f g : Nat) (w : World) (e : Ending) (w' : World) : Prop :=
  e = .returned (.agg #[.int .i64 (unI op k a i f g).1, .float .f64 (unI op k a i f g).2.1, .float .f64 (unI op k a i f g).2.2]) ∧ Below w.heap.size w w'
theorem ret_cell {i i' : Int} {f g f' g' : Nat} (h1 : i = i') (h2 : f = f') (h3 : g = g') : Ending.returned (.agg #[.int .i64 i, .float .f64 f, .float .f64 g]) = .returned (.agg #[.int .i64 i', .float .f64 f', .float .f64 g']) := by rw [h1, h2, h3]
theorem neg_float (x : Nat) (hx : x < 18446744073709551616) (w : World) : (Op.unary .neg (.float .f64 x)).run Tryz.prog w = .ok (.float .f64 (Fl.flip x)) w := by
  simp only [Op.unary, Op.negFloat]
  rw [← xor_flip hx]
  rfl
end Go.Proofs.YtpmdgmnpkdoamabGreatDoor.Vc
