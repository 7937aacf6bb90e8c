/- Proved here: what the listed tables and variables hold, out of the row's own condition, and a world in which they hold it. No condition beyond that. -/
import Derived.Test.YtpmdgmnpkdoamabGreatDoorCtPca
import Derived.LaidSub
import Derived.Lib.LaidTab
namespace Go.Proofs.YtpmdgmnpkdoamabGreatDoor.Tbz
open Go
theorem holds {W : World} (h : laidMetH Tryz.prog Rows.fnCellTextRow.laid W) : Table.Holds W := by
  have h1 := laidMetH.filter (fun x => ["loop.example/s16388/impl.dtypes"].contains x.1) h
  rw [show (Rows.fnCellTextRow.laid.filter fun x => ["loop.example/s16388/impl.dtypes"].contains x.1) = [("loop.example/s16388/impl.dtypes", Rows.laid_loop_example_s16388_impl_dtypes)] from by kernel_rfl] at h1
  exact Table.holds h1
theorem tab {W : World} (h : laidMetH Tryz.prog Rows.fnCellTextRow.laid W) : Vc.Tab W := by
  have h1 := laidMetH.filter (fun x => ["internal/strconv.uint64pow10"].contains x.1) h
  rw [show (Rows.fnCellTextRow.laid.filter fun x => ["internal/strconv.uint64pow10"].contains x.1) = [("internal/strconv.uint64pow10", Lib.tabData .u64 Lib.pow10Tab)] from by kernel_rfl] at h1
  exact Lib.tabIs_of_head (g := 2) (t := 223) (e := 193) (n := 20) (by kernel_rfl) (by kernel_rfl) Tryz.underlying223 Tryz.underlying193 (by kernel_rfl) (by kernel_rfl) h1
theorem mlen {W : World} (h : W.ShapedOpen Tryz.prog) : Vc.MLen W := by
  obtain ⟨m, hm⟩ := Vc.lay145.s1_3 W h
  rw [show Vc.rho.g 1 = 3 by kernel_rfl] at hm
  exact ⟨m, hm⟩
/-- A table's numbers, as cells. -/
def lits : DataW Unit → List Value
  | .lit (.int k z) => [.int k z]
  | _ => []
def rows1 : DataW Unit → List Value
  | .agg ds => ds.flatMap lits
  | d => lits d
def flat : DataW Unit → Array Value
  | .agg ds => (ds.flatMap rows1).toArray
  | _ => #[]
/-- A table's cells put in. -/
def put (cells : Array Value) : Obj → Obj
  | .cells _ t frozen => .cells cells t frozen
  | o => o
noncomputable def low : Nat := (World.holding Tryz.prog default ⟨#[], #[], []⟩).heap.size
/-- A world in which the listed variables hold what is listed. -/
noncomputable def world (os : Os) : World :=
  let w0 := World.holding Tryz.prog os ⟨#[.cells #[.string ⟨#[105, 110, 118, 97, 108, 105, 100, 32, 115, 121, 110, 116, 97, 120]⟩] 260, .cells #[.string ⟨#[118, 97, 108, 117, 101, 32, 111, 117, 116, 32, 111, 102, 32, 114, 97, 110, 103, 101]⟩] 260], #[], []⟩
  { w0 with heap := (((((((w0.heap.modify 0 (put (flat Rows.laid_loop_example_s16388_impl_dtypes))).modify 2 (put (flat Rows.laid_internal_strconv_uint64pow10))).modify 4 (put #[.iface 258 (.pointer (some ⟨low, 0, none⟩))])).modify 5 (put #[.iface 258 (.pointer (some ⟨low + 1, 0, none⟩))])).modify 6 (put (flat Rows.laid_math_bits_deBruijn32tab))).modify 7 (put (flat Rows.laid_math_bits_deBruijn64tab))).modify 8 (put (flat Rows.laid_unicode_utf8_first))).modify 9 (put (flat Rows.laid_unicode_utf8_acceptRanges)) }
end Go.Proofs.YtpmdgmnpkdoamabGreatDoor.Tbz
