/- Proved here: what the four listed tables hold, out of the row's own condition. No condition beyond that. -/
import Derived.Test.YtpmdgmnpkdoamabDoorFcj
import Derived.LaidSub
import Derived.Lib.LaidTab
namespace Go.Proofs.YtpmdgmnpkdoamabDoor.Tabs
open Go
theorem holds {W : World} (h : laidMetH Tryd.prog Rows.fnExactFormatCellRow.laid W) : Table.Holds W := by
  have h1 := laidMetH.filter (fun x => ["loop.example/s16388/impl.dtypes"].contains x.1) h
  rw [show (Rows.fnExactFormatCellRow.laid.filter fun x => ["loop.example/s16388/impl.dtypes"].contains x.1) = [("loop.example/s16388/impl.dtypes", Rows.laid_loop_example_s16388_impl_dtypes)] from by kernel_rfl] at h1
  exact Table.holds h1
theorem tab {W : World} (h : laidMetH Tryd.prog Rows.fnExactFormatCellRow.laid W) : Vc.Tab W := by
  have h1 := laidMetH.filter (fun x => ["internal/strconv.uint64pow10"].contains x.1) h
  rw [show (Rows.fnExactFormatCellRow.laid.filter fun x => ["internal/strconv.uint64pow10"].contains x.1) = [("internal/strconv.uint64pow10", Lib.tabData .u64 Lib.pow10Tab)] from by kernel_rfl] at h1
  exact Lib.tabIs_of_head (g := 2) (t := 218) (e := 197) (n := 20) (by kernel_rfl) (by kernel_rfl) Tryd.underlying218 Tryd.underlying197 (by kernel_rfl) (by kernel_rfl) h1
/-- A table's cells put in. -/
def put (cells : Array Value) : Obj → Obj
  | .cells _ t frozen => .cells cells t frozen
  | o => o
def pow : Array Value := (Lib.pow10Tab.map fun z => Value.int .u64 z).toArray
def db32 : Array Value := (([0, 1, 28, 2, 29, 14, 24, 3, 30, 22, 20, 15, 25, 17, 4, 8, 31, 27, 13, 23, 21, 19, 16, 7, 26, 12, 18, 6, 11, 5, 10, 9] : List Int).map fun z => Value.int .u8 z).toArray
def db64 : Array Value := (([0, 1, 56, 2, 57, 49, 28, 3, 61, 58, 42, 50, 38, 29, 17, 4, 62, 47, 59, 36, 45, 43, 51, 22, 53, 39, 33, 30, 24, 18, 12, 5, 63, 55, 48, 27, 60, 41, 37, 16, 46, 35, 44, 21, 52, 32, 23, 11, 54, 26, 40, 15, 34, 20, 31, 10, 25, 14, 19, 9, 13, 8, 7, 6] : List Int).map fun z => Value.int .u8 z).toArray
end Go.Proofs.YtpmdgmnpkdoamabDoor.Tabs
