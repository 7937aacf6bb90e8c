/- Proved here: the closed facts of the rows that speak of the program alone, each for itself, by the kernel. No condition. -/
import Derived.Test.YtpmdgmnpkdoamabGreatDoorRows
import Derived.JoinedOf
import Derived.KernelRfl
namespace Go.Proofs.YtpmdgmnpkdoamabGreatDoor.Facts
open Go
theorem fact2 : laidOutB Tryz.pinned.checked.prog = true := by kernel_rfl
theorem fact3 : mapsRowed Tryz.pinned.checked.prog = true := by kernel_rfl
theorem fact7 : (Tryz.pinned.checked.prog.stops == []) = true := by kernel_rfl
theorem fact9 : (Tryz.pinned.checked.prog.stopKnobs == []) = true := by kernel_rfl
theorem fact23 : (Rows.fnCellTextRow.plainKeys == Tryz.pinned.checked.prog.plainKeys) = true := by kernel_rfl
theorem fact25 : Tryz.pinned.checked.prog.stopsHeard = true := by kernel_rfl
theorem fact26 : Tryz.pinned.checked.prog.mayEnter = true := by kernel_rfl
theorem fact27 : (Rows.fnCellTextRow.lifted == Tryz.pinned.checked.prog.liftsFinal) = true := by kernel_rfl
theorem fact28 : (Tryz.pinned.checked.prog.make == some Rows.fnCellTextRow.make) = true := by kernel_rfl
end Go.Proofs.YtpmdgmnpkdoamabGreatDoor.Facts
