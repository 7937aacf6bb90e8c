/- Proved here: the closed facts of the rows that speak of the program alone, each for itself, by the kernel. No condition. -/
import Derived.Test.YtpmdgmnpkdoamabDoorRows
import Derived.JoinedOf
import Derived.KernelRfl
namespace Go.Proofs.YtpmdgmnpkdoamabDoor.Facts
open Go
theorem fact2 : laidOutB Tryd.pinned.checked.prog = true := by kernel_rfl
theorem fact3 : mapsRowed Tryd.pinned.checked.prog = true := by kernel_rfl
theorem fact7 : (Tryd.pinned.checked.prog.stops == []) = true := by kernel_rfl
theorem fact9 : (Tryd.pinned.checked.prog.stopKnobs == []) = true := by kernel_rfl
theorem fact23 : (Rows.fnExactBeforeRow.plainKeys == Tryd.pinned.checked.prog.plainKeys) = true := by kernel_rfl
theorem fact25 : Tryd.pinned.checked.prog.stopsHeard = true := by kernel_rfl
theorem fact26 : Tryd.pinned.checked.prog.mayEnter = true := by kernel_rfl
theorem fact27 : (Rows.fnExactBeforeRow.lifted == Tryd.pinned.checked.prog.liftsFinal) = true := by kernel_rfl
theorem fact28 : (Tryd.pinned.checked.prog.make == some Rows.fnExactBeforeRow.make) = true := by kernel_rfl
end Go.Proofs.YtpmdgmnpkdoamabDoor.Facts
