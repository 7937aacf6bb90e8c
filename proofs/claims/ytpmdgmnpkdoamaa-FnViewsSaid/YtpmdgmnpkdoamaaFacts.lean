/- Proved here: the closed facts of the rows that speak of the program alone, each for itself, by the kernel. No condition. -/
import Derived.Test.YtpmdgmnpkdoamaaRows
import Derived.JoinedOf
import Derived.KernelRfl
namespace Go.Proofs.Ytpmdgmnpkdoamaa.Facts
open Go
theorem fact2 : laidOutB Try.pinned.checked.prog = true := by kernel_rfl
theorem fact3 : mapsRowed Try.pinned.checked.prog = true := by kernel_rfl
theorem fact7 : (Try.pinned.checked.prog.stops == []) = true := by kernel_rfl
theorem fact9 : (Try.pinned.checked.prog.stopKnobs == []) = true := by kernel_rfl
theorem fact23 : (Rows.fnViewsRow.plainKeys == Try.pinned.checked.prog.plainKeys) = true := by kernel_rfl
theorem fact25 : Try.pinned.checked.prog.stopsHeard = true := by kernel_rfl
theorem fact26 : Try.pinned.checked.prog.mayEnter = true := by kernel_rfl
theorem fact27 : (Rows.fnViewsRow.lifted == Try.pinned.checked.prog.liftsFinal) = true := by kernel_rfl
theorem fact28 : (Try.pinned.checked.prog.make == some Rows.fnViewsRow.make) = true := by kernel_rfl
end Go.Proofs.Ytpmdgmnpkdoamaa.Facts
