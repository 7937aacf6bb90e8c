/- Proved here: the law on constants answers true. No condition. -/
import Derived.Test.YtcaimbfjfibmmaaPFnExactConstantsx1
namespace Go.Proofs.Ytcaimbfjfibmmaa.Pure
open Go.RowKit Go.Proofs.Ytcaimbfjfibmmaa.PFnExactConstants Go.Proofs.YtcaimbfjfibmmaaW.PrintWords Go.Proofs.YtcaimbfjfibmmaaW.PrintLast

/-- YOURS: laws_FnExactConstants.f  = some true
What it reaches (each with k first where it has rounds; `.mono`: more rounds tell the same; `.l0`, ..: its loops, with `.mono_l`): laws_FnExactConstants.f -/
theorem FnExactConstants : laws_FnExactConstants.Pure := by
  rfl

end Go.Proofs.Ytcaimbfjfibmmaa.Pure
