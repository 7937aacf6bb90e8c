/- Proved here: what the functions answer that the law on Schedule comes to (the lines were written by a program). Conditions: those that stand ahead in each theorem. -/
import Derived.Test.YtpmdgmnpkdoamaaDFnExactSchedulex0
import Derived.Test.YtpmdgmnpkdoamaaDFnExactSchedulex1
import Derived.Test.YtpmdgmnpkdoamaaDFnExactSchedulex2
import Derived.Test.YtpmdgmnpkdoamaaDFnExactSchedulex3
import Derived.Test.YtpmdgmnpkdoamaaDFnExactSchedulex4
import Derived.Test.YtpmdgmnpkdoamaaDFnExactSchedulex5
namespace Go.Proofs.Ytpmdgmnpkdoamaa.DFnExactSchedule
open Go.RowKit Go.Proofs.YtpmdgmnpkdoamaaW.PrintWords Go.Proofs.YtpmdgmnpkdoamaaW.PrintLast Go.Proofs.YtpmdgmnpkdoamaaW.PrintMore
attribute [local go_sem] max2_int min2_int max_two min_two max_three min_three max_four min_four   -- for this text's walks alone
set_option linter.unusedVariables false
set_option linter.unusedSimpArgs false

end Go.Proofs.Ytpmdgmnpkdoamaa.DFnExactSchedule
