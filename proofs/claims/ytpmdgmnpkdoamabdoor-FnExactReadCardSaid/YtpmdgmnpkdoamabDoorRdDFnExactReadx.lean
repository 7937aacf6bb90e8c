/- Proved here: what the functions answer that the law on Read comes to (the lines were written by a program). Conditions: those that stand ahead in each theorem. -/
import Derived.Test.YtpmdgmnpkdoamabDoorRdDFnExactReadx0
import Derived.Test.YtpmdgmnpkdoamabDoorRdDFnExactReadx1
import Derived.Test.YtpmdgmnpkdoamabDoorRdDFnExactReadx2
import Derived.Test.YtpmdgmnpkdoamabDoorRdDFnExactReadx3
import Derived.Test.YtpmdgmnpkdoamabDoorRdDFnExactReadx4
import Derived.Test.YtpmdgmnpkdoamabDoorRdDFnExactReadx5
import Derived.Test.YtpmdgmnpkdoamabDoorRdDFnExactReadx6
import Derived.Test.YtpmdgmnpkdoamabDoorRdDFnExactReadx7
import Derived.Test.YtpmdgmnpkdoamabDoorRdDFnExactReadx8
import Derived.Test.YtpmdgmnpkdoamabDoorRdDFnExactReadx9
import Derived.Test.YtpmdgmnpkdoamabDoorRdDFnExactReadx10
import Derived.Test.YtpmdgmnpkdoamabDoorRdDFnExactReadx11
namespace Go.Proofs.YtpmdgmnpkdoamabDoor.DFnExactRead
open Go.RowKit Go.Proofs.YtpmdgmnpkdoamabDoorW.PrintWords Go.Proofs.YtpmdgmnpkdoamabDoorW.PrintLast Go.Proofs.YtpmdgmnpkdoamabDoorW.PrintMore
attribute [local go_sem] Vc.run_store_float' max2_int min2_int max_two min_two max_three min_three max_four min_four   -- for this text's walks alone
set_option linter.unusedVariables false
set_option linter.unusedSimpArgs false

end Go.Proofs.YtpmdgmnpkdoamabDoor.DFnExactRead
