/- Proved here: what the functions answer that the law on ValidArray comes to (the lines were written by a program). Conditions: those that stand ahead in each theorem. -/
import Derived.Test.YtpmdgmnpkdoamabDoorVaDFnExactValidArrayx0
import Derived.Test.YtpmdgmnpkdoamabDoorVaDFnExactValidArrayx1
import Derived.Test.YtpmdgmnpkdoamabDoorVaDFnExactValidArrayx2
import Derived.Test.YtpmdgmnpkdoamabDoorVaDFnExactValidArrayx3
import Derived.Test.YtpmdgmnpkdoamabDoorVaDFnExactValidArrayx4
import Derived.Test.YtpmdgmnpkdoamabDoorVaDFnExactValidArrayx5
import Derived.Test.YtpmdgmnpkdoamabDoorVaDFnExactValidArrayx6
import Derived.Test.YtpmdgmnpkdoamabDoorVaDFnExactValidArrayx7
import Derived.Test.YtpmdgmnpkdoamabDoorVaDFnExactValidArrayx8
import Derived.Test.YtpmdgmnpkdoamabDoorVaDFnExactValidArrayx9
import Derived.Test.YtpmdgmnpkdoamabDoorVaDFnExactValidArrayx10
namespace Go.Proofs.YtpmdgmnpkdoamabDoor.DFnExactValidArray
open Go.RowKit Go.Proofs.YtpmdgmnpkdoamabDoorW.PrintWords Go.Proofs.YtpmdgmnpkdoamabDoorW.PrintLast Go.Proofs.YtpmdgmnpkdoamabDoorW.PrintMore
attribute [local go_sem] Vc.run_store_float' max2_int min2_int max_two min_two max_three min_three max_four min_four   -- for this text's walks alone
set_option linter.unusedVariables false
set_option linter.unusedSimpArgs false

end Go.Proofs.YtpmdgmnpkdoamabDoor.DFnExactValidArray
