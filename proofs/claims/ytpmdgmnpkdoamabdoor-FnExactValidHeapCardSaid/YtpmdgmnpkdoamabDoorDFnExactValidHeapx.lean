/- Proved here: what the functions answer that the law on ValidHeap comes to (the lines were written by a program). Conditions: those that stand ahead in each theorem. -/
import Derived.Test.YtpmdgmnpkdoamabDoorDFnExactValidHeapx0
import Derived.Test.YtpmdgmnpkdoamabDoorDFnExactValidHeapx1
import Derived.Test.YtpmdgmnpkdoamabDoorDFnExactValidHeapx2
import Derived.Test.YtpmdgmnpkdoamabDoorDFnExactValidHeapx3
import Derived.Test.YtpmdgmnpkdoamabDoorDFnExactValidHeapx4
import Derived.Test.YtpmdgmnpkdoamabDoorDFnExactValidHeapx5
namespace Go.Proofs.YtpmdgmnpkdoamabDoor.DFnExactValidHeap
open Go.RowKit Go.Proofs.YtpmdgmnpkdoamabDoorW.PrintWords Go.Proofs.YtpmdgmnpkdoamabDoorW.PrintLast Go.Proofs.YtpmdgmnpkdoamabDoorW.PrintMore
attribute [local go_sem] Vc.run_store_float' max2_int min2_int max_two min_two max_three min_three max_four min_four   -- for this text's walks alone
set_option linter.unusedVariables false
set_option linter.unusedSimpArgs false

end Go.Proofs.YtpmdgmnpkdoamabDoor.DFnExactValidHeap
