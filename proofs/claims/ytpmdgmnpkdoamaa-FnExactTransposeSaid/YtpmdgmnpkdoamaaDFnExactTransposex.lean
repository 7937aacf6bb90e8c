/- Proved here: what the functions answer that the law on Transpose comes to (the lines were written by a program). Conditions: those that stand ahead in each theorem. -/
import Derived.Test.YtpmdgmnpkdoamaaDFnExactTransposex0
import Derived.Test.YtpmdgmnpkdoamaaDFnExactTransposex1
import Derived.Test.YtpmdgmnpkdoamaaDFnExactTransposex2
import Derived.Test.YtpmdgmnpkdoamaaDFnExactTransposex3
import Derived.Test.YtpmdgmnpkdoamaaDFnExactTransposex4
import Derived.Test.YtpmdgmnpkdoamaaDFnExactTransposex5
import Derived.Test.YtpmdgmnpkdoamaaDFnExactTransposex6
import Derived.Test.YtpmdgmnpkdoamaaDFnExactTransposex7
import Derived.Test.YtpmdgmnpkdoamaaDFnExactTransposex8
namespace Go.Proofs.Ytpmdgmnpkdoamaa.DFnExactTranspose
open Go.RowKit Go.Proofs.YtpmdgmnpkdoamaaW.PrintWords Go.Proofs.YtpmdgmnpkdoamaaW.PrintLast Go.Proofs.YtpmdgmnpkdoamaaW.PrintMore
attribute [local go_sem] max2_int min2_int max_two min_two max_three min_three max_four min_four   -- for this text's walks alone
set_option linter.unusedVariables false
set_option linter.unusedSimpArgs false

end Go.Proofs.Ytpmdgmnpkdoamaa.DFnExactTranspose
