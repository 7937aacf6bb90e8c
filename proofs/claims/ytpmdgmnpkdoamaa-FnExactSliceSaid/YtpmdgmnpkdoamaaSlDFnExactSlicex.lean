/- Proved here: what the functions answer that the law on Slice comes to (the lines were written by a program). Conditions: those that stand ahead in each theorem. -/
import Derived.Test.YtpmdgmnpkdoamaaSlDFnExactSlicex0
import Derived.Test.YtpmdgmnpkdoamaaSlDFnExactSlicex1
import Derived.Test.YtpmdgmnpkdoamaaSlDFnExactSlicex2
import Derived.Test.YtpmdgmnpkdoamaaSlDFnExactSlicex3
import Derived.Test.YtpmdgmnpkdoamaaSlDFnExactSlicex4
import Derived.Test.YtpmdgmnpkdoamaaSlDFnExactSlicex5
import Derived.Test.YtpmdgmnpkdoamaaSlDFnExactSlicex6
import Derived.Test.YtpmdgmnpkdoamaaSlDFnExactSlicex7
import Derived.Test.YtpmdgmnpkdoamaaSlDFnExactSlicex8
import Derived.Test.YtpmdgmnpkdoamaaSlDFnExactSlicex9
namespace Go.Proofs.Ytpmdgmnpkdoamaa.DFnExactSlice
open Go.RowKit Go.Proofs.YtpmdgmnpkdoamaaW.PrintWords Go.Proofs.YtpmdgmnpkdoamaaW.PrintLast Go.Proofs.YtpmdgmnpkdoamaaW.PrintMore
attribute [local go_sem] max2_int min2_int max_two min_two max_three min_three max_four min_four   -- for this text's walks alone
set_option linter.unusedVariables false
set_option linter.unusedSimpArgs false

end Go.Proofs.Ytpmdgmnpkdoamaa.DFnExactSlice
