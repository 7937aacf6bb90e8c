/- Proved here: what the functions answer that the law on Transpose comes to (the lines were written by a program). Conditions: those that stand ahead in each theorem. -/
import Derived.Test.YtpmdgmnpkdoamaaProg
import Derived.Below
import Derived.Deep.Draws
import Derived.Deep.AppendLies
import Derived.Maps.AppendAt
import Derived.OwnWalk
import Derived.Laws.BytesArg
import Derived.Laws.MakeOwn
import Derived.Laws.OwnMore
import Derived.Deep.OwnRows
import Derived.Tactics
import Derived.Lib.ConvBytes
import Derived.Laws.Slices
import Derived.WalkKit
import Derived.KernelRfl
import Derived.RowKit3
import Derived.Deep.LoopGhost
import Derived.Deep.QuietTactic
import Derived.BigQuiet
import Derived.WideLaws
import Derived.Deep.DeepCutAuto
import Derived.Deep.CutBlock
import Derived.Deep.RegionHeld3
import Derived.Laws.Rows
import Derived.Lib.AppendStr
import Derived.ArgAppend
import Derived.Laws.IdiomCopy
import Derived.OrdersHeld
import Derived.Laws.BitsLemmas
import Derived.RowKit
import Derived.WalkSpells
import Derived.Test.YtpmdgmnpkdoamaaWWords
import Derived.Test.YtpmdgmnpkdoamaaWLast
import Derived.Test.YtpmdgmnpkdoamaaWTab
import Derived.Test.YtpmdgmnpkdoamaaWFour
import Derived.Test.YtpmdgmnpkdoamaaWQPut
import Derived.Test.YtpmdgmnpkdoamaaWApart
import Derived.Test.YtpmdgmnpkdoamaaWArr
import Derived.Test.YtpmdgmnpkdoamaaWZeros
import Derived.Test.YtpmdgmnpkdoamaaWFoot
import Derived.Test.YtpmdgmnpkdoamaaWKept
import Derived.Test.YtpmdgmnpkdoamaaWShare
import Derived.Test.YtpmdgmnpkdoamaaWN
import Derived.Test.YtpmdgmnpkdoamaaWFootNe
import Derived.Test.YtpmdgmnpkdoamaaWAt
import Derived.Test.YtpmdgmnpkdoamaaWEqStruct
import Derived.Test.YtpmdgmnpkdoamaaWRepsOne
import Derived.Test.YtpmdgmnpkdoamaaWInv
import Derived.Test.YtpmdgmnpkdoamaaWInvWords
import Derived.Test.YtpmdgmnpkdoamaaWGuard
import Derived.Test.YtpmdgmnpkdoamaaWNEv
import Derived.Test.YtpmdgmnpkdoamaaWMore
namespace Go.Proofs.Ytpmdgmnpkdoamaa.DFnExactTranspose
open Go.RowKit Go.Proofs.YtpmdgmnpkdoamaaW.PrintWords Go.Proofs.YtpmdgmnpkdoamaaW.PrintLast Go.Proofs.YtpmdgmnpkdoamaaW.PrintMore
attribute [local go_sem] max2_int min2_int max_two min_two max_three min_three max_four min_four   -- for this text's walks alone
set_option linter.unusedVariables false
set_option linter.unusedSimpArgs false



def errW : Option Int → Value
  | none => .nilIface
  | some c => .iface 0 (.int .i64 c)
theorem errW_none : errW none = .nilIface := rfl
theorem errW_some (c : Int) : errW (some c) = .iface 0 (.int .i64 c) := rfl

theorem info2 : (Try.prog.info? 2).map (fun i => (i.zero, i.size, i.bytes)) = some (some (.int .i64 0), 1, 8) := by kernel_rfl
theorem info4 : (Try.prog.info? 4).map (fun i => (i.zero, i.size, i.bytes)) = some (some (.bool false), 1, 1) := by kernel_rfl
-- the values' own types

end Go.Proofs.Ytpmdgmnpkdoamaa.DFnExactTranspose
