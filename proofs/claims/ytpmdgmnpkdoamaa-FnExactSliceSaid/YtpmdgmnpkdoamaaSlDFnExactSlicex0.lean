/- Proved here: what the functions answer that the law on Slice comes to (the lines were written by a program). Conditions: those that stand ahead in each theorem. -/
import Derived.Test.YtpmdgmnpkdoamaaProg
import Derived.Below
import Derived.Deep.Draws
import Derived.Deep.AppendLies
import Derived.Maps.AppendAt
import Derived.OwnWalk
import Derived.Laws.BytesArg
import Derived.Laws.MakeOwn
import Derived.Laws.OwnMore
import Derived.Deep.OwnRows
import Derived.Tactics
import Derived.Lib.ConvBytes
import Derived.Laws.Slices
import Derived.WalkKit
import Derived.KernelRfl
import Derived.RowKit3
import Derived.Deep.LoopGhost
import Derived.Deep.QuietTactic
import Derived.BigQuiet
import Derived.WideLaws
import Derived.Deep.DeepCutAuto
import Derived.Deep.CutBlock
import Derived.Deep.RegionHeld3
import Derived.Laws.Rows
import Derived.Lib.AppendStr
import Derived.ArgAppend
import Derived.Laws.IdiomCopy
import Derived.OrdersHeld
import Derived.Laws.BitsLemmas
import Derived.RowKit
import Derived.WalkSpells
import Derived.Test.YtpmdgmnpkdoamaaSlWWords
import Derived.Test.YtpmdgmnpkdoamaaSlWLast
import Derived.Test.YtpmdgmnpkdoamaaSlWTab
import Derived.Test.YtpmdgmnpkdoamaaSlWFour
import Derived.Test.YtpmdgmnpkdoamaaSlWQPut
import Derived.Test.YtpmdgmnpkdoamaaSlWApart
import Derived.Test.YtpmdgmnpkdoamaaSlWArr
import Derived.Test.YtpmdgmnpkdoamaaSlWZeros
import Derived.Test.YtpmdgmnpkdoamaaSlWFoot
import Derived.Test.YtpmdgmnpkdoamaaSlWKept
import Derived.Test.YtpmdgmnpkdoamaaSlWShare
import Derived.Test.YtpmdgmnpkdoamaaSlWN
import Derived.Test.YtpmdgmnpkdoamaaSlWFootNe
import Derived.Test.YtpmdgmnpkdoamaaSlWAt
import Derived.Test.YtpmdgmnpkdoamaaSlWEqStruct
import Derived.Test.YtpmdgmnpkdoamaaSlWRepsOne
import Derived.Test.YtpmdgmnpkdoamaaSlWInv
import Derived.Test.YtpmdgmnpkdoamaaSlWInvWords
import Derived.Test.YtpmdgmnpkdoamaaSlWGuard
import Derived.Test.YtpmdgmnpkdoamaaSlWNEv
import Derived.Test.YtpmdgmnpkdoamaaSlWMore
namespace Go.Proofs.Ytpmdgmnpkdoamaa.DFnExactSlice
open Go.RowKit Go.Proofs.YtpmdgmnpkdoamaaW.PrintWords Go.Proofs.YtpmdgmnpkdoamaaW.PrintLast Go.Proofs.YtpmdgmnpkdoamaaW.PrintMore
attribute [local go_sem] max2_int min2_int max_two min_two max_three min_three max_four min_four   -- for this text's walks alone
set_option linter.unusedVariables false
set_option linter.unusedSimpArgs false



def errW : Option Int → Value
  | none => .nilIface
  | some c => .iface 0 (.int .i64 c)
theorem errW_none : errW none = .nilIface := rfl
theorem errW_some (c : Int) : errW (some c) = .iface 0 (.int .i64 c) := rfl

theorem info2 : (Try.prog.info? 2).map (fun i => (i.zero, i.size, i.bytes)) = some (some (.int .i64 0), 1, 8) := by kernel_rfl
-- the values' own types

end Go.Proofs.Ytpmdgmnpkdoamaa.DFnExactSlice
