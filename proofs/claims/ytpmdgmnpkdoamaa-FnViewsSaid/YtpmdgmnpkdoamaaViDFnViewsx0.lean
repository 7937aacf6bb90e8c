/- Proved here: what the functions answer that the law on  comes to (the lines were written by a program). Conditions: those that stand ahead in each theorem. -/
import Derived.Test.YtpmdgmnpkdoamaaProg
import Derived.Below
import Derived.Deep.Draws
import Derived.Deep.AppendLies
import Derived.Maps.AppendAt
import Derived.OwnWalk
import Derived.Laws.BytesArg
import Derived.Laws.MakeOwn
import Derived.Laws.OwnMore
import Derived.Deep.OwnRows
import Derived.Tactics
import Derived.Lib.ConvBytes
import Derived.Laws.Slices
import Derived.WalkKit
import Derived.KernelRfl
import Derived.RowKit3
import Derived.Deep.LoopGhost
import Derived.Deep.QuietTactic
import Derived.BigQuiet
import Derived.WideLaws
import Derived.Deep.DeepCutAuto
import Derived.Deep.CutBlock
import Derived.Deep.RegionHeld3
import Derived.Laws.Rows
import Derived.Lib.AppendStr
import Derived.ArgAppend
import Derived.Laws.IdiomCopy
import Derived.OrdersHeld
import Derived.Laws.BitsLemmas
import Derived.RowKit
import Derived.WalkSpells
import Derived.Test.YtpmdgmnpkdoamaaViPlc4
import Derived.Test.YtpmdgmnpkdoamaaViWSq
import Derived.Laws.StructEq
namespace Go.Proofs.Ytpmdgmnpkdoamaa.DFnViews
open Go.RowKit Go.Proofs.YtpmdgmnpkdoamaaW.PrintWords Go.Proofs.YtpmdgmnpkdoamaaW.PrintLast Go.Proofs.YtpmdgmnpkdoamaaW.PrintMore
attribute [local go_sem] max2_int min2_int max_two min_two max_three min_three max_four min_four   -- for this text's walks alone
set_option linter.unusedVariables false
set_option linter.unusedSimpArgs false



def errW : Option Int → Value
 | none => .nilIface
 | some c => .iface 0 (.int .i64 c)
theorem zG : errW none = .nilIface := rfl
theorem zF (c : Int) : errW (some c) = .iface 0 (.int .i64 c) := rfl

theorem info2 : (Try.prog.info? 2).map (fun i => (i.zero, i.size, i.bytes)) = some (some (.int .i64 0), 1, 8) := by kernel_rfl
-- the values' own types

end Go.Proofs.Ytpmdgmnpkdoamaa.DFnViews
