/- Proved here: what impl.writable answers: whether the places of a view's elements differ. Conditions: as in the Places text, or the count of the shape is 0. -/
import Derived.Test.YtpmdgmnpkdoamaaViPlc3
namespace Go.Proofs.Ytpmdgmnpkdoamaa.Odo
open Go.RowKit Go.Shelf Rf Go.Proofs.YtpmdgmnpkdoamaaW.PrintWords Go.Proofs.YtpmdgmnpkdoamaaW.PrintLast Go.Proofs.YtpmdgmnpkdoamaaW.PrintMore
attribute [local go_sem] Oper.semAt_some wide_fn
def mkN (m : Nat) (pre : List Int) : Array Value := ((List.range m).map fun (i : Nat) => Value.bool (decide ((i : Int) ∈ pre))).toArray
end Go.Proofs.Ytpmdgmnpkdoamaa.Odo
