/- Proved here: what spec.Before and impl.Before answer, where the table of dtypes holds what the program lays in it. Conditions: the words are of their kind. -/
import Derived.Test.YtpmdgmnpkdoamabDoorRdVcSpec
namespace Go.Proofs.YtpmdgmnpkdoamabDoor.Vc
open Go.RowKit Fl Prom
open Ieee (single double)
def flt (x y : Nat) : Bool := double.order x y == some .lt
def fbef (a b : Nat) : Bool := if fnan a then false else if fnan b then true else flt a b || (feq a b && minus a && !minus b)
def bef (a i : Int) (f g : Nat) (i' : Int) (f' g' : Nat) : Bool := if kindI a < 2 then decide (i < i') else fbef f f' || (!fbef f' f && decide (kindI a = 3) && fbef g g')
end Go.Proofs.YtpmdgmnpkdoamabDoor.Vc
