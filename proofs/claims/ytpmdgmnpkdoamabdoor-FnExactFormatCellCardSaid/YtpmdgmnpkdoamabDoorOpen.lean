/- Proved here: a float read at a place of an argument is a float value within its width. Conditions: none beyond the reading. -/
import Derived.Test.YtpmdgmnpkdoamabDoorTable
import Derived.ChangeArms
import Derived.Lib.SmallJoins
import Derived.Laws.Cover2
namespace Go.Proofs.YtpmdgmnpkdoamabDoor.Table
section
variable {H : Type} {enc : TypeId × Value → H} {P : Program} {w : World} {base : Nat} {spare : Nat → Bool} {held : Bool}
theorem trod_float {t : TypeId} {k : FloatKind} {fuel : Nat} {cs : List Value} {x : DataW H × List MemPlace} (ht : P.underlying t = some (.float k)) (h : DataW.trod enc P w base spare held fuel t cs = some x) : ∃ b, cs = [.float k b] ∧ (Lit.float k b).wf = true := by
  cases fuel with
  | zero => simp [DataW.trod] at h
  | succ n =>
    unfold DataW.trod at h
    rw [ht] at h
    split at h <;> simp_all
end
end Go.Proofs.YtpmdgmnpkdoamabDoor.Table
