/- Proved here: what impl.writable answers: whether the places of a view's elements differ. Conditions: as in the Places text, or the count of the shape is 0. -/
import Derived.Test.YtpmdgmnpkdoamabDoorRdPlc3
namespace Go.Proofs.YtpmdgmnpkdoamabDoor.Odo
open Go.RowKit Go.Shelf Rf Go.Proofs.YtpmdgmnpkdoamabDoorW.PrintWords Go.Proofs.YtpmdgmnpkdoamabDoorW.PrintLast Go.Proofs.YtpmdgmnpkdoamabDoorW.PrintMore
attribute [local go_sem] Oper.semAt_some wide_fn
def mkN (m : Nat) (pre : List Int) : Array Value := ((List.range m).map fun (i : Nat) => Value.bool (decide ((i : Int) ∈ pre))).toArray
theorem blk_T {β : Type} (T m k : Nat) (t : TypeId) (f : β → Array Value) (ht : t ≠ T) : OwnT T m (fun (s : β) W => W.heap[k]? = some (.cells (f s) t (0, 0))) := by
 intro s X Y row h hg hrow
 rw [hg.block k (Array.getElem?_eq_some_iff.1 h).1 (fun e' => ?_)]
 ·exact h
 ·obtain ⟨_, o, ho, hc⟩ := hrow k e'.symm
  rw [show X.heap[k]? = _ from h] at ho; cases ho
  rcases hc with hc | ⟨cs, hc⟩
  ·cases hc
  ·cases hc; exact ht rfl
theorem results_cell {P : Program} {fn : Func} {t : Tmp} (h : fn.results = #[.cell t 4]) (hu : P.underlying 4 = some .bool) (tmps : Array Value) (w : World) (ad : Addr) (b : Bool) (ht : tmps.getD t undef = .pointer (some ad)) (hc : w.cell? ad = some (.bool b)) :
  (results fn tmps).run P w = .ok (.bool b) w := by
 unfold results
 rw [h]
 rw [Array.getD_eq_getD_getElem?] at ht
 have hu' := run_underlying hu w
 simp [ht, loadVar, asAddr, isAgg, hu', hc]
theorem pure_T {β : Type} (T m : Nat) (p : β → Prop) : OwnT T m (fun (s : β) (_ : World) => p s) := fun _ _ _ _ h _ _ => h
end Go.Proofs.YtpmdgmnpkdoamabDoor.Odo
