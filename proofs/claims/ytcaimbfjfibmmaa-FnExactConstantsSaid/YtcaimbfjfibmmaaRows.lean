/-
  No cell of these rows narrows 'for every input' (looked for: loops, veiled, ifaces, maps, wideKeys, modest, calm, conditions, laid).
  DERIVED. THE GIVEN ROWS OF THIS SEAT. 4 by the template 'for every input the law returns true; each argument reads behind the call as it read before'; 0 by the template 'total and deterministic' (their statements: YtcaimbfjfibmmaaTotals.lean).
  GIVEN WITH THE SEED: the statements are not yours to turn. If you find one false, say at which input.
  Laid BY PROGRAM, IN A SANDBOX (cutbox-rows.mjs): the forced cells as the released guide's own fill.sh prints them over the translation 1542e67cd5941b5f… (all of the seat's roots in one cut). By AI agents, Wed Nov 11 2026. No macro, syntax, notation, axiom, sorry.
-/
import Derived.Test.YtcaimbfjfibmmaaChecked
import GoSem.Claim
import GoSem.ClaimJoined
import GoSem.ClaimMapViews
import Derived.JoinedTies
import Derived.KernelRfl
namespace Go.Proofs.Ytcaimbfjfibmmaa
/- THE CELL 'sum', in the pinned program and in every row, IS THE sha256 OF THE DUMP (.gsa) THAT YtcaimbfjfibmmaaProg.lean LOADS. Nothing in Lean hashes anything: it is a label: what it is worth is what the hold of that sum in a sandbox is worth. -/
noncomputable def Try.pinned : Pinned := { name := "ytcaimbfjfibmmaa", sum := "1542e67cd5941b5f3e5b7d6b329bcfedd642e04b0cb2e133838d9685e8e38500", checked := Try.checked }
namespace Rows
def none {H : Type} : Left H := { results := [], args := [] }

/-- 'laws.FnExactConstants': WHATEVER THE INPUT: true; the input reads as it did. -/
def fnExactConstantsSpec : ChangeSpec := { name := "fnExactConstants", fn := fun _ => fun
  | [] => { results := [.lit (.bool true)], args := [] }
  | _ => none }
def fnExactConstantsRow : OpenClaim := { program := "ytcaimbfjfibmmaa", sum := "1542e67cd5941b5f3e5b7d6b329bcfedd642e04b0cb2e133838d9685e8e38500", func := "loop.example/s16388/laws.FnExactConstants", spec := "fnExactConstants", apart := false }
def FnExactConstantsSaid : Prop := fnExactConstantsRow.holds Try.pinned (OpenSpec.ofChange fnExactConstantsSpec)

/-- ITS FALSE NEIGHBOUR: 'it returns false'. Refute it at one input. -/
def fnExactConstantsWrong : ChangeSpec := { name := "fnExactConstants", fn := fun _ => fun
  | [] => { results := [.lit (.bool false)], args := [] }
  | _ => none }
def FnExactConstantsWrongFalsely : Prop := fnExactConstantsRow.holds Try.pinned (OpenSpec.ofChange fnExactConstantsWrong)

/-- 'laws.FnExactRoundBytes': WHATEVER THE INPUT: true; the input reads as it did. -/
def fnExactRoundBytesSpec : ChangeSpec := { name := "fnExactRoundBytes", fn := fun _ => fun
  | [d] => { results := [.lit (.bool true)], args := [d] }
  | _ => none }
def fnExactRoundBytesRow : OpenClaim := { program := "ytcaimbfjfibmmaa", sum := "1542e67cd5941b5f3e5b7d6b329bcfedd642e04b0cb2e133838d9685e8e38500", func := "loop.example/s16388/laws.FnExactRoundBytes", spec := "fnExactRoundBytes", apart := false }
def FnExactRoundBytesSaid : Prop := fnExactRoundBytesRow.holds Try.pinned (OpenSpec.ofChange fnExactRoundBytesSpec)

/-- ITS FALSE NEIGHBOUR: 'it returns false'. Refute it at one input. -/
def fnExactRoundBytesWrong : ChangeSpec := { name := "fnExactRoundBytes", fn := fun _ => fun
  | [d] => { results := [.lit (.bool false)], args := [d] }
  | _ => none }
def FnExactRoundBytesWrongFalsely : Prop := fnExactRoundBytesRow.holds Try.pinned (OpenSpec.ofChange fnExactRoundBytesWrong)

/-- 'laws.FnExactPromote': WHATEVER THE INPUT: true; the input reads as it did. -/
def fnExactPromoteSpec : ChangeSpec := { name := "fnExactPromote", fn := fun _ => fun
  | [d1, d2] => { results := [.lit (.bool true)], args := [d1, d2] }
  | _ => none }
def fnExactPromoteRow : OpenClaim := { program := "ytcaimbfjfibmmaa", sum := "1542e67cd5941b5f3e5b7d6b329bcfedd642e04b0cb2e133838d9685e8e38500", func := "loop.example/s16388/laws.FnExactPromote", spec := "fnExactPromote", apart := false }
def FnExactPromoteSaid : Prop := fnExactPromoteRow.holds Try.pinned (OpenSpec.ofChange fnExactPromoteSpec)

/-- ITS FALSE NEIGHBOUR: 'it returns false'. Refute it at one input. -/
def fnExactPromoteWrong : ChangeSpec := { name := "fnExactPromote", fn := fun _ => fun
  | [d1, d2] => { results := [.lit (.bool false)], args := [d1, d2] }
  | _ => none }
def FnExactPromoteWrongFalsely : Prop := fnExactPromoteRow.holds Try.pinned (OpenSpec.ofChange fnExactPromoteWrong)

/-- 'laws.FnExactValidView': WHATEVER THE INPUT: true; the input reads as it did. -/
def fnExactValidViewSpec : ChangeSpec := { name := "fnExactValidView", fn := fun _ => fun
  | [d] => { results := [.lit (.bool true)], args := [d] }
  | _ => none }
def fnExactValidViewRow : OpenClaim := { program := "ytcaimbfjfibmmaa", sum := "1542e67cd5941b5f3e5b7d6b329bcfedd642e04b0cb2e133838d9685e8e38500", func := "loop.example/s16388/laws.FnExactValidView", spec := "fnExactValidView", recurses := true, apart := false }
def FnExactValidViewSaid : Prop := fnExactValidViewRow.holds Try.pinned (OpenSpec.ofChange fnExactValidViewSpec)

/-- ITS FALSE NEIGHBOUR: 'it returns false'. Refute it at one input. -/
def fnExactValidViewWrong : ChangeSpec := { name := "fnExactValidView", fn := fun _ => fun
  | [d] => { results := [.lit (.bool false)], args := [d] }
  | _ => none }
def FnExactValidViewWrongFalsely : Prop := fnExactValidViewRow.holds Try.pinned (OpenSpec.ofChange fnExactValidViewWrong)

/- THE SECOND FORM. 'bulk': how many values and letters a reading holds, each counted each time it is reached (what is shared counts as often as it is met; a slice's spare places count too). A statement '..UptoSaid' is the law's where the arguments, and the package variables that the reading takes, are together of bulk at most 1048576: NARROWER than '..Said'. Prove '..Said' where nothing that the law and all that it calls make is longer than what came in: it says more and counts as full. Else prove '..UptoSaid'. A law counts once. -/
mutual
def uptoBulk {H : Type} : DataW H → Nat
  | .lit (.string bytes) => bytes.length + 1
  | .lit _ => 1
  | .nil => 1
  | .ptr d => uptoBulk d + 1
  | .slice elems spare => uptoBulkAll elems + uptoBulkAll spare + 1
  | .agg parts => uptoBulkAll parts + 1
  | .iface _ d => uptoBulk d + 1
  | .map entries => uptoBulkEntries entries + 1
  | .held _ => 1
def uptoBulkAll {H : Type} : List (DataW H) → Nat
  | [] => 0
  | d :: r => uptoBulk d + uptoBulkAll r
def uptoBulkEntries {H : Type} : List (Lit × DataW H) → Nat
  | [] => 0
  | x :: r => uptoBulkEntry x + uptoBulkEntries r
def uptoBulkEntry {H : Type} : Lit × DataW H → Nat
  | (.string bytes, d) => bytes.length + uptoBulk d + 1
  | (_, d) => uptoBulk d + 1
 end
def uptoSmall : (H : Type) → List (DataW H) → Bool := fun _ ds => decide (uptoBulkAll ds ≤ 1048576)
def OpenSpec.upto (s : _root_.Go.ChangeSpec) : _root_.Go.OpenSpec := { _root_.Go.OpenSpec.ofChange s with cond := some uptoSmall }

/-- 'laws.FnExactConstants', WHERE WHAT IT READS IS OF BULK AT MOST 1048576: true; the input reads as it did. -/
def fnExactConstantsUptoRow : OpenClaim := { program := "ytcaimbfjfibmmaa", sum := "1542e67cd5941b5f3e5b7d6b329bcfedd642e04b0cb2e133838d9685e8e38500", func := "loop.example/s16388/laws.FnExactConstants", spec := "fnExactConstants", apart := false, narrowed := true }
def FnExactConstantsUptoSaid : Prop := fnExactConstantsUptoRow.holds Try.pinned (OpenSpec.upto fnExactConstantsSpec)

/-- 'laws.FnExactRoundBytes', WHERE WHAT IT READS IS OF BULK AT MOST 1048576: true; the input reads as it did. -/
def fnExactRoundBytesUptoRow : OpenClaim := { program := "ytcaimbfjfibmmaa", sum := "1542e67cd5941b5f3e5b7d6b329bcfedd642e04b0cb2e133838d9685e8e38500", func := "loop.example/s16388/laws.FnExactRoundBytes", spec := "fnExactRoundBytes", apart := false, narrowed := true }
def FnExactRoundBytesUptoSaid : Prop := fnExactRoundBytesUptoRow.holds Try.pinned (OpenSpec.upto fnExactRoundBytesSpec)

/-- 'laws.FnExactPromote', WHERE WHAT IT READS IS OF BULK AT MOST 1048576: true; the input reads as it did. -/
def fnExactPromoteUptoRow : OpenClaim := { program := "ytcaimbfjfibmmaa", sum := "1542e67cd5941b5f3e5b7d6b329bcfedd642e04b0cb2e133838d9685e8e38500", func := "loop.example/s16388/laws.FnExactPromote", spec := "fnExactPromote", apart := false, narrowed := true }
def FnExactPromoteUptoSaid : Prop := fnExactPromoteUptoRow.holds Try.pinned (OpenSpec.upto fnExactPromoteSpec)

/-- 'laws.FnExactValidView', WHERE WHAT IT READS IS OF BULK AT MOST 1048576: true; the input reads as it did. -/
def fnExactValidViewUptoRow : OpenClaim := { program := "ytcaimbfjfibmmaa", sum := "1542e67cd5941b5f3e5b7d6b329bcfedd642e04b0cb2e133838d9685e8e38500", func := "loop.example/s16388/laws.FnExactValidView", spec := "fnExactValidView", recurses := true, apart := false, narrowed := true }
def FnExactValidViewUptoSaid : Prop := fnExactValidViewUptoRow.holds Try.pinned (OpenSpec.upto fnExactValidViewSpec)

end Rows
end Go.Proofs.Ytcaimbfjfibmmaa
