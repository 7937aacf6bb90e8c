/-
  DERIVED. GIVEN WITH THE SEED: THE CARDS: each row of YtcaimbfjfibmmaaDoorRows.lean that lists a variable, with what it lists TIED to the program's text (the seventh form; the later family's looks); each row that meets fmt, with fmt's text TOLD by the authors' own Lean function (tested against real Go, not proved from fmt's source: count such statements apart). THE CARD IS WHAT COUNTS. Prove the row's statement (the work); the ties are given (YtcaimbfjfibmmaaDoorTie.lean); close each card by the builder's one call (the guide's Derived/Test/ToyasCard.lean, 'card_holds'). Laid BY PROGRAM, IN A SANDBOX (cutbox-door.mjs). By AI agents, Wed Nov 11 2026. No macro, syntax, notation, axiom, sorry.
-/
import Derived.Test.YtcaimbfjfibmmaaDoorRows
import GoSem.ClaimSeven
namespace Go.Proofs.YtcaimbfjfibmmaaDoor
namespace Rows

/-- THE TIED CARD OF 'laws.FnExactCanCast'. -/
def fnExactCanCastCard : Claim7 := { stood := { row := fnExactCanCastRow, standIns := [], harness := (true, "d4bba23c4709c158c4d1f444210549dc3b4e44b2b913ec61cf82dd255a7a4c0f"), looks := false }, kinds := [], alts := [], laidByText := true, laidKinds := [.data], laidTests := true, laidLooks := .later }
def FnExactCanCastCardSaid : Prop := Claim7.holds Tryd.pinned (.plain (OpenSpec.ofChange fnExactCanCastSpec)) fnExactCanCastCard

/-- THE TIED CARD OF 'laws.FnExactValidCell'. -/
def fnExactValidCellCard : Claim7 := { stood := { row := fnExactValidCellRow, standIns := [], harness := (true, "d4bba23c4709c158c4d1f444210549dc3b4e44b2b913ec61cf82dd255a7a4c0f"), looks := false }, kinds := [], alts := [], laidByText := true, laidKinds := [.data], laidTests := true, laidLooks := .later }
def FnExactValidCellCardSaid : Prop := Claim7.holds Tryd.pinned (.plain (OpenSpec.ofChange fnExactValidCellSpec)) fnExactValidCellCard

/-- THE SECOND FORM's CARD OF 'laws.FnExactCanCast'. -/
def fnExactCanCastUptoCard : Claim7 := { stood := { row := fnExactCanCastUptoRow, standIns := [], harness := (true, "d4bba23c4709c158c4d1f444210549dc3b4e44b2b913ec61cf82dd255a7a4c0f"), looks := false }, kinds := [], alts := [], laidByText := true, laidKinds := [.data], laidTests := true, laidLooks := .later }
def FnExactCanCastUptoCardSaid : Prop := Claim7.holds Tryd.pinned (.plain (OpenSpec.upto fnExactCanCastSpec)) fnExactCanCastUptoCard

/-- THE SECOND FORM's CARD OF 'laws.FnExactValidCell'. -/
def fnExactValidCellUptoCard : Claim7 := { stood := { row := fnExactValidCellUptoRow, standIns := [], harness := (true, "d4bba23c4709c158c4d1f444210549dc3b4e44b2b913ec61cf82dd255a7a4c0f"), looks := false }, kinds := [], alts := [], laidByText := true, laidKinds := [.data], laidTests := true, laidLooks := .later }
def FnExactValidCellUptoCardSaid : Prop := Claim7.holds Tryd.pinned (.plain (OpenSpec.upto fnExactValidCellSpec)) fnExactValidCellUptoCard
end Rows
end Go.Proofs.YtcaimbfjfibmmaaDoor
