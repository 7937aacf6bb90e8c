/-
  DERIVED. GIVEN WITH THE SEED: THE CARDS: each row of YtpmdgmnpkdoamabGreatDoorRows.lean that lists a variable, with what it lists TIED to the program's text (the seventh form; the later family's looks); each row that meets fmt, with fmt's text TOLD by the authors' own Lean function (tested against real Go, not proved from fmt's source: count such statements apart). THE CARD IS WHAT COUNTS. Prove the row's statement (the work); the ties are given (YtpmdgmnpkdoamabGreatDoorTie.lean); close each card by the builder's one call (the guide's Derived/Test/ToyasCard.lean, 'card_holds'). Laid BY PROGRAM, IN A SANDBOX (cutbox-door.mjs). By AI agents, Wed Nov 11 2026. No macro, syntax, notation, axiom, sorry.
-/
import Derived.Test.YtpmdgmnpkdoamabGreatDoorRows
import GoSem.ClaimSeven
namespace Go.Proofs.YtpmdgmnpkdoamabGreatDoor
namespace Rows

/-- THE TIED CARD OF 'laws.FnExactSolve'. -/
def fnExactSolveCard : Claim7 := { stood := { row := fnExactSolveRow, standIns := [], harness := (true, "d6660d4506d8c2550ecb64a96b72def3bee918bddbc04f3dda8d85cfb4cb8dca"), looks := true }, kinds := [], alts := [], laidByText := true, laidKinds := [.data], laidTests := true, laidLooks := .later }
def FnExactSolveCardSaid : Prop := Claim7.holds Tryz.pinned (.plain (OpenSpec.ofChange fnExactSolveSpec)) fnExactSolveCard

/-- THE TIED CARD OF 'laws.FnExactSortAxis'. -/
def fnExactSortAxisCard : Claim7 := { stood := { row := fnExactSortAxisRow, standIns := [], harness := (true, "d6660d4506d8c2550ecb64a96b72def3bee918bddbc04f3dda8d85cfb4cb8dca"), looks := true }, kinds := [], alts := [], laidByText := true, laidKinds := [.data], laidTests := true, laidLooks := .later }
def FnExactSortAxisCardSaid : Prop := Claim7.holds Tryz.pinned (.plain (OpenSpec.ofChange fnExactSortAxisSpec)) fnExactSortAxisCard

/-- THE TIED CARD OF 'laws.FnCellText'. -/
def fnCellTextCard : Claim7 := { stood := { row := fnCellTextRow, standIns := [], harness := (true, "d6660d4506d8c2550ecb64a96b72def3bee918bddbc04f3dda8d85cfb4cb8dca"), looks := true }, kinds := [], alts := [], laidByText := true, laidKinds := [.data, .data, .data, .data, .sentinel, .sentinel, .data, .pinned], laidTests := true, laidLooks := .later }
def FnCellTextCardSaid : Prop := Claim7.holds Tryz.pinned (.plain (OpenSpec.ofChange fnCellTextSpec)) fnCellTextCard

/-- THE TIED CARD OF 'laws.FnExactArgSort'. -/
def fnExactArgSortCard : Claim7 := { stood := { row := fnExactArgSortRow, standIns := [], harness := (true, "d6660d4506d8c2550ecb64a96b72def3bee918bddbc04f3dda8d85cfb4cb8dca"), looks := true }, kinds := [], alts := [], laidByText := true, laidKinds := [.data], laidTests := true, laidLooks := .later }
def FnExactArgSortCardSaid : Prop := Claim7.holds Tryz.pinned (.plain (OpenSpec.ofChange fnExactArgSortSpec)) fnExactArgSortCard

/-- THE SECOND FORM's CARD OF 'laws.FnExactSolve'. -/
def fnExactSolveUptoCard : Claim7 := { stood := { row := fnExactSolveUptoRow, standIns := [], harness := (true, "d6660d4506d8c2550ecb64a96b72def3bee918bddbc04f3dda8d85cfb4cb8dca"), looks := true }, kinds := [], alts := [], laidByText := true, laidKinds := [.data], laidTests := true, laidLooks := .later }
def FnExactSolveUptoCardSaid : Prop := Claim7.holds Tryz.pinned (.plain (OpenSpec.upto fnExactSolveSpec)) fnExactSolveUptoCard

/-- THE SECOND FORM's CARD OF 'laws.FnExactSortAxis'. -/
def fnExactSortAxisUptoCard : Claim7 := { stood := { row := fnExactSortAxisUptoRow, standIns := [], harness := (true, "d6660d4506d8c2550ecb64a96b72def3bee918bddbc04f3dda8d85cfb4cb8dca"), looks := true }, kinds := [], alts := [], laidByText := true, laidKinds := [.data], laidTests := true, laidLooks := .later }
def FnExactSortAxisUptoCardSaid : Prop := Claim7.holds Tryz.pinned (.plain (OpenSpec.upto fnExactSortAxisSpec)) fnExactSortAxisUptoCard

/-- THE SECOND FORM's CARD OF 'laws.FnCellText'. -/
def fnCellTextUptoCard : Claim7 := { stood := { row := fnCellTextUptoRow, standIns := [], harness := (true, "d6660d4506d8c2550ecb64a96b72def3bee918bddbc04f3dda8d85cfb4cb8dca"), looks := true }, kinds := [], alts := [], laidByText := true, laidKinds := [.data, .data, .data, .data, .sentinel, .sentinel, .data, .pinned], laidTests := true, laidLooks := .later }
def FnCellTextUptoCardSaid : Prop := Claim7.holds Tryz.pinned (.plain (OpenSpec.upto fnCellTextSpec)) fnCellTextUptoCard

/-- THE SECOND FORM's CARD OF 'laws.FnExactArgSort'. -/
def fnExactArgSortUptoCard : Claim7 := { stood := { row := fnExactArgSortUptoRow, standIns := [], harness := (true, "d6660d4506d8c2550ecb64a96b72def3bee918bddbc04f3dda8d85cfb4cb8dca"), looks := true }, kinds := [], alts := [], laidByText := true, laidKinds := [.data], laidTests := true, laidLooks := .later }
def FnExactArgSortUptoCardSaid : Prop := Claim7.holds Tryz.pinned (.plain (OpenSpec.upto fnExactArgSortSpec)) fnExactArgSortUptoCard
end Rows
end Go.Proofs.YtpmdgmnpkdoamabGreatDoor
