/-
  DERIVED. GIVEN WITH THE SEED: THE CARDS: each row of YtpmdgmnpkdoamabDoorRows.lean that lists a variable, with what it lists TIED to the program's text (the seventh form; the later family's looks); each row that meets fmt, with fmt's text TOLD by the authors' own Lean function (tested against real Go, not proved from fmt's source: count such statements apart). THE CARD IS WHAT COUNTS. Prove the row's statement (the work); the ties are given (YtpmdgmnpkdoamabDoorTie.lean); close each card by the builder's one call (the guide's Derived/Test/ToyasCard.lean, 'card_holds'). Laid BY PROGRAM, IN A SANDBOX (cutbox-door.mjs). By AI agents, Wed Nov 11 2026. No macro, syntax, notation, axiom, sorry.
-/
import Derived.Test.YtpmdgmnpkdoamabDoorRows
import GoSem.ClaimSeven
namespace Go.Proofs.YtpmdgmnpkdoamabDoor
namespace Rows

/-- THE TIED CARD OF 'laws.FnExactCanCast'. -/
def fnExactCanCastCard : Claim7 := { stood := { row := fnExactCanCastRow, standIns := [], harness := (true, "4bf1ffdf7d9629a7045c9d7e13103b875a418a145b5d4c6d2e845673ce180978"), looks := false }, kinds := [], alts := [], laidByText := true, laidKinds := [.data], laidTests := true, laidLooks := .later }
def FnExactCanCastCardSaid : Prop := Claim7.holds Tryd.pinned (.plain (OpenSpec.ofChange fnExactCanCastSpec)) fnExactCanCastCard

/-- THE TIED CARD OF 'laws.FnExactValidCell'. -/
def fnExactValidCellCard : Claim7 := { stood := { row := fnExactValidCellRow, standIns := [], harness := (true, "4bf1ffdf7d9629a7045c9d7e13103b875a418a145b5d4c6d2e845673ce180978"), looks := false }, kinds := [], alts := [], laidByText := true, laidKinds := [.data], laidTests := true, laidLooks := .later }
def FnExactValidCellCardSaid : Prop := Claim7.holds Tryd.pinned (.plain (OpenSpec.ofChange fnExactValidCellSpec)) fnExactValidCellCard

/-- THE TIED CARD OF 'laws.FnExactBefore'. -/
def fnExactBeforeCard : Claim7 := { stood := { row := fnExactBeforeRow, standIns := [], harness := (true, "4bf1ffdf7d9629a7045c9d7e13103b875a418a145b5d4c6d2e845673ce180978"), looks := false }, kinds := [], alts := [], laidByText := true, laidKinds := [.data], laidTests := true, laidLooks := .later }
def FnExactBeforeCardSaid : Prop := Claim7.holds Tryd.pinned (.plain (OpenSpec.ofChange fnExactBeforeSpec)) fnExactBeforeCard

/-- THE TIED CARD OF 'laws.FnExactValidHeap'. -/
def fnExactValidHeapCard : Claim7 := { stood := { row := fnExactValidHeapRow, standIns := [], harness := (true, "4bf1ffdf7d9629a7045c9d7e13103b875a418a145b5d4c6d2e845673ce180978"), looks := false }, kinds := [], alts := [], laidByText := true, laidKinds := [.data], laidTests := true, laidLooks := .later }
def FnExactValidHeapCardSaid : Prop := Claim7.holds Tryd.pinned (.plain (OpenSpec.ofChange fnExactValidHeapSpec)) fnExactValidHeapCard

/-- THE TIED CARD OF 'laws.FnExactApplyUnary'. -/
def fnExactApplyUnaryCard : Claim7 := { stood := { row := fnExactApplyUnaryRow, standIns := [], harness := (true, "4bf1ffdf7d9629a7045c9d7e13103b875a418a145b5d4c6d2e845673ce180978"), looks := false }, kinds := [], alts := [], laidByText := true, laidKinds := [.data], laidTests := true, laidLooks := .later }
def FnExactApplyUnaryCardSaid : Prop := Claim7.holds Tryd.pinned (.plain (OpenSpec.ofChange fnExactApplyUnarySpec)) fnExactApplyUnaryCard

/-- THE TIED CARD OF 'laws.FnConvertBack'. -/
def fnConvertBackCard : Claim7 := { stood := { row := fnConvertBackRow, standIns := [], harness := (true, "4bf1ffdf7d9629a7045c9d7e13103b875a418a145b5d4c6d2e845673ce180978"), looks := false }, kinds := [], alts := [], laidByText := true, laidKinds := [.data], laidTests := true, laidLooks := .later }
def FnConvertBackCardSaid : Prop := Claim7.holds Tryd.pinned (.plain (OpenSpec.ofChange fnConvertBackSpec)) fnConvertBackCard

/-- THE TIED CARD OF 'laws.FnOrder'. -/
def fnOrderCard : Claim7 := { stood := { row := fnOrderRow, standIns := [], harness := (true, "4bf1ffdf7d9629a7045c9d7e13103b875a418a145b5d4c6d2e845673ce180978"), looks := false }, kinds := [], alts := [], laidByText := true, laidKinds := [.data], laidTests := true, laidLooks := .later }
def FnOrderCardSaid : Prop := Claim7.holds Tryd.pinned (.plain (OpenSpec.ofChange fnOrderSpec)) fnOrderCard

/-- THE TIED CARD OF 'laws.FnExactValidArray'. -/
def fnExactValidArrayCard : Claim7 := { stood := { row := fnExactValidArrayRow, standIns := [], harness := (true, "4bf1ffdf7d9629a7045c9d7e13103b875a418a145b5d4c6d2e845673ce180978"), looks := false }, kinds := [], alts := [], laidByText := true, laidKinds := [.data], laidTests := true, laidLooks := .later }
def FnExactValidArrayCardSaid : Prop := Claim7.holds Tryd.pinned (.plain (OpenSpec.ofChange fnExactValidArraySpec)) fnExactValidArrayCard

/-- THE TIED CARD OF 'laws.FnExactFormatCell'. -/
def fnExactFormatCellCard : Claim7 := { stood := { row := fnExactFormatCellRow, standIns := [], harness := (true, "4bf1ffdf7d9629a7045c9d7e13103b875a418a145b5d4c6d2e845673ce180978"), looks := false }, kinds := [], alts := [], laidByText := true, laidKinds := [.data, .data, .data, .data], laidTests := true, laidLooks := .later }
def FnExactFormatCellCardSaid : Prop := Claim7.holds Tryd.pinned (.plain (OpenSpec.ofChange fnExactFormatCellSpec)) fnExactFormatCellCard

/-- THE TIED CARD OF 'laws.FnExactRead'. -/
def fnExactReadCard : Claim7 := { stood := { row := fnExactReadRow, standIns := [], harness := (true, "4bf1ffdf7d9629a7045c9d7e13103b875a418a145b5d4c6d2e845673ce180978"), looks := false }, kinds := [], alts := [], laidByText := true, laidKinds := [.data], laidTests := true, laidLooks := .later }
def FnExactReadCardSaid : Prop := Claim7.holds Tryd.pinned (.plain (OpenSpec.ofChange fnExactReadSpec)) fnExactReadCard

/-- THE TIED CARD OF 'laws.FnReshapeRead'. -/
def fnReshapeReadCard : Claim7 := { stood := { row := fnReshapeReadRow, standIns := [], harness := (true, "4bf1ffdf7d9629a7045c9d7e13103b875a418a145b5d4c6d2e845673ce180978"), looks := false }, kinds := [], alts := [], laidByText := true, laidKinds := [.data], laidTests := true, laidLooks := .later }
def FnReshapeReadCardSaid : Prop := Claim7.holds Tryd.pinned (.plain (OpenSpec.ofChange fnReshapeReadSpec)) fnReshapeReadCard

/-- THE TIED CARD OF 'laws.FnTakePut'. -/
def fnTakePutCard : Claim7 := { stood := { row := fnTakePutRow, standIns := [], harness := (true, "4bf1ffdf7d9629a7045c9d7e13103b875a418a145b5d4c6d2e845673ce180978"), looks := false }, kinds := [], alts := [], laidByText := true, laidKinds := [.data], laidTests := true, laidLooks := .later }
def FnTakePutCardSaid : Prop := Claim7.holds Tryd.pinned (.plain (OpenSpec.ofChange fnTakePutSpec)) fnTakePutCard

/-- THE SECOND FORM's CARD OF 'laws.FnExactCanCast'. -/
def fnExactCanCastUptoCard : Claim7 := { stood := { row := fnExactCanCastUptoRow, standIns := [], harness := (true, "4bf1ffdf7d9629a7045c9d7e13103b875a418a145b5d4c6d2e845673ce180978"), looks := false }, kinds := [], alts := [], laidByText := true, laidKinds := [.data], laidTests := true, laidLooks := .later }
def FnExactCanCastUptoCardSaid : Prop := Claim7.holds Tryd.pinned (.plain (OpenSpec.upto fnExactCanCastSpec)) fnExactCanCastUptoCard

/-- THE SECOND FORM's CARD OF 'laws.FnExactValidCell'. -/
def fnExactValidCellUptoCard : Claim7 := { stood := { row := fnExactValidCellUptoRow, standIns := [], harness := (true, "4bf1ffdf7d9629a7045c9d7e13103b875a418a145b5d4c6d2e845673ce180978"), looks := false }, kinds := [], alts := [], laidByText := true, laidKinds := [.data], laidTests := true, laidLooks := .later }
def FnExactValidCellUptoCardSaid : Prop := Claim7.holds Tryd.pinned (.plain (OpenSpec.upto fnExactValidCellSpec)) fnExactValidCellUptoCard

/-- THE SECOND FORM's CARD OF 'laws.FnExactBefore'. -/
def fnExactBeforeUptoCard : Claim7 := { stood := { row := fnExactBeforeUptoRow, standIns := [], harness := (true, "4bf1ffdf7d9629a7045c9d7e13103b875a418a145b5d4c6d2e845673ce180978"), looks := false }, kinds := [], alts := [], laidByText := true, laidKinds := [.data], laidTests := true, laidLooks := .later }
def FnExactBeforeUptoCardSaid : Prop := Claim7.holds Tryd.pinned (.plain (OpenSpec.upto fnExactBeforeSpec)) fnExactBeforeUptoCard

/-- THE SECOND FORM's CARD OF 'laws.FnExactValidHeap'. -/
def fnExactValidHeapUptoCard : Claim7 := { stood := { row := fnExactValidHeapUptoRow, standIns := [], harness := (true, "4bf1ffdf7d9629a7045c9d7e13103b875a418a145b5d4c6d2e845673ce180978"), looks := false }, kinds := [], alts := [], laidByText := true, laidKinds := [.data], laidTests := true, laidLooks := .later }
def FnExactValidHeapUptoCardSaid : Prop := Claim7.holds Tryd.pinned (.plain (OpenSpec.upto fnExactValidHeapSpec)) fnExactValidHeapUptoCard

/-- THE SECOND FORM's CARD OF 'laws.FnExactApplyUnary'. -/
def fnExactApplyUnaryUptoCard : Claim7 := { stood := { row := fnExactApplyUnaryUptoRow, standIns := [], harness := (true, "4bf1ffdf7d9629a7045c9d7e13103b875a418a145b5d4c6d2e845673ce180978"), looks := false }, kinds := [], alts := [], laidByText := true, laidKinds := [.data], laidTests := true, laidLooks := .later }
def FnExactApplyUnaryUptoCardSaid : Prop := Claim7.holds Tryd.pinned (.plain (OpenSpec.upto fnExactApplyUnarySpec)) fnExactApplyUnaryUptoCard

/-- THE SECOND FORM's CARD OF 'laws.FnConvertBack'. -/
def fnConvertBackUptoCard : Claim7 := { stood := { row := fnConvertBackUptoRow, standIns := [], harness := (true, "4bf1ffdf7d9629a7045c9d7e13103b875a418a145b5d4c6d2e845673ce180978"), looks := false }, kinds := [], alts := [], laidByText := true, laidKinds := [.data], laidTests := true, laidLooks := .later }
def FnConvertBackUptoCardSaid : Prop := Claim7.holds Tryd.pinned (.plain (OpenSpec.upto fnConvertBackSpec)) fnConvertBackUptoCard

/-- THE SECOND FORM's CARD OF 'laws.FnOrder'. -/
def fnOrderUptoCard : Claim7 := { stood := { row := fnOrderUptoRow, standIns := [], harness := (true, "4bf1ffdf7d9629a7045c9d7e13103b875a418a145b5d4c6d2e845673ce180978"), looks := false }, kinds := [], alts := [], laidByText := true, laidKinds := [.data], laidTests := true, laidLooks := .later }
def FnOrderUptoCardSaid : Prop := Claim7.holds Tryd.pinned (.plain (OpenSpec.upto fnOrderSpec)) fnOrderUptoCard

/-- THE SECOND FORM's CARD OF 'laws.FnExactValidArray'. -/
def fnExactValidArrayUptoCard : Claim7 := { stood := { row := fnExactValidArrayUptoRow, standIns := [], harness := (true, "4bf1ffdf7d9629a7045c9d7e13103b875a418a145b5d4c6d2e845673ce180978"), looks := false }, kinds := [], alts := [], laidByText := true, laidKinds := [.data], laidTests := true, laidLooks := .later }
def FnExactValidArrayUptoCardSaid : Prop := Claim7.holds Tryd.pinned (.plain (OpenSpec.upto fnExactValidArraySpec)) fnExactValidArrayUptoCard

/-- THE SECOND FORM's CARD OF 'laws.FnExactFormatCell'. -/
def fnExactFormatCellUptoCard : Claim7 := { stood := { row := fnExactFormatCellUptoRow, standIns := [], harness := (true, "4bf1ffdf7d9629a7045c9d7e13103b875a418a145b5d4c6d2e845673ce180978"), looks := false }, kinds := [], alts := [], laidByText := true, laidKinds := [.data, .data, .data, .data], laidTests := true, laidLooks := .later }
def FnExactFormatCellUptoCardSaid : Prop := Claim7.holds Tryd.pinned (.plain (OpenSpec.upto fnExactFormatCellSpec)) fnExactFormatCellUptoCard

/-- THE SECOND FORM's CARD OF 'laws.FnExactRead'. -/
def fnExactReadUptoCard : Claim7 := { stood := { row := fnExactReadUptoRow, standIns := [], harness := (true, "4bf1ffdf7d9629a7045c9d7e13103b875a418a145b5d4c6d2e845673ce180978"), looks := false }, kinds := [], alts := [], laidByText := true, laidKinds := [.data], laidTests := true, laidLooks := .later }
def FnExactReadUptoCardSaid : Prop := Claim7.holds Tryd.pinned (.plain (OpenSpec.upto fnExactReadSpec)) fnExactReadUptoCard

/-- THE SECOND FORM's CARD OF 'laws.FnReshapeRead'. -/
def fnReshapeReadUptoCard : Claim7 := { stood := { row := fnReshapeReadUptoRow, standIns := [], harness := (true, "4bf1ffdf7d9629a7045c9d7e13103b875a418a145b5d4c6d2e845673ce180978"), looks := false }, kinds := [], alts := [], laidByText := true, laidKinds := [.data], laidTests := true, laidLooks := .later }
def FnReshapeReadUptoCardSaid : Prop := Claim7.holds Tryd.pinned (.plain (OpenSpec.upto fnReshapeReadSpec)) fnReshapeReadUptoCard

/-- THE SECOND FORM's CARD OF 'laws.FnTakePut'. -/
def fnTakePutUptoCard : Claim7 := { stood := { row := fnTakePutUptoRow, standIns := [], harness := (true, "4bf1ffdf7d9629a7045c9d7e13103b875a418a145b5d4c6d2e845673ce180978"), looks := false }, kinds := [], alts := [], laidByText := true, laidKinds := [.data], laidTests := true, laidLooks := .later }
def FnTakePutUptoCardSaid : Prop := Claim7.holds Tryd.pinned (.plain (OpenSpec.upto fnTakePutSpec)) fnTakePutUptoCard
end Rows
end Go.Proofs.YtpmdgmnpkdoamabDoor
