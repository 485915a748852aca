/-
  DERIVED. GIVEN WITH THE SEED: THE CARDS: each row of YtppefinpekhbeaaGreatDoorRows.lean that lists a variable, with what it lists TIED to the program's text (the seventh form; the later family's looks); each row that meets fmt, with fmt's text TOLD by the authors' own Lean function (tested against real Go, not proved from fmt's source: count such statements apart). THE CARD IS WHAT COUNTS. Prove the row's statement (the work); the ties are given (YtppefinpekhbeaaGreatDoorTie.lean); close each card by the builder's one call (the guide's Derived/Test/ToyasCard.lean, 'card_holds'). Laid BY PROGRAM, IN A SANDBOX (cutbox-door.mjs). By AI agents, Wed Nov 11 2026. No macro, syntax, notation, axiom, sorry.
-/
import Derived.Test.YtppefinpekhbeaaGreatDoorRows
import GoSem.ClaimSeven
namespace Go.Proofs.YtppefinpekhbeaaGreatDoor
namespace Rows

/-- THE TIED CARD OF 'laws.FnStmtSame'. -/
def fnStmtSameCard : Claim7 := { stood := { row := fnStmtSameRow, standIns := [], harness := (true, "e9f9ad776593b9c999f79e09050c3328ef0f9e2b1673aeec678d3c368c14228b"), looks := true }, kinds := [], alts := [], laidByText := true, laidKinds := [.data, .data, .data, .sentinel, .sentinel, .widerDeep], laidTests := true, laidLooks := .later }
def FnStmtSameCardSaid : Prop := Claim7.holds Tryz.pinned (.plain (OpenSpec.ofChange fnStmtSameSpec)) fnStmtSameCard

/-- THE TIED CARD OF 'laws.FnExactBareOk'. -/
def fnExactBareOkCard : Claim7 := { stood := { row := fnExactBareOkRow, standIns := [], harness := (true, "e9f9ad776593b9c999f79e09050c3328ef0f9e2b1673aeec678d3c368c14228b"), looks := true }, kinds := [], alts := [], laidByText := true, laidKinds := [.data, .data, .data, .sentinel, .sentinel, .widerDeep], laidTests := true, laidLooks := .later }
def FnExactBareOkCardSaid : Prop := Claim7.holds Tryz.pinned (.plain (OpenSpec.ofChange fnExactBareOkSpec)) fnExactBareOkCard

/-- THE TIED CARD OF 'laws.FnExactStmtNames'. -/
def fnExactStmtNamesCard : Claim7 := { stood := { row := fnExactStmtNamesRow, standIns := [], harness := (true, "e9f9ad776593b9c999f79e09050c3328ef0f9e2b1673aeec678d3c368c14228b"), looks := true }, kinds := [], alts := [], laidByText := true, laidKinds := [.data, .data, .data, .sentinel, .sentinel, .widerDeep], laidTests := true, laidLooks := .later }
def FnExactStmtNamesCardSaid : Prop := Claim7.holds Tryz.pinned (.plain (OpenSpec.ofChange fnExactStmtNamesSpec)) fnExactStmtNamesCard

/-- THE TIED CARD OF 'laws.FnStmtNames'. -/
def fnStmtNamesCard : Claim7 := { stood := { row := fnStmtNamesRow, standIns := [], harness := (true, "e9f9ad776593b9c999f79e09050c3328ef0f9e2b1673aeec678d3c368c14228b"), looks := true }, kinds := [], alts := [], laidByText := true, laidKinds := [.data, .data, .data, .sentinel, .sentinel, .widerDeep], laidTests := true, laidLooks := .later }
def FnStmtNamesCardSaid : Prop := Claim7.holds Tryz.pinned (.plain (OpenSpec.ofChange fnStmtNamesSpec)) fnStmtNamesCard

/-- THE TIED CARD OF 'laws.FnStmtUses'. -/
def fnStmtUsesCard : Claim7 := { stood := { row := fnStmtUsesRow, standIns := [], harness := (true, "e9f9ad776593b9c999f79e09050c3328ef0f9e2b1673aeec678d3c368c14228b"), looks := true }, kinds := [], alts := [], laidByText := true, laidKinds := [.data, .data, .data, .sentinel, .sentinel, .widerDeep], laidTests := true, laidLooks := .later }
def FnStmtUsesCardSaid : Prop := Claim7.holds Tryz.pinned (.plain (OpenSpec.ofChange fnStmtUsesSpec)) fnStmtUsesCard

/-- THE SECOND FORM's CARD OF 'laws.FnStmtSame'. -/
def fnStmtSameUptoCard : Claim7 := { stood := { row := fnStmtSameUptoRow, standIns := [], harness := (true, "e9f9ad776593b9c999f79e09050c3328ef0f9e2b1673aeec678d3c368c14228b"), looks := true }, kinds := [], alts := [], laidByText := true, laidKinds := [.data, .data, .data, .sentinel, .sentinel, .widerDeep], laidTests := true, laidLooks := .later }
def FnStmtSameUptoCardSaid : Prop := Claim7.holds Tryz.pinned (.plain (OpenSpec.upto fnStmtSameSpec)) fnStmtSameUptoCard

/-- THE SECOND FORM's CARD OF 'laws.FnExactBareOk'. -/
def fnExactBareOkUptoCard : Claim7 := { stood := { row := fnExactBareOkUptoRow, standIns := [], harness := (true, "e9f9ad776593b9c999f79e09050c3328ef0f9e2b1673aeec678d3c368c14228b"), looks := true }, kinds := [], alts := [], laidByText := true, laidKinds := [.data, .data, .data, .sentinel, .sentinel, .widerDeep], laidTests := true, laidLooks := .later }
def FnExactBareOkUptoCardSaid : Prop := Claim7.holds Tryz.pinned (.plain (OpenSpec.upto fnExactBareOkSpec)) fnExactBareOkUptoCard

/-- THE SECOND FORM's CARD OF 'laws.FnExactStmtNames'. -/
def fnExactStmtNamesUptoCard : Claim7 := { stood := { row := fnExactStmtNamesUptoRow, standIns := [], harness := (true, "e9f9ad776593b9c999f79e09050c3328ef0f9e2b1673aeec678d3c368c14228b"), looks := true }, kinds := [], alts := [], laidByText := true, laidKinds := [.data, .data, .data, .sentinel, .sentinel, .widerDeep], laidTests := true, laidLooks := .later }
def FnExactStmtNamesUptoCardSaid : Prop := Claim7.holds Tryz.pinned (.plain (OpenSpec.upto fnExactStmtNamesSpec)) fnExactStmtNamesUptoCard

/-- THE SECOND FORM's CARD OF 'laws.FnStmtNames'. -/
def fnStmtNamesUptoCard : Claim7 := { stood := { row := fnStmtNamesUptoRow, standIns := [], harness := (true, "e9f9ad776593b9c999f79e09050c3328ef0f9e2b1673aeec678d3c368c14228b"), looks := true }, kinds := [], alts := [], laidByText := true, laidKinds := [.data, .data, .data, .sentinel, .sentinel, .widerDeep], laidTests := true, laidLooks := .later }
def FnStmtNamesUptoCardSaid : Prop := Claim7.holds Tryz.pinned (.plain (OpenSpec.upto fnStmtNamesSpec)) fnStmtNamesUptoCard

/-- THE SECOND FORM's CARD OF 'laws.FnStmtUses'. -/
def fnStmtUsesUptoCard : Claim7 := { stood := { row := fnStmtUsesUptoRow, standIns := [], harness := (true, "e9f9ad776593b9c999f79e09050c3328ef0f9e2b1673aeec678d3c368c14228b"), looks := true }, kinds := [], alts := [], laidByText := true, laidKinds := [.data, .data, .data, .sentinel, .sentinel, .widerDeep], laidTests := true, laidLooks := .later }
def FnStmtUsesUptoCardSaid : Prop := Claim7.holds Tryz.pinned (.plain (OpenSpec.upto fnStmtUsesSpec)) fnStmtUsesUptoCard
end Rows
end Go.Proofs.YtppefinpekhbeaaGreatDoor
