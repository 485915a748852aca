/-
  DERIVED. GIVEN WITH THE SEED: THE CARDS: each row of YtgakjhaepdigpaaGreatDoorRows.lean that lists a variable, with what it lists TIED to the program's text (the seventh form; the later family's looks); each row that meets fmt, with fmt's text TOLD by the authors' own Lean function (tested against real Go, not proved from fmt's source: count such statements apart). THE CARD IS WHAT COUNTS. Prove the row's statement (the work); the ties are given (YtgakjhaepdigpaaGreatDoorTie.lean); close each card by the builder's one call (the guide's Derived/Test/ToyasCard.lean, 'card_holds'). Laid BY PROGRAM, IN A SANDBOX (cutbox-door.mjs). By AI agents, Wed Nov 11 2026. No macro, syntax, notation, axiom, sorry.
-/
import Derived.Test.YtgakjhaepdigpaaGreatDoorRows
import GoSem.ClaimSeven
namespace Go.Proofs.YtgakjhaepdigpaaGreatDoor
namespace Rows

/-- THE TIED CARD OF 'laws.FnExactStmtRead'. -/
def fnExactStmtReadCard : Claim7 := { stood := { row := fnExactStmtReadRow, standIns := [], harness := (true, "232812528fbf87a0ae976a6391f857d578174b3b629c4bec834df97803dfdcdb"), looks := true }, kinds := [], alts := [], laidByText := true, laidKinds := [.data, .data, .data, .sentinel, .sentinel, .widerDeep], laidTests := true, laidLooks := .later }
def FnExactStmtReadCardSaid : Prop := Claim7.holds Tryz.pinned (.plain (OpenSpec.ofChange fnExactStmtReadSpec)) fnExactStmtReadCard

/-- THE TIED CARD OF 'laws.FnStmt'. -/
def fnStmtCard : Claim7 := { stood := { row := fnStmtRow, standIns := [], harness := (true, "232812528fbf87a0ae976a6391f857d578174b3b629c4bec834df97803dfdcdb"), looks := true }, kinds := [], alts := [], laidByText := true, laidKinds := [.data, .data, .data, .sentinel, .sentinel, .widerDeep], laidTests := true, laidLooks := .later }
def FnStmtCardSaid : Prop := Claim7.holds Tryz.pinned (.plain (OpenSpec.ofChange fnStmtSpec)) fnStmtCard

/-- THE TIED CARD OF 'laws.FnStmtWords'. -/
def fnStmtWordsCard : Claim7 := { stood := { row := fnStmtWordsRow, standIns := [], harness := (true, "232812528fbf87a0ae976a6391f857d578174b3b629c4bec834df97803dfdcdb"), looks := true }, kinds := [], alts := [], laidByText := true, laidKinds := [.data, .data, .data, .sentinel, .sentinel, .widerDeep], laidTests := true, laidLooks := .later }
def FnStmtWordsCardSaid : Prop := Claim7.holds Tryz.pinned (.plain (OpenSpec.ofChange fnStmtWordsSpec)) fnStmtWordsCard

/-- THE TIED CARD OF 'laws.FnStmtNames'. -/
def fnStmtNamesCard : Claim7 := { stood := { row := fnStmtNamesRow, standIns := [], harness := (true, "232812528fbf87a0ae976a6391f857d578174b3b629c4bec834df97803dfdcdb"), looks := true }, kinds := [], alts := [], laidByText := true, laidKinds := [.data, .data, .data, .sentinel, .sentinel, .widerDeep], laidTests := true, laidLooks := .later }
def FnStmtNamesCardSaid : Prop := Claim7.holds Tryz.pinned (.plain (OpenSpec.ofChange fnStmtNamesSpec)) fnStmtNamesCard

/-- THE TIED CARD OF 'laws.FnExactBareOk'. -/
def fnExactBareOkCard : Claim7 := { stood := { row := fnExactBareOkRow, standIns := [], harness := (true, "232812528fbf87a0ae976a6391f857d578174b3b629c4bec834df97803dfdcdb"), looks := true }, kinds := [], alts := [], laidByText := true, laidKinds := [.data, .data, .data, .sentinel, .sentinel, .widerDeep], laidTests := true, laidLooks := .later }
def FnExactBareOkCardSaid : Prop := Claim7.holds Tryz.pinned (.plain (OpenSpec.ofChange fnExactBareOkSpec)) fnExactBareOkCard

/-- THE TIED CARD OF 'laws.FnProgRead'. -/
def fnProgReadCard : Claim7 := { stood := { row := fnProgReadRow, standIns := [], harness := (true, "232812528fbf87a0ae976a6391f857d578174b3b629c4bec834df97803dfdcdb"), looks := true }, kinds := [], alts := [], laidByText := true, laidKinds := [.data, .data, .data, .data, .sentinel, .sentinel, .widerDeep, .pinned], laidTests := true, laidLooks := .later }
def FnProgReadCardSaid : Prop := Claim7.holds Tryz.pinned (.plain (OpenSpec.ofChange fnProgReadSpec)) fnProgReadCard

/-- THE TIED CARD OF 'laws.FnExactProgRead'. -/
def fnExactProgReadCard : Claim7 := { stood := { row := fnExactProgReadRow, standIns := [], harness := (true, "232812528fbf87a0ae976a6391f857d578174b3b629c4bec834df97803dfdcdb"), looks := true }, kinds := [], alts := [], laidByText := true, laidKinds := [.data, .data, .data, .data, .sentinel, .sentinel, .widerDeep, .pinned], laidTests := true, laidLooks := .later }
def FnExactProgReadCardSaid : Prop := Claim7.holds Tryz.pinned (.plain (OpenSpec.ofChange fnExactProgReadSpec)) fnExactProgReadCard

/-- THE TIED CARD OF 'laws.FnProg'. -/
def fnProgCard : Claim7 := { stood := { row := fnProgRow, standIns := [], harness := (true, "232812528fbf87a0ae976a6391f857d578174b3b629c4bec834df97803dfdcdb"), looks := true }, kinds := [], alts := [], laidByText := true, laidKinds := [.data, .data, .data, .data, .sentinel, .sentinel, .widerDeep, .pinned], laidTests := true, laidLooks := .later }
def FnProgCardSaid : Prop := Claim7.holds Tryz.pinned (.plain (OpenSpec.ofChange fnProgSpec)) fnProgCard

/-- THE TIED CARD OF 'laws.FnProgCat'. -/
def fnProgCatCard : Claim7 := { stood := { row := fnProgCatRow, standIns := [], harness := (true, "232812528fbf87a0ae976a6391f857d578174b3b629c4bec834df97803dfdcdb"), looks := true }, kinds := [], alts := [], laidByText := true, laidKinds := [.data, .data, .data, .data, .sentinel, .sentinel, .widerDeep, .pinned], laidTests := true, laidLooks := .later }
def FnProgCatCardSaid : Prop := Claim7.holds Tryz.pinned (.plain (OpenSpec.ofChange fnProgCatSpec)) fnProgCatCard

/-- THE SECOND FORM's CARD OF 'laws.FnExactStmtRead'. -/
def fnExactStmtReadUptoCard : Claim7 := { stood := { row := fnExactStmtReadUptoRow, standIns := [], harness := (true, "232812528fbf87a0ae976a6391f857d578174b3b629c4bec834df97803dfdcdb"), looks := true }, kinds := [], alts := [], laidByText := true, laidKinds := [.data, .data, .data, .sentinel, .sentinel, .widerDeep], laidTests := true, laidLooks := .later }
def FnExactStmtReadUptoCardSaid : Prop := Claim7.holds Tryz.pinned (.plain (OpenSpec.upto fnExactStmtReadSpec)) fnExactStmtReadUptoCard

/-- THE SECOND FORM's CARD OF 'laws.FnStmt'. -/
def fnStmtUptoCard : Claim7 := { stood := { row := fnStmtUptoRow, standIns := [], harness := (true, "232812528fbf87a0ae976a6391f857d578174b3b629c4bec834df97803dfdcdb"), looks := true }, kinds := [], alts := [], laidByText := true, laidKinds := [.data, .data, .data, .sentinel, .sentinel, .widerDeep], laidTests := true, laidLooks := .later }
def FnStmtUptoCardSaid : Prop := Claim7.holds Tryz.pinned (.plain (OpenSpec.upto fnStmtSpec)) fnStmtUptoCard

/-- THE SECOND FORM's CARD OF 'laws.FnStmtWords'. -/
def fnStmtWordsUptoCard : Claim7 := { stood := { row := fnStmtWordsUptoRow, standIns := [], harness := (true, "232812528fbf87a0ae976a6391f857d578174b3b629c4bec834df97803dfdcdb"), looks := true }, kinds := [], alts := [], laidByText := true, laidKinds := [.data, .data, .data, .sentinel, .sentinel, .widerDeep], laidTests := true, laidLooks := .later }
def FnStmtWordsUptoCardSaid : Prop := Claim7.holds Tryz.pinned (.plain (OpenSpec.upto fnStmtWordsSpec)) fnStmtWordsUptoCard

/-- THE SECOND FORM's CARD OF 'laws.FnStmtNames'. -/
def fnStmtNamesUptoCard : Claim7 := { stood := { row := fnStmtNamesUptoRow, standIns := [], harness := (true, "232812528fbf87a0ae976a6391f857d578174b3b629c4bec834df97803dfdcdb"), looks := true }, kinds := [], alts := [], laidByText := true, laidKinds := [.data, .data, .data, .sentinel, .sentinel, .widerDeep], laidTests := true, laidLooks := .later }
def FnStmtNamesUptoCardSaid : Prop := Claim7.holds Tryz.pinned (.plain (OpenSpec.upto fnStmtNamesSpec)) fnStmtNamesUptoCard

/-- THE SECOND FORM's CARD OF 'laws.FnExactBareOk'. -/
def fnExactBareOkUptoCard : Claim7 := { stood := { row := fnExactBareOkUptoRow, standIns := [], harness := (true, "232812528fbf87a0ae976a6391f857d578174b3b629c4bec834df97803dfdcdb"), looks := true }, kinds := [], alts := [], laidByText := true, laidKinds := [.data, .data, .data, .sentinel, .sentinel, .widerDeep], laidTests := true, laidLooks := .later }
def FnExactBareOkUptoCardSaid : Prop := Claim7.holds Tryz.pinned (.plain (OpenSpec.upto fnExactBareOkSpec)) fnExactBareOkUptoCard

/-- THE SECOND FORM's CARD OF 'laws.FnProgRead'. -/
def fnProgReadUptoCard : Claim7 := { stood := { row := fnProgReadUptoRow, standIns := [], harness := (true, "232812528fbf87a0ae976a6391f857d578174b3b629c4bec834df97803dfdcdb"), looks := true }, kinds := [], alts := [], laidByText := true, laidKinds := [.data, .data, .data, .data, .sentinel, .sentinel, .widerDeep, .pinned], laidTests := true, laidLooks := .later }
def FnProgReadUptoCardSaid : Prop := Claim7.holds Tryz.pinned (.plain (OpenSpec.upto fnProgReadSpec)) fnProgReadUptoCard

/-- THE SECOND FORM's CARD OF 'laws.FnExactProgRead'. -/
def fnExactProgReadUptoCard : Claim7 := { stood := { row := fnExactProgReadUptoRow, standIns := [], harness := (true, "232812528fbf87a0ae976a6391f857d578174b3b629c4bec834df97803dfdcdb"), looks := true }, kinds := [], alts := [], laidByText := true, laidKinds := [.data, .data, .data, .data, .sentinel, .sentinel, .widerDeep, .pinned], laidTests := true, laidLooks := .later }
def FnExactProgReadUptoCardSaid : Prop := Claim7.holds Tryz.pinned (.plain (OpenSpec.upto fnExactProgReadSpec)) fnExactProgReadUptoCard

/-- THE SECOND FORM's CARD OF 'laws.FnProg'. -/
def fnProgUptoCard : Claim7 := { stood := { row := fnProgUptoRow, standIns := [], harness := (true, "232812528fbf87a0ae976a6391f857d578174b3b629c4bec834df97803dfdcdb"), looks := true }, kinds := [], alts := [], laidByText := true, laidKinds := [.data, .data, .data, .data, .sentinel, .sentinel, .widerDeep, .pinned], laidTests := true, laidLooks := .later }
def FnProgUptoCardSaid : Prop := Claim7.holds Tryz.pinned (.plain (OpenSpec.upto fnProgSpec)) fnProgUptoCard

/-- THE SECOND FORM's CARD OF 'laws.FnProgCat'. -/
def fnProgCatUptoCard : Claim7 := { stood := { row := fnProgCatUptoRow, standIns := [], harness := (true, "232812528fbf87a0ae976a6391f857d578174b3b629c4bec834df97803dfdcdb"), looks := true }, kinds := [], alts := [], laidByText := true, laidKinds := [.data, .data, .data, .data, .sentinel, .sentinel, .widerDeep, .pinned], laidTests := true, laidLooks := .later }
def FnProgCatUptoCardSaid : Prop := Claim7.holds Tryz.pinned (.plain (OpenSpec.upto fnProgCatSpec)) fnProgCatUptoCard
end Rows
end Go.Proofs.YtgakjhaepdigpaaGreatDoor
