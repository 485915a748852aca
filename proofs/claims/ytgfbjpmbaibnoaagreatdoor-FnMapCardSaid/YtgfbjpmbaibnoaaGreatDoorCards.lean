/-
  DERIVED. GIVEN WITH THE SEED: THE CARDS: each row of YtgfbjpmbaibnoaaGreatDoorRows.lean that lists a variable, with what it lists TIED to the program's text (the seventh form; the later family's looks); each row that meets fmt, with fmt's text TOLD by the authors' own Lean function (tested against real Go, not proved from fmt's source: count such statements apart). THE CARD IS WHAT COUNTS. Prove the row's statement (the work); the ties are given (YtgfbjpmbaibnoaaGreatDoorTie.lean); close each card by the builder's one call (the guide's Derived/Test/ToyasCard.lean, 'card_holds'). Laid BY PROGRAM, IN A SANDBOX (cutbox-door.mjs). By AI agents, Wed Nov 11 2026. No macro, syntax, notation, axiom, sorry.
-/
import Derived.Test.YtgfbjpmbaibnoaaGreatDoorRows
import GoSem.ClaimSeven
namespace Go.Proofs.YtgfbjpmbaibnoaaGreatDoor
namespace Rows

/-- THE TIED CARD OF 'laws.FnStmtUses'. -/
def fnStmtUsesCard : Claim7 := { stood := { row := fnStmtUsesRow, standIns := [], harness := (true, "f01b3a41d8c62847d866521bf0824a12a376643e8bbda298f5e25a16f0ec0645"), looks := true }, kinds := [], alts := [], laidByText := true, laidKinds := [.data, .data, .data, .sentinel, .sentinel, .widerDeep], laidTests := true, laidLooks := .later }
def FnStmtUsesCardSaid : Prop := Claim7.holds Tryz.pinned (.plain (OpenSpec.ofChange fnStmtUsesSpec)) fnStmtUsesCard

/-- THE TIED CARD OF 'laws.FnExactBareOk'. -/
def fnExactBareOkCard : Claim7 := { stood := { row := fnExactBareOkRow, standIns := [], harness := (true, "f01b3a41d8c62847d866521bf0824a12a376643e8bbda298f5e25a16f0ec0645"), looks := true }, kinds := [], alts := [], laidByText := true, laidKinds := [.data, .data, .data, .sentinel, .sentinel, .widerDeep], laidTests := true, laidLooks := .later }
def FnExactBareOkCardSaid : Prop := Claim7.holds Tryz.pinned (.plain (OpenSpec.ofChange fnExactBareOkSpec)) fnExactBareOkCard

/-- THE TIED CARD OF 'laws.FnStmtNames'. -/
def fnStmtNamesCard : Claim7 := { stood := { row := fnStmtNamesRow, standIns := [], harness := (true, "f01b3a41d8c62847d866521bf0824a12a376643e8bbda298f5e25a16f0ec0645"), looks := true }, kinds := [], alts := [], laidByText := true, laidKinds := [.data, .data, .data, .sentinel, .sentinel, .widerDeep], laidTests := true, laidLooks := .later }
def FnStmtNamesCardSaid : Prop := Claim7.holds Tryz.pinned (.plain (OpenSpec.ofChange fnStmtNamesSpec)) fnStmtNamesCard

/-- THE TIED CARD OF 'laws.FnStmtWords'. -/
def fnStmtWordsCard : Claim7 := { stood := { row := fnStmtWordsRow, standIns := [], harness := (true, "f01b3a41d8c62847d866521bf0824a12a376643e8bbda298f5e25a16f0ec0645"), looks := true }, kinds := [], alts := [], laidByText := true, laidKinds := [.data, .data, .data, .sentinel, .sentinel, .widerDeep], laidTests := true, laidLooks := .later }
def FnStmtWordsCardSaid : Prop := Claim7.holds Tryz.pinned (.plain (OpenSpec.ofChange fnStmtWordsSpec)) fnStmtWordsCard

/-- THE TIED CARD OF 'laws.FnExactStmtRead'. -/
def fnExactStmtReadCard : Claim7 := { stood := { row := fnExactStmtReadRow, standIns := [], harness := (true, "f01b3a41d8c62847d866521bf0824a12a376643e8bbda298f5e25a16f0ec0645"), looks := true }, kinds := [], alts := [], laidByText := true, laidKinds := [.data, .data, .data, .sentinel, .sentinel, .widerDeep], laidTests := true, laidLooks := .later }
def FnExactStmtReadCardSaid : Prop := Claim7.holds Tryz.pinned (.plain (OpenSpec.ofChange fnExactStmtReadSpec)) fnExactStmtReadCard

/-- THE TIED CARD OF 'laws.FnStmt'. -/
def fnStmtCard : Claim7 := { stood := { row := fnStmtRow, standIns := [], harness := (true, "f01b3a41d8c62847d866521bf0824a12a376643e8bbda298f5e25a16f0ec0645"), looks := true }, kinds := [], alts := [], laidByText := true, laidKinds := [.data, .data, .data, .sentinel, .sentinel, .widerDeep], laidTests := true, laidLooks := .later }
def FnStmtCardSaid : Prop := Claim7.holds Tryz.pinned (.plain (OpenSpec.ofChange fnStmtSpec)) fnStmtCard

/-- THE TIED CARD OF 'laws.FnMapBent'. -/
def fnMapBentCard : Claim7 := { stood := { row := fnMapBentRow, standIns := [], harness := (true, "f01b3a41d8c62847d866521bf0824a12a376643e8bbda298f5e25a16f0ec0645"), looks := true }, kinds := [], alts := [], laidByText := true, laidKinds := [.data, .pinned], laidTests := true, laidLooks := .later }
def FnMapBentCardSaid : Prop := Claim7.holds Tryz.pinned (.plain (OpenSpec.ofChange fnMapBentSpec)) fnMapBentCard

/-- THE TIED CARD OF 'laws.FnMap'. -/
def fnMapCard : Claim7 := { stood := { row := fnMapRow, standIns := [], harness := (true, "f01b3a41d8c62847d866521bf0824a12a376643e8bbda298f5e25a16f0ec0645"), looks := true }, kinds := [], alts := [], laidByText := true, laidKinds := [.data, .pinned], laidTests := true, laidLooks := .later }
def FnMapCardSaid : Prop := Claim7.holds Tryz.pinned (.plain (OpenSpec.ofChange fnMapSpec)) fnMapCard

/-- THE TIED CARD OF 'laws.FnProgRead'. -/
def fnProgReadCard : Claim7 := { stood := { row := fnProgReadRow, standIns := [], harness := (true, "f01b3a41d8c62847d866521bf0824a12a376643e8bbda298f5e25a16f0ec0645"), looks := true }, kinds := [], alts := [], laidByText := true, laidKinds := [.data, .data, .data, .data, .sentinel, .sentinel, .widerDeep, .pinned], laidTests := true, laidLooks := .later }
def FnProgReadCardSaid : Prop := Claim7.holds Tryz.pinned (.plain (OpenSpec.ofChange fnProgReadSpec)) fnProgReadCard

/-- THE TIED CARD OF 'laws.FnExactProgRead'. -/
def fnExactProgReadCard : Claim7 := { stood := { row := fnExactProgReadRow, standIns := [], harness := (true, "f01b3a41d8c62847d866521bf0824a12a376643e8bbda298f5e25a16f0ec0645"), looks := true }, kinds := [], alts := [], laidByText := true, laidKinds := [.data, .data, .data, .data, .sentinel, .sentinel, .widerDeep, .pinned], laidTests := true, laidLooks := .later }
def FnExactProgReadCardSaid : Prop := Claim7.holds Tryz.pinned (.plain (OpenSpec.ofChange fnExactProgReadSpec)) fnExactProgReadCard

/-- THE SECOND FORM's CARD OF 'laws.FnStmtUses'. -/
def fnStmtUsesUptoCard : Claim7 := { stood := { row := fnStmtUsesUptoRow, standIns := [], harness := (true, "f01b3a41d8c62847d866521bf0824a12a376643e8bbda298f5e25a16f0ec0645"), looks := true }, kinds := [], alts := [], laidByText := true, laidKinds := [.data, .data, .data, .sentinel, .sentinel, .widerDeep], laidTests := true, laidLooks := .later }
def FnStmtUsesUptoCardSaid : Prop := Claim7.holds Tryz.pinned (.plain (OpenSpec.upto fnStmtUsesSpec)) fnStmtUsesUptoCard

/-- THE SECOND FORM's CARD OF 'laws.FnExactBareOk'. -/
def fnExactBareOkUptoCard : Claim7 := { stood := { row := fnExactBareOkUptoRow, standIns := [], harness := (true, "f01b3a41d8c62847d866521bf0824a12a376643e8bbda298f5e25a16f0ec0645"), looks := true }, kinds := [], alts := [], laidByText := true, laidKinds := [.data, .data, .data, .sentinel, .sentinel, .widerDeep], laidTests := true, laidLooks := .later }
def FnExactBareOkUptoCardSaid : Prop := Claim7.holds Tryz.pinned (.plain (OpenSpec.upto fnExactBareOkSpec)) fnExactBareOkUptoCard

/-- THE SECOND FORM's CARD OF 'laws.FnStmtNames'. -/
def fnStmtNamesUptoCard : Claim7 := { stood := { row := fnStmtNamesUptoRow, standIns := [], harness := (true, "f01b3a41d8c62847d866521bf0824a12a376643e8bbda298f5e25a16f0ec0645"), looks := true }, kinds := [], alts := [], laidByText := true, laidKinds := [.data, .data, .data, .sentinel, .sentinel, .widerDeep], laidTests := true, laidLooks := .later }
def FnStmtNamesUptoCardSaid : Prop := Claim7.holds Tryz.pinned (.plain (OpenSpec.upto fnStmtNamesSpec)) fnStmtNamesUptoCard

/-- THE SECOND FORM's CARD OF 'laws.FnStmtWords'. -/
def fnStmtWordsUptoCard : Claim7 := { stood := { row := fnStmtWordsUptoRow, standIns := [], harness := (true, "f01b3a41d8c62847d866521bf0824a12a376643e8bbda298f5e25a16f0ec0645"), looks := true }, kinds := [], alts := [], laidByText := true, laidKinds := [.data, .data, .data, .sentinel, .sentinel, .widerDeep], laidTests := true, laidLooks := .later }
def FnStmtWordsUptoCardSaid : Prop := Claim7.holds Tryz.pinned (.plain (OpenSpec.upto fnStmtWordsSpec)) fnStmtWordsUptoCard

/-- THE SECOND FORM's CARD OF 'laws.FnExactStmtRead'. -/
def fnExactStmtReadUptoCard : Claim7 := { stood := { row := fnExactStmtReadUptoRow, standIns := [], harness := (true, "f01b3a41d8c62847d866521bf0824a12a376643e8bbda298f5e25a16f0ec0645"), looks := true }, kinds := [], alts := [], laidByText := true, laidKinds := [.data, .data, .data, .sentinel, .sentinel, .widerDeep], laidTests := true, laidLooks := .later }
def FnExactStmtReadUptoCardSaid : Prop := Claim7.holds Tryz.pinned (.plain (OpenSpec.upto fnExactStmtReadSpec)) fnExactStmtReadUptoCard

/-- THE SECOND FORM's CARD OF 'laws.FnStmt'. -/
def fnStmtUptoCard : Claim7 := { stood := { row := fnStmtUptoRow, standIns := [], harness := (true, "f01b3a41d8c62847d866521bf0824a12a376643e8bbda298f5e25a16f0ec0645"), looks := true }, kinds := [], alts := [], laidByText := true, laidKinds := [.data, .data, .data, .sentinel, .sentinel, .widerDeep], laidTests := true, laidLooks := .later }
def FnStmtUptoCardSaid : Prop := Claim7.holds Tryz.pinned (.plain (OpenSpec.upto fnStmtSpec)) fnStmtUptoCard

/-- THE SECOND FORM's CARD OF 'laws.FnMapBent'. -/
def fnMapBentUptoCard : Claim7 := { stood := { row := fnMapBentUptoRow, standIns := [], harness := (true, "f01b3a41d8c62847d866521bf0824a12a376643e8bbda298f5e25a16f0ec0645"), looks := true }, kinds := [], alts := [], laidByText := true, laidKinds := [.data, .pinned], laidTests := true, laidLooks := .later }
def FnMapBentUptoCardSaid : Prop := Claim7.holds Tryz.pinned (.plain (OpenSpec.upto fnMapBentSpec)) fnMapBentUptoCard

/-- THE SECOND FORM's CARD OF 'laws.FnMap'. -/
def fnMapUptoCard : Claim7 := { stood := { row := fnMapUptoRow, standIns := [], harness := (true, "f01b3a41d8c62847d866521bf0824a12a376643e8bbda298f5e25a16f0ec0645"), looks := true }, kinds := [], alts := [], laidByText := true, laidKinds := [.data, .pinned], laidTests := true, laidLooks := .later }
def FnMapUptoCardSaid : Prop := Claim7.holds Tryz.pinned (.plain (OpenSpec.upto fnMapSpec)) fnMapUptoCard

/-- THE SECOND FORM's CARD OF 'laws.FnProgRead'. -/
def fnProgReadUptoCard : Claim7 := { stood := { row := fnProgReadUptoRow, standIns := [], harness := (true, "f01b3a41d8c62847d866521bf0824a12a376643e8bbda298f5e25a16f0ec0645"), looks := true }, kinds := [], alts := [], laidByText := true, laidKinds := [.data, .data, .data, .data, .sentinel, .sentinel, .widerDeep, .pinned], laidTests := true, laidLooks := .later }
def FnProgReadUptoCardSaid : Prop := Claim7.holds Tryz.pinned (.plain (OpenSpec.upto fnProgReadSpec)) fnProgReadUptoCard

/-- THE SECOND FORM's CARD OF 'laws.FnExactProgRead'. -/
def fnExactProgReadUptoCard : Claim7 := { stood := { row := fnExactProgReadUptoRow, standIns := [], harness := (true, "f01b3a41d8c62847d866521bf0824a12a376643e8bbda298f5e25a16f0ec0645"), looks := true }, kinds := [], alts := [], laidByText := true, laidKinds := [.data, .data, .data, .data, .sentinel, .sentinel, .widerDeep, .pinned], laidTests := true, laidLooks := .later }
def FnExactProgReadUptoCardSaid : Prop := Claim7.holds Tryz.pinned (.plain (OpenSpec.upto fnExactProgReadSpec)) fnExactProgReadUptoCard
end Rows
end Go.Proofs.YtgfbjpmbaibnoaaGreatDoor
