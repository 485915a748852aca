/-
  DERIVED. GIVEN WITH THE SEED: THE CARDS: each row of YtdobcfekjmobhaaGreatDoorRows.lean that lists a variable, with what it lists TIED to the program's text (the seventh form; the later family's looks); each row that meets fmt, with fmt's text TOLD by the authors' own Lean function (tested against real Go, not proved from fmt's source: count such statements apart). THE CARD IS WHAT COUNTS. Prove the row's statement (the work); the ties are given (YtdobcfekjmobhaaGreatDoorTie.lean); close each card by the builder's one call (the guide's Derived/Test/ToyasCard.lean, 'card_holds'). Laid BY PROGRAM, IN A SANDBOX (cutbox-door.mjs). By AI agents, Wed Nov 11 2026. No macro, syntax, notation, axiom, sorry.
-/
import Derived.Test.YtdobcfekjmobhaaGreatDoorRows
import GoSem.ClaimSeven
namespace Go.Proofs.YtdobcfekjmobhaaGreatDoor
namespace Rows

/-- THE TIED CARD OF 'laws.FnStmtBent'. -/
def fnStmtBentCard : Claim7 := { stood := { row := fnStmtBentRow, standIns := [], harness := (true, "614fe1d6f66c904365b32a1af2986391f18d5cd3aff45a75eff20f4e16813722"), looks := true }, kinds := [], alts := [], laidByText := true, laidKinds := [.data, .data, .data, .sentinel, .sentinel, .widerDeep], laidTests := true, laidLooks := .later }
def FnStmtBentCardSaid : Prop := Claim7.holds Tryz.pinned (.plain (OpenSpec.ofChange fnStmtBentSpec)) fnStmtBentCard

/-- THE TIED CARD OF 'laws.FnProgBent'. -/
def fnProgBentCard : Claim7 := { stood := { row := fnProgBentRow, standIns := [], harness := (true, "614fe1d6f66c904365b32a1af2986391f18d5cd3aff45a75eff20f4e16813722"), looks := true }, kinds := [], alts := [], laidByText := true, laidKinds := [.data, .data, .data, .sentinel, .sentinel, .widerDeep], laidTests := true, laidLooks := .later }
def FnProgBentCardSaid : Prop := Claim7.holds Tryz.pinned (.plain (OpenSpec.ofChange fnProgBentSpec)) fnProgBentCard

/-- THE TIED CARD OF 'laws.FnProgRun'. -/
def fnProgRunCard : Claim7 := { stood := { row := fnProgRunRow, standIns := [], harness := (true, "614fe1d6f66c904365b32a1af2986391f18d5cd3aff45a75eff20f4e16813722"), looks := true }, kinds := [], alts := [], laidByText := true, laidKinds := [.data, .data, .data, .sentinel, .sentinel, .widerDeep], laidTests := true, laidLooks := .later }
def FnProgRunCardSaid : Prop := Claim7.holds Tryz.pinned (.plain (OpenSpec.ofChange fnProgRunSpec)) fnProgRunCard

/-- THE TIED CARD OF 'laws.FnProgWhen'. -/
def fnProgWhenCard : Claim7 := { stood := { row := fnProgWhenRow, standIns := [], harness := (true, "614fe1d6f66c904365b32a1af2986391f18d5cd3aff45a75eff20f4e16813722"), looks := true }, kinds := [], alts := [], laidByText := true, laidKinds := [.data, .data, .data, .sentinel, .sentinel, .widerDeep], laidTests := true, laidLooks := .later }
def FnProgWhenCardSaid : Prop := Claim7.holds Tryz.pinned (.plain (OpenSpec.ofChange fnProgWhenSpec)) fnProgWhenCard

/-- THE TIED CARD OF 'laws.FnProgCast'. -/
def fnProgCastCard : Claim7 := { stood := { row := fnProgCastRow, standIns := [], harness := (true, "614fe1d6f66c904365b32a1af2986391f18d5cd3aff45a75eff20f4e16813722"), looks := true }, kinds := [], alts := [], laidByText := true, laidKinds := [.data, .data, .data, .sentinel, .sentinel, .widerDeep], laidTests := true, laidLooks := .later }
def FnProgCastCardSaid : Prop := Claim7.holds Tryz.pinned (.plain (OpenSpec.ofChange fnProgCastSpec)) fnProgCastCard

/-- THE TIED CARD OF 'laws.FnProgLet'. -/
def fnProgLetCard : Claim7 := { stood := { row := fnProgLetRow, standIns := [], harness := (true, "614fe1d6f66c904365b32a1af2986391f18d5cd3aff45a75eff20f4e16813722"), looks := true }, kinds := [], alts := [], laidByText := true, laidKinds := [.data, .data, .data, .sentinel, .sentinel, .widerDeep], laidTests := true, laidLooks := .later }
def FnProgLetCardSaid : Prop := Claim7.holds Tryz.pinned (.plain (OpenSpec.ofChange fnProgLetSpec)) fnProgLetCard

/-- THE TIED CARD OF 'laws.FnProgSame'. -/
def fnProgSameCard : Claim7 := { stood := { row := fnProgSameRow, standIns := [], harness := (true, "614fe1d6f66c904365b32a1af2986391f18d5cd3aff45a75eff20f4e16813722"), looks := true }, kinds := [], alts := [], laidByText := true, laidKinds := [.data, .data, .data, .sentinel, .sentinel, .widerDeep], laidTests := true, laidLooks := .later }
def FnProgSameCardSaid : Prop := Claim7.holds Tryz.pinned (.plain (OpenSpec.ofChange fnProgSameSpec)) fnProgSameCard

/-- THE TIED CARD OF 'laws.FnProgType'. -/
def fnProgTypeCard : Claim7 := { stood := { row := fnProgTypeRow, standIns := [], harness := (true, "614fe1d6f66c904365b32a1af2986391f18d5cd3aff45a75eff20f4e16813722"), looks := true }, kinds := [], alts := [], laidByText := true, laidKinds := [.data, .data, .data, .sentinel, .sentinel, .widerDeep], laidTests := true, laidLooks := .later }
def FnProgTypeCardSaid : Prop := Claim7.holds Tryz.pinned (.plain (OpenSpec.ofChange fnProgTypeSpec)) fnProgTypeCard

/-- THE TIED CARD OF 'laws.FnExactProgRun'. -/
def fnExactProgRunCard : Claim7 := { stood := { row := fnExactProgRunRow, standIns := [], harness := (true, "614fe1d6f66c904365b32a1af2986391f18d5cd3aff45a75eff20f4e16813722"), looks := true }, kinds := [], alts := [], laidByText := true, laidKinds := [.data, .data, .data, .sentinel, .sentinel, .widerDeep], laidTests := true, laidLooks := .later }
def FnExactProgRunCardSaid : Prop := Claim7.holds Tryz.pinned (.plain (OpenSpec.ofChange fnExactProgRunSpec)) fnExactProgRunCard

/-- THE TIED CARD OF 'laws.FnExactBareOk'. -/
def fnExactBareOkCard : Claim7 := { stood := { row := fnExactBareOkRow, standIns := [], harness := (true, "614fe1d6f66c904365b32a1af2986391f18d5cd3aff45a75eff20f4e16813722"), looks := true }, kinds := [], alts := [], laidByText := true, laidKinds := [.data, .data, .data, .sentinel, .sentinel, .widerDeep], laidTests := true, laidLooks := .later }
def FnExactBareOkCardSaid : Prop := Claim7.holds Tryz.pinned (.plain (OpenSpec.ofChange fnExactBareOkSpec)) fnExactBareOkCard

/-- THE TIED CARD OF 'laws.FnExactStmtNames'. -/
def fnExactStmtNamesCard : Claim7 := { stood := { row := fnExactStmtNamesRow, standIns := [], harness := (true, "614fe1d6f66c904365b32a1af2986391f18d5cd3aff45a75eff20f4e16813722"), looks := true }, kinds := [], alts := [], laidByText := true, laidKinds := [.data, .data, .data, .sentinel, .sentinel, .widerDeep], laidTests := true, laidLooks := .later }
def FnExactStmtNamesCardSaid : Prop := Claim7.holds Tryz.pinned (.plain (OpenSpec.ofChange fnExactStmtNamesSpec)) fnExactStmtNamesCard

/-- THE SECOND FORM's CARD OF 'laws.FnStmtBent'. -/
def fnStmtBentUptoCard : Claim7 := { stood := { row := fnStmtBentUptoRow, standIns := [], harness := (true, "614fe1d6f66c904365b32a1af2986391f18d5cd3aff45a75eff20f4e16813722"), looks := true }, kinds := [], alts := [], laidByText := true, laidKinds := [.data, .data, .data, .sentinel, .sentinel, .widerDeep], laidTests := true, laidLooks := .later }
def FnStmtBentUptoCardSaid : Prop := Claim7.holds Tryz.pinned (.plain (OpenSpec.upto fnStmtBentSpec)) fnStmtBentUptoCard

/-- THE SECOND FORM's CARD OF 'laws.FnProgBent'. -/
def fnProgBentUptoCard : Claim7 := { stood := { row := fnProgBentUptoRow, standIns := [], harness := (true, "614fe1d6f66c904365b32a1af2986391f18d5cd3aff45a75eff20f4e16813722"), looks := true }, kinds := [], alts := [], laidByText := true, laidKinds := [.data, .data, .data, .sentinel, .sentinel, .widerDeep], laidTests := true, laidLooks := .later }
def FnProgBentUptoCardSaid : Prop := Claim7.holds Tryz.pinned (.plain (OpenSpec.upto fnProgBentSpec)) fnProgBentUptoCard

/-- THE SECOND FORM's CARD OF 'laws.FnProgRun'. -/
def fnProgRunUptoCard : Claim7 := { stood := { row := fnProgRunUptoRow, standIns := [], harness := (true, "614fe1d6f66c904365b32a1af2986391f18d5cd3aff45a75eff20f4e16813722"), looks := true }, kinds := [], alts := [], laidByText := true, laidKinds := [.data, .data, .data, .sentinel, .sentinel, .widerDeep], laidTests := true, laidLooks := .later }
def FnProgRunUptoCardSaid : Prop := Claim7.holds Tryz.pinned (.plain (OpenSpec.upto fnProgRunSpec)) fnProgRunUptoCard

/-- THE SECOND FORM's CARD OF 'laws.FnProgWhen'. -/
def fnProgWhenUptoCard : Claim7 := { stood := { row := fnProgWhenUptoRow, standIns := [], harness := (true, "614fe1d6f66c904365b32a1af2986391f18d5cd3aff45a75eff20f4e16813722"), looks := true }, kinds := [], alts := [], laidByText := true, laidKinds := [.data, .data, .data, .sentinel, .sentinel, .widerDeep], laidTests := true, laidLooks := .later }
def FnProgWhenUptoCardSaid : Prop := Claim7.holds Tryz.pinned (.plain (OpenSpec.upto fnProgWhenSpec)) fnProgWhenUptoCard

/-- THE SECOND FORM's CARD OF 'laws.FnProgCast'. -/
def fnProgCastUptoCard : Claim7 := { stood := { row := fnProgCastUptoRow, standIns := [], harness := (true, "614fe1d6f66c904365b32a1af2986391f18d5cd3aff45a75eff20f4e16813722"), looks := true }, kinds := [], alts := [], laidByText := true, laidKinds := [.data, .data, .data, .sentinel, .sentinel, .widerDeep], laidTests := true, laidLooks := .later }
def FnProgCastUptoCardSaid : Prop := Claim7.holds Tryz.pinned (.plain (OpenSpec.upto fnProgCastSpec)) fnProgCastUptoCard

/-- THE SECOND FORM's CARD OF 'laws.FnProgLet'. -/
def fnProgLetUptoCard : Claim7 := { stood := { row := fnProgLetUptoRow, standIns := [], harness := (true, "614fe1d6f66c904365b32a1af2986391f18d5cd3aff45a75eff20f4e16813722"), looks := true }, kinds := [], alts := [], laidByText := true, laidKinds := [.data, .data, .data, .sentinel, .sentinel, .widerDeep], laidTests := true, laidLooks := .later }
def FnProgLetUptoCardSaid : Prop := Claim7.holds Tryz.pinned (.plain (OpenSpec.upto fnProgLetSpec)) fnProgLetUptoCard

/-- THE SECOND FORM's CARD OF 'laws.FnProgSame'. -/
def fnProgSameUptoCard : Claim7 := { stood := { row := fnProgSameUptoRow, standIns := [], harness := (true, "614fe1d6f66c904365b32a1af2986391f18d5cd3aff45a75eff20f4e16813722"), looks := true }, kinds := [], alts := [], laidByText := true, laidKinds := [.data, .data, .data, .sentinel, .sentinel, .widerDeep], laidTests := true, laidLooks := .later }
def FnProgSameUptoCardSaid : Prop := Claim7.holds Tryz.pinned (.plain (OpenSpec.upto fnProgSameSpec)) fnProgSameUptoCard

/-- THE SECOND FORM's CARD OF 'laws.FnProgType'. -/
def fnProgTypeUptoCard : Claim7 := { stood := { row := fnProgTypeUptoRow, standIns := [], harness := (true, "614fe1d6f66c904365b32a1af2986391f18d5cd3aff45a75eff20f4e16813722"), looks := true }, kinds := [], alts := [], laidByText := true, laidKinds := [.data, .data, .data, .sentinel, .sentinel, .widerDeep], laidTests := true, laidLooks := .later }
def FnProgTypeUptoCardSaid : Prop := Claim7.holds Tryz.pinned (.plain (OpenSpec.upto fnProgTypeSpec)) fnProgTypeUptoCard

/-- THE SECOND FORM's CARD OF 'laws.FnExactProgRun'. -/
def fnExactProgRunUptoCard : Claim7 := { stood := { row := fnExactProgRunUptoRow, standIns := [], harness := (true, "614fe1d6f66c904365b32a1af2986391f18d5cd3aff45a75eff20f4e16813722"), looks := true }, kinds := [], alts := [], laidByText := true, laidKinds := [.data, .data, .data, .sentinel, .sentinel, .widerDeep], laidTests := true, laidLooks := .later }
def FnExactProgRunUptoCardSaid : Prop := Claim7.holds Tryz.pinned (.plain (OpenSpec.upto fnExactProgRunSpec)) fnExactProgRunUptoCard

/-- THE SECOND FORM's CARD OF 'laws.FnExactBareOk'. -/
def fnExactBareOkUptoCard : Claim7 := { stood := { row := fnExactBareOkUptoRow, standIns := [], harness := (true, "614fe1d6f66c904365b32a1af2986391f18d5cd3aff45a75eff20f4e16813722"), looks := true }, kinds := [], alts := [], laidByText := true, laidKinds := [.data, .data, .data, .sentinel, .sentinel, .widerDeep], laidTests := true, laidLooks := .later }
def FnExactBareOkUptoCardSaid : Prop := Claim7.holds Tryz.pinned (.plain (OpenSpec.upto fnExactBareOkSpec)) fnExactBareOkUptoCard

/-- THE SECOND FORM's CARD OF 'laws.FnExactStmtNames'. -/
def fnExactStmtNamesUptoCard : Claim7 := { stood := { row := fnExactStmtNamesUptoRow, standIns := [], harness := (true, "614fe1d6f66c904365b32a1af2986391f18d5cd3aff45a75eff20f4e16813722"), looks := true }, kinds := [], alts := [], laidByText := true, laidKinds := [.data, .data, .data, .sentinel, .sentinel, .widerDeep], laidTests := true, laidLooks := .later }
def FnExactStmtNamesUptoCardSaid : Prop := Claim7.holds Tryz.pinned (.plain (OpenSpec.upto fnExactStmtNamesSpec)) fnExactStmtNamesUptoCard
end Rows
end Go.Proofs.YtdobcfekjmobhaaGreatDoor
