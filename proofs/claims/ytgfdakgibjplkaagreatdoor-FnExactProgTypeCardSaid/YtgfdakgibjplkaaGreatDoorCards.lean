/-
  DERIVED. GIVEN WITH THE SEED: THE CARDS: each row of YtgfdakgibjplkaaGreatDoorRows.lean that lists a variable, with what it lists TIED to the program's text (the seventh form; the later family's looks); each row that meets fmt, with fmt's text TOLD by the authors' own Lean function (tested against real Go, not proved from fmt's source: count such statements apart). THE CARD IS WHAT COUNTS. Prove the row's statement (the work); the ties are given (YtgfdakgibjplkaaGreatDoorTie.lean); close each card by the builder's one call (the guide's Derived/Test/ToyasCard.lean, 'card_holds'). Laid BY PROGRAM, IN A SANDBOX (cutbox-door.mjs). By AI agents, Wed Nov 11 2026. No macro, syntax, notation, axiom, sorry.
-/
import Derived.Test.YtgfdakgibjplkaaGreatDoorRows
import GoSem.ClaimSeven
namespace Go.Proofs.YtgfdakgibjplkaaGreatDoor
namespace Rows

/-- THE TIED CARD OF 'laws.FnExactProgOk'. -/
def fnExactProgOkCard : Claim7 := { stood := { row := fnExactProgOkRow, standIns := [], harness := (true, "2a57ec2251a7d795be87494d1c8f6c335962ec3879edc4d1e0911c68148d4c01"), looks := true }, kinds := [], alts := [], laidByText := true, laidKinds := [.data, .data, .data, .sentinel, .sentinel, .widerDeep], laidTests := true, laidLooks := .later }
def FnExactProgOkCardSaid : Prop := Claim7.holds Tryz.pinned (.plain (OpenSpec.ofChange fnExactProgOkSpec)) fnExactProgOkCard

/-- THE TIED CARD OF 'laws.FnExactProgText'. -/
def fnExactProgTextCard : Claim7 := { stood := { row := fnExactProgTextRow, standIns := [], harness := (true, "2a57ec2251a7d795be87494d1c8f6c335962ec3879edc4d1e0911c68148d4c01"), looks := true }, kinds := [], alts := [], laidByText := true, laidKinds := [.data, .data, .data, .sentinel, .sentinel, .widerDeep], laidTests := true, laidLooks := .later }
def FnExactProgTextCardSaid : Prop := Claim7.holds Tryz.pinned (.plain (OpenSpec.ofChange fnExactProgTextSpec)) fnExactProgTextCard

/-- THE TIED CARD OF 'laws.FnExactBareOk'. -/
def fnExactBareOkCard : Claim7 := { stood := { row := fnExactBareOkRow, standIns := [], harness := (true, "2a57ec2251a7d795be87494d1c8f6c335962ec3879edc4d1e0911c68148d4c01"), looks := true }, kinds := [], alts := [], laidByText := true, laidKinds := [.data, .data, .data, .sentinel, .sentinel, .widerDeep], laidTests := true, laidLooks := .later }
def FnExactBareOkCardSaid : Prop := Claim7.holds Tryz.pinned (.plain (OpenSpec.ofChange fnExactBareOkSpec)) fnExactBareOkCard

/-- THE TIED CARD OF 'laws.FnExactStmtNames'. -/
def fnExactStmtNamesCard : Claim7 := { stood := { row := fnExactStmtNamesRow, standIns := [], harness := (true, "2a57ec2251a7d795be87494d1c8f6c335962ec3879edc4d1e0911c68148d4c01"), looks := true }, kinds := [], alts := [], laidByText := true, laidKinds := [.data, .data, .data, .sentinel, .sentinel, .widerDeep], laidTests := true, laidLooks := .later }
def FnExactStmtNamesCardSaid : Prop := Claim7.holds Tryz.pinned (.plain (OpenSpec.ofChange fnExactStmtNamesSpec)) fnExactStmtNamesCard

/-- THE TIED CARD OF 'laws.FnExactProgType'. -/
def fnExactProgTypeCard : Claim7 := { stood := { row := fnExactProgTypeRow, standIns := [], harness := (true, "2a57ec2251a7d795be87494d1c8f6c335962ec3879edc4d1e0911c68148d4c01"), looks := true }, kinds := [], alts := [], laidByText := true, laidKinds := [.data, .data, .data, .sentinel, .sentinel, .widerDeep], laidTests := true, laidLooks := .later }
def FnExactProgTypeCardSaid : Prop := Claim7.holds Tryz.pinned (.plain (OpenSpec.ofChange fnExactProgTypeSpec)) fnExactProgTypeCard

/-- THE TIED CARD OF 'laws.FnExactProgRun'. -/
def fnExactProgRunCard : Claim7 := { stood := { row := fnExactProgRunRow, standIns := [], harness := (true, "2a57ec2251a7d795be87494d1c8f6c335962ec3879edc4d1e0911c68148d4c01"), looks := true }, kinds := [], alts := [], laidByText := true, laidKinds := [.data, .data, .data, .sentinel, .sentinel, .widerDeep], laidTests := true, laidLooks := .later }
def FnExactProgRunCardSaid : Prop := Claim7.holds Tryz.pinned (.plain (OpenSpec.ofChange fnExactProgRunSpec)) fnExactProgRunCard

/-- THE SECOND FORM's CARD OF 'laws.FnExactProgOk'. -/
def fnExactProgOkUptoCard : Claim7 := { stood := { row := fnExactProgOkUptoRow, standIns := [], harness := (true, "2a57ec2251a7d795be87494d1c8f6c335962ec3879edc4d1e0911c68148d4c01"), looks := true }, kinds := [], alts := [], laidByText := true, laidKinds := [.data, .data, .data, .sentinel, .sentinel, .widerDeep], laidTests := true, laidLooks := .later }
def FnExactProgOkUptoCardSaid : Prop := Claim7.holds Tryz.pinned (.plain (OpenSpec.upto fnExactProgOkSpec)) fnExactProgOkUptoCard

/-- THE SECOND FORM's CARD OF 'laws.FnExactProgText'. -/
def fnExactProgTextUptoCard : Claim7 := { stood := { row := fnExactProgTextUptoRow, standIns := [], harness := (true, "2a57ec2251a7d795be87494d1c8f6c335962ec3879edc4d1e0911c68148d4c01"), looks := true }, kinds := [], alts := [], laidByText := true, laidKinds := [.data, .data, .data, .sentinel, .sentinel, .widerDeep], laidTests := true, laidLooks := .later }
def FnExactProgTextUptoCardSaid : Prop := Claim7.holds Tryz.pinned (.plain (OpenSpec.upto fnExactProgTextSpec)) fnExactProgTextUptoCard

/-- THE SECOND FORM's CARD OF 'laws.FnExactBareOk'. -/
def fnExactBareOkUptoCard : Claim7 := { stood := { row := fnExactBareOkUptoRow, standIns := [], harness := (true, "2a57ec2251a7d795be87494d1c8f6c335962ec3879edc4d1e0911c68148d4c01"), looks := true }, kinds := [], alts := [], laidByText := true, laidKinds := [.data, .data, .data, .sentinel, .sentinel, .widerDeep], laidTests := true, laidLooks := .later }
def FnExactBareOkUptoCardSaid : Prop := Claim7.holds Tryz.pinned (.plain (OpenSpec.upto fnExactBareOkSpec)) fnExactBareOkUptoCard

/-- THE SECOND FORM's CARD OF 'laws.FnExactStmtNames'. -/
def fnExactStmtNamesUptoCard : Claim7 := { stood := { row := fnExactStmtNamesUptoRow, standIns := [], harness := (true, "2a57ec2251a7d795be87494d1c8f6c335962ec3879edc4d1e0911c68148d4c01"), looks := true }, kinds := [], alts := [], laidByText := true, laidKinds := [.data, .data, .data, .sentinel, .sentinel, .widerDeep], laidTests := true, laidLooks := .later }
def FnExactStmtNamesUptoCardSaid : Prop := Claim7.holds Tryz.pinned (.plain (OpenSpec.upto fnExactStmtNamesSpec)) fnExactStmtNamesUptoCard

/-- THE SECOND FORM's CARD OF 'laws.FnExactProgType'. -/
def fnExactProgTypeUptoCard : Claim7 := { stood := { row := fnExactProgTypeUptoRow, standIns := [], harness := (true, "2a57ec2251a7d795be87494d1c8f6c335962ec3879edc4d1e0911c68148d4c01"), looks := true }, kinds := [], alts := [], laidByText := true, laidKinds := [.data, .data, .data, .sentinel, .sentinel, .widerDeep], laidTests := true, laidLooks := .later }
def FnExactProgTypeUptoCardSaid : Prop := Claim7.holds Tryz.pinned (.plain (OpenSpec.upto fnExactProgTypeSpec)) fnExactProgTypeUptoCard

/-- THE SECOND FORM's CARD OF 'laws.FnExactProgRun'. -/
def fnExactProgRunUptoCard : Claim7 := { stood := { row := fnExactProgRunUptoRow, standIns := [], harness := (true, "2a57ec2251a7d795be87494d1c8f6c335962ec3879edc4d1e0911c68148d4c01"), looks := true }, kinds := [], alts := [], laidByText := true, laidKinds := [.data, .data, .data, .sentinel, .sentinel, .widerDeep], laidTests := true, laidLooks := .later }
def FnExactProgRunUptoCardSaid : Prop := Claim7.holds Tryz.pinned (.plain (OpenSpec.upto fnExactProgRunSpec)) fnExactProgRunUptoCard
end Rows
end Go.Proofs.YtgfdakgibjplkaaGreatDoor
