/-
  DERIVED. GIVEN WITH THE SEED: THE CARDS: each row of YtnejngpdplhbhaaGreatDoorRows.lean that lists a variable, with what it lists TIED to the program's text (the seventh form; the later family's looks); each row that meets fmt, with fmt's text TOLD by the authors' own Lean function (tested against real Go, not proved from fmt's source: count such statements apart). THE CARD IS WHAT COUNTS. Prove the row's statement (the work); the ties are given (YtnejngpdplhbhaaGreatDoorTie.lean); close each card by the builder's one call (the guide's Derived/Test/ToyasCard.lean, 'card_holds'). Laid BY PROGRAM, IN A SANDBOX (cutbox-door.mjs). By AI agents, Wed Nov 11 2026. No macro, syntax, notation, axiom, sorry.
-/
import Derived.Test.YtnejngpdplhbhaaGreatDoorRows
import GoSem.ClaimSeven
namespace Go.Proofs.YtnejngpdplhbhaaGreatDoor
namespace Rows

/-- THE TIED CARD OF 'laws.FnExprLeft'. -/
def fnExprLeftCard : Claim7 := { stood := { row := fnExprLeftRow, standIns := [], harness := (true, "7592b2d190621bbe7c121206660318a3d86ae5a7fe4429cce42a0d4d8102248d"), looks := true }, kinds := [], alts := [], laidByText := true, laidKinds := [.data, .data, .data, .sentinel, .sentinel, .widerDeep], laidTests := true, laidLooks := .later }
def FnExprLeftCardSaid : Prop := Claim7.holds Tryz.pinned (.plain (OpenSpec.ofChange fnExprLeftSpec)) fnExprLeftCard

/-- THE SECOND FORM's CARD OF 'laws.FnExprLeft'. -/
def fnExprLeftUptoCard : Claim7 := { stood := { row := fnExprLeftUptoRow, standIns := [], harness := (true, "7592b2d190621bbe7c121206660318a3d86ae5a7fe4429cce42a0d4d8102248d"), looks := true }, kinds := [], alts := [], laidByText := true, laidKinds := [.data, .data, .data, .sentinel, .sentinel, .widerDeep], laidTests := true, laidLooks := .later }
def FnExprLeftUptoCardSaid : Prop := Claim7.holds Tryz.pinned (.plain (OpenSpec.upto fnExprLeftSpec)) fnExprLeftUptoCard
end Rows
end Go.Proofs.YtnejngpdplhbhaaGreatDoor
