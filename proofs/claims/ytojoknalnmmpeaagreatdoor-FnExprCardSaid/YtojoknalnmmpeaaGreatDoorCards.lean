/-
  DERIVED. GIVEN WITH THE SEED: THE CARDS: each row of YtojoknalnmmpeaaGreatDoorRows.lean that lists a variable, with what it lists TIED to the program's text (the seventh form; the later family's looks); each row that meets fmt, with fmt's text TOLD by the authors' own Lean function (tested against real Go, not proved from fmt's source: count such statements apart). THE CARD IS WHAT COUNTS. Prove the row's statement (the work); the ties are given (YtojoknalnmmpeaaGreatDoorTie.lean); close each card by the builder's one call (the guide's Derived/Test/ToyasCard.lean, 'card_holds'). Laid BY PROGRAM, IN A SANDBOX (cutbox-door.mjs). By AI agents, Wed Nov 11 2026. No macro, syntax, notation, axiom, sorry.
-/
import Derived.Test.YtojoknalnmmpeaaGreatDoorRows
import GoSem.ClaimSeven
namespace Go.Proofs.YtojoknalnmmpeaaGreatDoor
namespace Rows

/-- THE TIED CARD OF 'laws.FnExpr'. -/
def fnExprCard : Claim7 := { stood := { row := fnExprRow, standIns := [], harness := (true, "809839b9e7d1a07c9f88912b88ba2bad0d8a2cafa013589589093bee250bedf0"), looks := true }, kinds := [], alts := [], laidByText := true, laidKinds := [.data, .data, .data, .sentinel, .sentinel, .widerDeep], laidTests := true, laidLooks := .later }
def FnExprCardSaid : Prop := Claim7.holds Tryz.pinned (.plain (OpenSpec.ofChange fnExprSpec)) fnExprCard

/-- THE SECOND FORM's CARD OF 'laws.FnExpr'. -/
def fnExprUptoCard : Claim7 := { stood := { row := fnExprUptoRow, standIns := [], harness := (true, "809839b9e7d1a07c9f88912b88ba2bad0d8a2cafa013589589093bee250bedf0"), looks := true }, kinds := [], alts := [], laidByText := true, laidKinds := [.data, .data, .data, .sentinel, .sentinel, .widerDeep], laidTests := true, laidLooks := .later }
def FnExprUptoCardSaid : Prop := Claim7.holds Tryz.pinned (.plain (OpenSpec.upto fnExprSpec)) fnExprUptoCard
end Rows
end Go.Proofs.YtojoknalnmmpeaaGreatDoor
