/-
  DERIVED. GIVEN WITH THE SEED: THE CARDS: each row of YtnejngpdplhbhaaDoorRows.lean that lists a variable, with what it lists TIED to the program's text (the seventh form; the later family's looks); each row that meets fmt, with fmt's text TOLD by the authors' own Lean function (tested against real Go, not proved from fmt's source: count such statements apart). THE CARD IS WHAT COUNTS. Prove the row's statement (the work); the ties are given (YtnejngpdplhbhaaDoorTie.lean); close each card by the builder's one call (the guide's Derived/Test/ToyasCard.lean, 'card_holds'). Laid BY PROGRAM, IN A SANDBOX (cutbox-door.mjs). By AI agents, Wed Nov 11 2026. No macro, syntax, notation, axiom, sorry.
-/
import Derived.Test.YtnejngpdplhbhaaDoorRows
import GoSem.ClaimSeven
namespace Go.Proofs.YtnejngpdplhbhaaDoor
namespace Rows

/-- THE TIED CARD OF 'laws.FnExprBare'. -/
def fnExprBareCard : Claim7 := { stood := { row := fnExprBareRow, standIns := [], harness := (true, "efe77ef0200a9c3714aab9088d00859e3eb7b6b75bc6ae98924528e4a4d5cdd7"), looks := true }, kinds := [], alts := [], laidByText := true, laidKinds := [.data, .data, .data, .sentinel, .sentinel, .widerDeep], laidTests := true, laidLooks := .later }
def FnExprBareCardSaid : Prop := Claim7.holds Tryd.pinned (.plain (OpenSpec.ofChange fnExprBareSpec)) fnExprBareCard

/-- THE TIED CARD OF 'laws.FnExprPut'. -/
def fnExprPutCard : Claim7 := { stood := { row := fnExprPutRow, standIns := [], harness := (true, "efe77ef0200a9c3714aab9088d00859e3eb7b6b75bc6ae98924528e4a4d5cdd7"), looks := true }, kinds := [], alts := [], laidByText := true, laidKinds := [.data, .data, .data, .sentinel, .sentinel, .widerDeep], laidTests := true, laidLooks := .later }
def FnExprPutCardSaid : Prop := Claim7.holds Tryd.pinned (.plain (OpenSpec.ofChange fnExprPutSpec)) fnExprPutCard

/-- THE TIED CARD OF 'laws.FnExprCast'. -/
def fnExprCastCard : Claim7 := { stood := { row := fnExprCastRow, standIns := [], harness := (true, "efe77ef0200a9c3714aab9088d00859e3eb7b6b75bc6ae98924528e4a4d5cdd7"), looks := true }, kinds := [], alts := [], laidByText := true, laidKinds := [.data, .data, .data, .sentinel, .sentinel, .widerDeep], laidTests := true, laidLooks := .later }
def FnExprCastCardSaid : Prop := Claim7.holds Tryd.pinned (.plain (OpenSpec.ofChange fnExprCastSpec)) fnExprCastCard

/-- THE SECOND FORM's CARD OF 'laws.FnExprBare'. -/
def fnExprBareUptoCard : Claim7 := { stood := { row := fnExprBareUptoRow, standIns := [], harness := (true, "efe77ef0200a9c3714aab9088d00859e3eb7b6b75bc6ae98924528e4a4d5cdd7"), looks := true }, kinds := [], alts := [], laidByText := true, laidKinds := [.data, .data, .data, .sentinel, .sentinel, .widerDeep], laidTests := true, laidLooks := .later }
def FnExprBareUptoCardSaid : Prop := Claim7.holds Tryd.pinned (.plain (OpenSpec.upto fnExprBareSpec)) fnExprBareUptoCard

/-- THE SECOND FORM's CARD OF 'laws.FnExprPut'. -/
def fnExprPutUptoCard : Claim7 := { stood := { row := fnExprPutUptoRow, standIns := [], harness := (true, "efe77ef0200a9c3714aab9088d00859e3eb7b6b75bc6ae98924528e4a4d5cdd7"), looks := true }, kinds := [], alts := [], laidByText := true, laidKinds := [.data, .data, .data, .sentinel, .sentinel, .widerDeep], laidTests := true, laidLooks := .later }
def FnExprPutUptoCardSaid : Prop := Claim7.holds Tryd.pinned (.plain (OpenSpec.upto fnExprPutSpec)) fnExprPutUptoCard

/-- THE SECOND FORM's CARD OF 'laws.FnExprCast'. -/
def fnExprCastUptoCard : Claim7 := { stood := { row := fnExprCastUptoRow, standIns := [], harness := (true, "efe77ef0200a9c3714aab9088d00859e3eb7b6b75bc6ae98924528e4a4d5cdd7"), looks := true }, kinds := [], alts := [], laidByText := true, laidKinds := [.data, .data, .data, .sentinel, .sentinel, .widerDeep], laidTests := true, laidLooks := .later }
def FnExprCastUptoCardSaid : Prop := Claim7.holds Tryd.pinned (.plain (OpenSpec.upto fnExprCastSpec)) fnExprCastUptoCard
end Rows
end Go.Proofs.YtnejngpdplhbhaaDoor
