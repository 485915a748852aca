/-
  DERIVED. GIVEN WITH THE SEED: THE CARDS: each row of YtgoobhmbfjimoaaDoorRows.lean that lists a variable, with what it lists TIED to the program's text (the seventh form; the later family's looks); each row that meets fmt, with fmt's text TOLD by the authors' own Lean function (tested against real Go, not proved from fmt's source: count such statements apart). THE CARD IS WHAT COUNTS. Prove the row's statement (the work); the ties are given (YtgoobhmbfjimoaaDoorTie.lean); close each card by the builder's one call (the guide's Derived/Test/ToyasCard.lean, 'card_holds'). Laid BY PROGRAM, IN A SANDBOX (cutbox-door.mjs). By AI agents, Wed Nov 11 2026. No macro, syntax, notation, axiom, sorry.
-/
import Derived.Test.YtgoobhmbfjimoaaDoorRows
import GoSem.ClaimSeven
namespace Go.Proofs.YtgoobhmbfjimoaaDoor
namespace Rows

/-- THE TIED CARD OF 'laws.FnExactExprBare'. -/
def fnExactExprBareCard : Claim7 := { stood := { row := fnExactExprBareRow, standIns := [], harness := (true, "518834d74369b56b62916c425a63e178fbf0cce256d7124218c54a2450f78835"), looks := true }, kinds := [], alts := [], laidByText := true, laidKinds := [.data, .data, .data, .sentinel, .sentinel, .widerDeep], laidTests := true, laidLooks := .later }
def FnExactExprBareCardSaid : Prop := Claim7.holds Tryd.pinned (.plain (OpenSpec.ofChange fnExactExprBareSpec)) fnExactExprBareCard

/-- THE TIED CARD OF 'laws.FnExprPut'. -/
def fnExprPutCard : Claim7 := { stood := { row := fnExprPutRow, standIns := [], harness := (true, "518834d74369b56b62916c425a63e178fbf0cce256d7124218c54a2450f78835"), looks := true }, kinds := [], alts := [], laidByText := true, laidKinds := [.data, .data, .data, .sentinel, .sentinel, .widerDeep], laidTests := true, laidLooks := .later }
def FnExprPutCardSaid : Prop := Claim7.holds Tryd.pinned (.plain (OpenSpec.ofChange fnExprPutSpec)) fnExprPutCard

/-- THE TIED CARD OF 'laws.FnExprCast'. -/
def fnExprCastCard : Claim7 := { stood := { row := fnExprCastRow, standIns := [], harness := (true, "518834d74369b56b62916c425a63e178fbf0cce256d7124218c54a2450f78835"), looks := true }, kinds := [], alts := [], laidByText := true, laidKinds := [.data, .data, .data, .sentinel, .sentinel, .widerDeep], laidTests := true, laidLooks := .later }
def FnExprCastCardSaid : Prop := Claim7.holds Tryd.pinned (.plain (OpenSpec.ofChange fnExprCastSpec)) fnExprCastCard

/-- THE TIED CARD OF 'laws.FnExprBare'. -/
def fnExprBareCard : Claim7 := { stood := { row := fnExprBareRow, standIns := [], harness := (true, "518834d74369b56b62916c425a63e178fbf0cce256d7124218c54a2450f78835"), looks := true }, kinds := [], alts := [], laidByText := true, laidKinds := [.data, .data, .data, .sentinel, .sentinel, .widerDeep], laidTests := true, laidLooks := .later }
def FnExprBareCardSaid : Prop := Claim7.holds Tryd.pinned (.plain (OpenSpec.ofChange fnExprBareSpec)) fnExprBareCard

/-- THE TIED CARD OF 'laws.FnExprOne'. -/
def fnExprOneCard : Claim7 := { stood := { row := fnExprOneRow, standIns := [], harness := (true, "518834d74369b56b62916c425a63e178fbf0cce256d7124218c54a2450f78835"), looks := true }, kinds := [], alts := [], laidByText := true, laidKinds := [.data, .data, .data, .sentinel, .sentinel, .widerDeep], laidTests := true, laidLooks := .later }
def FnExprOneCardSaid : Prop := Claim7.holds Tryd.pinned (.plain (OpenSpec.ofChange fnExprOneSpec)) fnExprOneCard

/-- THE TIED CARD OF 'laws.FnExactExprRead'. -/
def fnExactExprReadCard : Claim7 := { stood := { row := fnExactExprReadRow, standIns := [], harness := (true, "518834d74369b56b62916c425a63e178fbf0cce256d7124218c54a2450f78835"), looks := true }, kinds := [], alts := [], laidByText := true, laidKinds := [.data, .data, .data, .sentinel, .sentinel, .widerDeep], laidTests := true, laidLooks := .later }
def FnExactExprReadCardSaid : Prop := Claim7.holds Tryd.pinned (.plain (OpenSpec.ofChange fnExactExprReadSpec)) fnExactExprReadCard

/-- THE SECOND FORM's CARD OF 'laws.FnExactExprBare'. -/
def fnExactExprBareUptoCard : Claim7 := { stood := { row := fnExactExprBareUptoRow, standIns := [], harness := (true, "518834d74369b56b62916c425a63e178fbf0cce256d7124218c54a2450f78835"), looks := true }, kinds := [], alts := [], laidByText := true, laidKinds := [.data, .data, .data, .sentinel, .sentinel, .widerDeep], laidTests := true, laidLooks := .later }
def FnExactExprBareUptoCardSaid : Prop := Claim7.holds Tryd.pinned (.plain (OpenSpec.upto fnExactExprBareSpec)) fnExactExprBareUptoCard

/-- THE SECOND FORM's CARD OF 'laws.FnExprPut'. -/
def fnExprPutUptoCard : Claim7 := { stood := { row := fnExprPutUptoRow, standIns := [], harness := (true, "518834d74369b56b62916c425a63e178fbf0cce256d7124218c54a2450f78835"), looks := true }, kinds := [], alts := [], laidByText := true, laidKinds := [.data, .data, .data, .sentinel, .sentinel, .widerDeep], laidTests := true, laidLooks := .later }
def FnExprPutUptoCardSaid : Prop := Claim7.holds Tryd.pinned (.plain (OpenSpec.upto fnExprPutSpec)) fnExprPutUptoCard

/-- THE SECOND FORM's CARD OF 'laws.FnExprCast'. -/
def fnExprCastUptoCard : Claim7 := { stood := { row := fnExprCastUptoRow, standIns := [], harness := (true, "518834d74369b56b62916c425a63e178fbf0cce256d7124218c54a2450f78835"), looks := true }, kinds := [], alts := [], laidByText := true, laidKinds := [.data, .data, .data, .sentinel, .sentinel, .widerDeep], laidTests := true, laidLooks := .later }
def FnExprCastUptoCardSaid : Prop := Claim7.holds Tryd.pinned (.plain (OpenSpec.upto fnExprCastSpec)) fnExprCastUptoCard

/-- THE SECOND FORM's CARD OF 'laws.FnExprBare'. -/
def fnExprBareUptoCard : Claim7 := { stood := { row := fnExprBareUptoRow, standIns := [], harness := (true, "518834d74369b56b62916c425a63e178fbf0cce256d7124218c54a2450f78835"), looks := true }, kinds := [], alts := [], laidByText := true, laidKinds := [.data, .data, .data, .sentinel, .sentinel, .widerDeep], laidTests := true, laidLooks := .later }
def FnExprBareUptoCardSaid : Prop := Claim7.holds Tryd.pinned (.plain (OpenSpec.upto fnExprBareSpec)) fnExprBareUptoCard

/-- THE SECOND FORM's CARD OF 'laws.FnExprOne'. -/
def fnExprOneUptoCard : Claim7 := { stood := { row := fnExprOneUptoRow, standIns := [], harness := (true, "518834d74369b56b62916c425a63e178fbf0cce256d7124218c54a2450f78835"), looks := true }, kinds := [], alts := [], laidByText := true, laidKinds := [.data, .data, .data, .sentinel, .sentinel, .widerDeep], laidTests := true, laidLooks := .later }
def FnExprOneUptoCardSaid : Prop := Claim7.holds Tryd.pinned (.plain (OpenSpec.upto fnExprOneSpec)) fnExprOneUptoCard

/-- THE SECOND FORM's CARD OF 'laws.FnExactExprRead'. -/
def fnExactExprReadUptoCard : Claim7 := { stood := { row := fnExactExprReadUptoRow, standIns := [], harness := (true, "518834d74369b56b62916c425a63e178fbf0cce256d7124218c54a2450f78835"), looks := true }, kinds := [], alts := [], laidByText := true, laidKinds := [.data, .data, .data, .sentinel, .sentinel, .widerDeep], laidTests := true, laidLooks := .later }
def FnExactExprReadUptoCardSaid : Prop := Claim7.holds Tryd.pinned (.plain (OpenSpec.upto fnExactExprReadSpec)) fnExactExprReadUptoCard
end Rows
end Go.Proofs.YtgoobhmbfjimoaaDoor
