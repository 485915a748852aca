/-
  DERIVED. GIVEN WITH THE SEED: THE CARDS: each row of YtgfdakgibjplkaaDoorRows.lean that lists a variable, with what it lists TIED to the program's text (the seventh form; the later family's looks); each row that meets fmt, with fmt's text TOLD by the authors' own Lean function (tested against real Go, not proved from fmt's source: count such statements apart). THE CARD IS WHAT COUNTS. Prove the row's statement (the work); the ties are given (YtgfdakgibjplkaaDoorTie.lean); close each card by the builder's one call (the guide's Derived/Test/ToyasCard.lean, 'card_holds'). Laid BY PROGRAM, IN A SANDBOX (cutbox-door.mjs). By AI agents, Wed Nov 11 2026. No macro, syntax, notation, axiom, sorry.
-/
import Derived.Test.YtgfdakgibjplkaaDoorRows
import GoSem.ClaimSeven
namespace Go.Proofs.YtgfdakgibjplkaaDoor
namespace Rows

/-- THE TIED CARD OF 'laws.FnExactStmtOk'. -/
def fnExactStmtOkCard : Claim7 := { stood := { row := fnExactStmtOkRow, standIns := [], harness := (true, "68cead7a05dd57a6d7cd305b99e05329dbb3b71f174f2df5ad54d7a1e59bf323"), looks := true }, kinds := [], alts := [], laidByText := true, laidKinds := [.data, .data, .data, .sentinel, .sentinel, .widerDeep], laidTests := true, laidLooks := .later }
def FnExactStmtOkCardSaid : Prop := Claim7.holds Tryd.pinned (.plain (OpenSpec.ofChange fnExactStmtOkSpec)) fnExactStmtOkCard

/-- THE TIED CARD OF 'laws.FnExactStmtText'. -/
def fnExactStmtTextCard : Claim7 := { stood := { row := fnExactStmtTextRow, standIns := [], harness := (true, "68cead7a05dd57a6d7cd305b99e05329dbb3b71f174f2df5ad54d7a1e59bf323"), looks := true }, kinds := [], alts := [], laidByText := true, laidKinds := [.data, .data, .data, .sentinel, .sentinel, .widerDeep], laidTests := true, laidLooks := .later }
def FnExactStmtTextCardSaid : Prop := Claim7.holds Tryd.pinned (.plain (OpenSpec.ofChange fnExactStmtTextSpec)) fnExactStmtTextCard

/-- THE TIED CARD OF 'laws.FnExactExprBare'. -/
def fnExactExprBareCard : Claim7 := { stood := { row := fnExactExprBareRow, standIns := [], harness := (true, "68cead7a05dd57a6d7cd305b99e05329dbb3b71f174f2df5ad54d7a1e59bf323"), looks := true }, kinds := [], alts := [], laidByText := true, laidKinds := [.data, .data, .data, .sentinel, .sentinel, .widerDeep], laidTests := true, laidLooks := .later }
def FnExactExprBareCardSaid : Prop := Claim7.holds Tryd.pinned (.plain (OpenSpec.ofChange fnExactExprBareSpec)) fnExactExprBareCard

/-- THE SECOND FORM's CARD OF 'laws.FnExactStmtOk'. -/
def fnExactStmtOkUptoCard : Claim7 := { stood := { row := fnExactStmtOkUptoRow, standIns := [], harness := (true, "68cead7a05dd57a6d7cd305b99e05329dbb3b71f174f2df5ad54d7a1e59bf323"), looks := true }, kinds := [], alts := [], laidByText := true, laidKinds := [.data, .data, .data, .sentinel, .sentinel, .widerDeep], laidTests := true, laidLooks := .later }
def FnExactStmtOkUptoCardSaid : Prop := Claim7.holds Tryd.pinned (.plain (OpenSpec.upto fnExactStmtOkSpec)) fnExactStmtOkUptoCard

/-- THE SECOND FORM's CARD OF 'laws.FnExactStmtText'. -/
def fnExactStmtTextUptoCard : Claim7 := { stood := { row := fnExactStmtTextUptoRow, standIns := [], harness := (true, "68cead7a05dd57a6d7cd305b99e05329dbb3b71f174f2df5ad54d7a1e59bf323"), looks := true }, kinds := [], alts := [], laidByText := true, laidKinds := [.data, .data, .data, .sentinel, .sentinel, .widerDeep], laidTests := true, laidLooks := .later }
def FnExactStmtTextUptoCardSaid : Prop := Claim7.holds Tryd.pinned (.plain (OpenSpec.upto fnExactStmtTextSpec)) fnExactStmtTextUptoCard

/-- THE SECOND FORM's CARD OF 'laws.FnExactExprBare'. -/
def fnExactExprBareUptoCard : Claim7 := { stood := { row := fnExactExprBareUptoRow, standIns := [], harness := (true, "68cead7a05dd57a6d7cd305b99e05329dbb3b71f174f2df5ad54d7a1e59bf323"), looks := true }, kinds := [], alts := [], laidByText := true, laidKinds := [.data, .data, .data, .sentinel, .sentinel, .widerDeep], laidTests := true, laidLooks := .later }
def FnExactExprBareUptoCardSaid : Prop := Claim7.holds Tryd.pinned (.plain (OpenSpec.upto fnExactExprBareSpec)) fnExactExprBareUptoCard
end Rows
end Go.Proofs.YtgfdakgibjplkaaDoor
