/-
  DERIVED. GIVEN WITH THE SEED: THE CARDS: each row of YtgfbjpmbaibnoaaDoorRows.lean that lists a variable, with what it lists TIED to the program's text (the seventh form; the later family's looks); each row that meets fmt, with fmt's text TOLD by the authors' own Lean function (tested against real Go, not proved from fmt's source: count such statements apart). THE CARD IS WHAT COUNTS. Prove the row's statement (the work); the ties are given (YtgfbjpmbaibnoaaDoorTie.lean); close each card by the builder's one call (the guide's Derived/Test/ToyasCard.lean, 'card_holds'). Laid BY PROGRAM, IN A SANDBOX (cutbox-door.mjs). By AI agents, Wed Nov 11 2026. No macro, syntax, notation, axiom, sorry.
-/
import Derived.Test.YtgfbjpmbaibnoaaDoorRows
import GoSem.ClaimSeven
namespace Go.Proofs.YtgfbjpmbaibnoaaDoor
namespace Rows

/-- THE TIED CARD OF 'laws.FnExactMapRead'. -/
def fnExactMapReadCard : Claim7 := { stood := { row := fnExactMapReadRow, standIns := [], harness := (true, "ed4ff6b2a25983bce87fa8a43503296fd763dc6dd058e322817093acf848c0fe"), looks := false }, kinds := [], alts := [], laidByText := true, laidKinds := [.data, .pinned], laidTests := true, laidLooks := .later }
def FnExactMapReadCardSaid : Prop := Claim7.holds Tryd.pinned (.plain (OpenSpec.ofChange fnExactMapReadSpec)) fnExactMapReadCard

/-- THE TIED CARD OF 'laws.FnMapCut'. -/
def fnMapCutCard : Claim7 := { stood := { row := fnMapCutRow, standIns := [], harness := (true, "ed4ff6b2a25983bce87fa8a43503296fd763dc6dd058e322817093acf848c0fe"), looks := false }, kinds := [], alts := [], laidByText := true, laidKinds := [.data, .pinned], laidTests := true, laidLooks := .later }
def FnMapCutCardSaid : Prop := Claim7.holds Tryd.pinned (.plain (OpenSpec.ofChange fnMapCutSpec)) fnMapCutCard

/-- THE SECOND FORM's CARD OF 'laws.FnExactMapRead'. -/
def fnExactMapReadUptoCard : Claim7 := { stood := { row := fnExactMapReadUptoRow, standIns := [], harness := (true, "ed4ff6b2a25983bce87fa8a43503296fd763dc6dd058e322817093acf848c0fe"), looks := false }, kinds := [], alts := [], laidByText := true, laidKinds := [.data, .pinned], laidTests := true, laidLooks := .later }
def FnExactMapReadUptoCardSaid : Prop := Claim7.holds Tryd.pinned (.plain (OpenSpec.upto fnExactMapReadSpec)) fnExactMapReadUptoCard

/-- THE SECOND FORM's CARD OF 'laws.FnMapCut'. -/
def fnMapCutUptoCard : Claim7 := { stood := { row := fnMapCutUptoRow, standIns := [], harness := (true, "ed4ff6b2a25983bce87fa8a43503296fd763dc6dd058e322817093acf848c0fe"), looks := false }, kinds := [], alts := [], laidByText := true, laidKinds := [.data, .pinned], laidTests := true, laidLooks := .later }
def FnMapCutUptoCardSaid : Prop := Claim7.holds Tryd.pinned (.plain (OpenSpec.upto fnMapCutSpec)) fnMapCutUptoCard
end Rows
end Go.Proofs.YtgfbjpmbaibnoaaDoor
