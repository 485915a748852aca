
/- The law FnExactExprBare: the walk. -/
import Derived.Test.YtojoknalnmmpeaaGreatDoorBareW
namespace Go.Proofs.YtojoknalnmmpeaaGreatDoor
set_option maxRecDepth 100000
set_option linter.unusedSimpArgs false
set_option linter.unusedVariables false
open Go.RowKit
attribute [local go_sem] bs_toList bs_get bs_size

theorem ExV.form4 {w : World} {B : Nat} {v : Value} {x : Ex} (h : ExV w B v x) : ∃ A c, v = .agg #[.int .i64 x.kind, .int .i64 x.n, .string (bs x.s), .slice A x.kids.length c] ∧ x.kids.length ≤ c ∧ c ≤ 9223372036854775807 ∧ x.s.length ≤ 9223372036854775807 ∧ ExS w B (.slice A x.kids.length c) x.kids := by
  obtain ⟨kv, rfl, h1, h2⟩ := id h
  obtain ⟨A, c, rfl, h3, h4⟩ := h2.val
  exact ⟨A, c, rfl, h3, h4, h1, h2⟩
theorem Blk.foot {w w' : World} {g : Nat} {t : TypeId} {cs : Array Value} {bl : List Nat} (h : Blk w g t cs) (hF : Foot w w' bl) (hn : g ∉ bl) : Blk w' g t cs := (hF.2.2.2.2 g h.lt hn).trans h
def xcs (x : Ex) (A : Option Addr) (c : Nat) : Array Value := #[.int .i64 x.kind, .int .i64 x.n, .string (bs x.s), .slice A x.kids.length c]
end Go.Proofs.YtojoknalnmmpeaaGreatDoor
