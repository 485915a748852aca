/- Trees in the laws' own hands: how much they hold, their copies, their equality. -/
import Derived.Test.YtgfbjpmbaibnoaaDoorRows
import Derived.Test.YtgfbjpmbaibnoaaDoorBas
import Derived.Deep.Light
namespace Go.Proofs.YtgfbjpmbaibnoaaDoor
set_option maxRecDepth 100000
set_option linter.unusedSimpArgs false
set_option linter.unusedVariables false
open Go.RowKit
attribute [local go_sem] bs_toList bs_get bs_size

theorem szOut_sub {n : Int} {a b : Nat} (h : 0 ≤ n - a) : szOut (n - a) b = szOut n (a + b) := by unfold szOut; split <;> split <;> omega
end Go.Proofs.YtgfbjpmbaibnoaaDoor


/- Trees in the laws' own hands: their equality, their copies. -/
namespace Go.Proofs.YtgfbjpmbaibnoaaDoor
set_option maxRecDepth 100000
set_option linter.unusedSimpArgs false
set_option linter.unusedVariables false
open Go.RowKit
attribute [local go_sem] bs_toList bs_get bs_size

theorem later_call' {P : Program} {f : FuncId} {args : Array Value} {W : World} {x : Later W.heap.size W} {v : Value}
    (h : ∀ y : Later W.heap.size W, Calls P f args y.w' fun e w' => e = .returned v ∧ Below y.w'.heap.size y.w' w') : Calls P f args x.w' fun e w'' => e = .returned v ∧ ∃ y : Later W.heap.size W, w'' = y.w' :=
  later_call (Nat.le_refl _) (h x)
theorem ExV.later {W : World} {v : Value} {e : Ex} (h : ExV W W.heap.size v e) (y : Later W.heap.size W) : ExV y.w' y.w'.heap.size v e := h.ext y.ok

theorem infoExpr : (Tryd.prog.info? 91).map (fun i => (i.zero, i.size, i.bytes)) = some (some (.agg #[.int .i64 0, .int .i64 0, .string ⟨#[]⟩, .slice none 0 0]), 4, 56) := by kernel_rfl
end Go.Proofs.YtgfbjpmbaibnoaaDoor


/- Statements in the laws' own hands: how much they hold, their copies, their equality. -/
namespace Go.Proofs.YtgfbjpmbaibnoaaDoor
set_option maxRecDepth 100000
set_option linter.unusedSimpArgs false
set_option linter.unusedVariables false
open Go.RowKit
attribute [local go_sem] bs_toList bs_get bs_size

/-- how much a statement holds -/
def Sm.wt (s : Sm) : Nat := s.name.length + s.typ.length + s.ex.wt + s.th.wt
/-- a statement of the call's own: its trees lie in the blocks bl -/
def SmOV (t : TypeId) (w : World) (v : Value) (s : Sm) (bl : List Nat) : Prop := ∃ (A1 A2 : Option Addr) (c1 c2 : Nat) (b1 b2 : List Nat), v = .agg #[.int .i64 s.kind, .string (bs s.name), .string (bs s.typ), .int .i64 s.ex.kind, .int .i64 s.ex.n, .string (bs s.ex.s), .slice A1 s.ex.kids.length c1, .int .i64 s.th.kind, .int .i64 s.th.n, .string (bs s.th.s), .slice A2 s.th.kids.length c2] ∧
  s.name.length ≤ 9223372036854775807 ∧ s.typ.length ≤ 9223372036854775807 ∧ s.ex.s.length ≤ 9223372036854775807 ∧ s.th.s.length ≤ 9223372036854775807 ∧ ExO t w (.slice A1 s.ex.kids.length c1) s.ex.kids b1 ∧ ExO t w (.slice A2 s.th.kids.length c2) s.th.kids b2 ∧ bl = b1 ++ b2
theorem SmOV.smv {t : TypeId} {w : World} {v : Value} {s : Sm} {bl : List Nat} (h : SmOV t w v s bl) : SmV w w.heap.size v s := by
  obtain ⟨A1, A2, c1, c2, b1, b2, rfl, h1, h2, h3, h4, h5, h6, rfl⟩ := h
  exact ⟨⟨s.kind, s.name, s.typ, s.ex.kind, s.ex.n, s.ex.s, _, s.th.kind, s.th.n, s.th.s, _⟩, rfl, rfl, rfl, rfl, rfl, rfl, rfl, rfl, rfl, rfl, by rw [bs_size]; exact h1, by rw [bs_size]; exact h2, by rw [bs_size]; exact h3, by rw [bs_size]; exact h4, h5.exs, h6.exs⟩
end Go.Proofs.YtgfbjpmbaibnoaaDoor
