/- The words of what is reckoned: the program's, of two parts. -/
import Derived.Test.YtgfbjpmbaibnoaaDoorImW
import Derived.Test.YtgfbjpmbaibnoaaDoorBas
namespace Go.Proofs.YtgfbjpmbaibnoaaDoor
set_option maxRecDepth 100000
set_option linter.unusedSimpArgs false
set_option linter.unusedVariables false
open Go.RowKit
attribute [local go_sem] bs_toList bs_get bs_size

end Go.Proofs.YtgfbjpmbaibnoaaDoor


/- The words of statements: the program's. -/
namespace Go.Proofs.YtgfbjpmbaibnoaaDoor
set_option maxRecDepth 100000
set_option linter.unusedSimpArgs false
set_option linter.unusedVariables false
open Go.RowKit
attribute [local go_sem] bs_toList bs_get bs_size

theorem tgt_b (op : Op2) : tgt op.b = op.lv := by cases op <;> decide
end Go.Proofs.YtgfbjpmbaibnoaaDoor


/- A statement in a slice of statements: its eleven cells, in every later world. No condition. -/
namespace Go.Proofs.YtgfbjpmbaibnoaaDoor
set_option maxRecDepth 100000
set_option linter.unusedSimpArgs false
set_option linter.unusedVariables false
open Go.RowKit

theorem sm_at2 {W : World} {B n c : Nat} {A : Option Addr} {l : List Sm} {i : Nat} (h : SmS W B (.slice A n c) l) (hi : i < l.length) :
    ∃ (b o : Nat) (s : Sm) (A1 A2 : Option Addr) (c1 c2 : Nat), A = some ⟨b, o, none⟩ ∧ b < B ∧ l[i]? = some s ∧ SmV W B (.agg #[.int .i64 s.kind, .string (bs s.name), .string (bs s.typ), .int .i64 s.ex.kind, .int .i64 s.ex.n, .string (bs s.ex.s), .slice A1 s.ex.kids.length c1, .int .i64 s.th.kind, .int .i64 s.th.n, .string (bs s.th.s), .slice A2 s.th.kids.length c2]) s ∧
      (∀ x : Later B W, x.w'.cell? ⟨b, o + i * 11, none⟩ = some (.int .i64 s.kind)) ∧ (∀ x : Later B W, x.w'.cell? ⟨b, o + i * 11 + 1, none⟩ = some (.string (bs s.name))) ∧ (∀ x : Later B W, x.w'.cell? ⟨b, o + i * 11 + 2, none⟩ = some (.string (bs s.typ))) ∧
      (∀ x : Later B W, x.w'.cell? ⟨b, o + i * 11 + 3, none⟩ = some (.int .i64 s.ex.kind)) ∧ (∀ x : Later B W, x.w'.cell? ⟨b, o + i * 11 + 4, none⟩ = some (.int .i64 s.ex.n)) ∧ (∀ x : Later B W, x.w'.cell? ⟨b, o + i * 11 + 5, none⟩ = some (.string (bs s.ex.s))) ∧
      (∀ x : Later B W, x.w'.cell? ⟨b, o + i * 11 + 6, none⟩ = some (.slice A1 s.ex.kids.length c1)) ∧ (∀ x : Later B W, x.w'.cell? ⟨b, o + i * 11 + 7, none⟩ = some (.int .i64 s.th.kind)) ∧ (∀ x : Later B W, x.w'.cell? ⟨b, o + i * 11 + 8, none⟩ = some (.int .i64 s.th.n)) ∧
      (∀ x : Later B W, x.w'.cell? ⟨b, o + i * 11 + 9, none⟩ = some (.string (bs s.th.s))) ∧ (∀ x : Later B W, x.w'.cell? ⟨b, o + i * 11 + 10, none⟩ = some (.slice A2 s.th.kids.length c2)) := by
  obtain ⟨b, o, f, s, hA, hb, hg, hF, hc⟩ := sm_at h hi
  obtain ⟨h1, h2, h3, h4, h5, h6, h7, h8, h9, h10, h11, h12, h13, h14, h15⟩ := hF
  obtain ⟨A1, c1, e1, _, _⟩ := h14.val
  obtain ⟨A2, c2, e2, _, _⟩ := h15.val
  have hrow : fsRow f = [.int .i64 s.kind, .string (bs s.name), .string (bs s.typ), .int .i64 s.ex.kind, .int .i64 s.ex.n, .string (bs s.ex.s), .slice A1 s.ex.kids.length c1, .int .i64 s.th.kind, .int .i64 s.th.n, .string (bs s.th.s), .slice A2 s.th.kids.length c2] := by
    simp only [fsRow, h1, h2, h3, h4, h5, h6, h7, h8, h9, e1, e2]
  rw [hrow] at hc
  exact ⟨b, o, s, A1, A2, c1, c2, hA, hb, hg, ⟨f, by rw [hrow], h1, h2, h3, h4, h5, h6, h7, h8, h9, h10, h11, h12, h13, h14, h15⟩,
    hc 0 _ rfl, hc 1 _ rfl, hc 2 _ rfl, hc 3 _ rfl, hc 4 _ rfl, hc 5 _ rfl, hc 6 _ rfl, hc 7 _ rfl, hc 8 _ rfl, hc 9 _ rfl, hc 10 _ rfl⟩
/-- lines that are a program -/
noncomputable def progOkB (l : List Sm) : Bool := l.all smOkB && decide (1 ≤ l.length) && decide (l.length ≤ 16)
end Go.Proofs.YtgfbjpmbaibnoaaDoor
