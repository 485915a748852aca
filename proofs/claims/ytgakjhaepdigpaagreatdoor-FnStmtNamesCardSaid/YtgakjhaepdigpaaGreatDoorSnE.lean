
/- The words of a tree that is right, else none. No program in sight. -/
import Derived.Test.YtgakjhaepdigpaaGreatDoorRdE
import Derived.Test.YtgakjhaepdigpaaGreatDoorZm2
import Derived.Test.YtgakjhaepdigpaaGreatDoorWds
import Derived.Test.YtgakjhaepdigpaaGreatDoorZm10
namespace Go.Proofs.YtgakjhaepdigpaaGreatDoor
set_option maxRecDepth 100000
set_option linter.unusedSimpArgs false
set_option linter.unusedVariables false
open Go.RowKit

theorem ExV.form4n {w : World} {B : Nat} {v : Value} {x : Ex} (h : ExV w B v x) : ∃ A c, v = .agg #[.int .i64 x.kind, .int .i64 x.n, .string (bs x.s), .slice A x.kids.length c] ∧ x.kids.length ≤ c ∧ c ≤ 9223372036854775807 ∧ x.s.length ≤ 9223372036854775807 ∧ ExS w B (.slice A x.kids.length c) x.kids := by
  obtain ⟨kv, rfl, h1, h2⟩ := id h
  obtain ⟨A, c, rfl, h3, h4⟩ := h2.val
  exact ⟨A, c, rfl, h3, h4, h1, h2⟩
/-- the words of a tree that is right, else none -/
noncomputable def exW (x : Ex) : List Bytes := open Classical in if h : ∃ e : E, x = e.ex ∧ e.Ok then h.choose.words 1 else []
theorem exW_yes {e : E} (h : e.Ok) : exW e.ex = e.words 1 := by
  have hx : ∃ g : E, e.ex = g.ex ∧ g.Ok := ⟨e, rfl, h⟩
  unfold exW
  rw [dif_pos hx]
  rw [← E.ex_inj hx.choose_spec.1]
theorem exW_no {x : Ex} (h : exOkB x = false) : exW x = [] := by
  unfold exW
  rw [dif_neg]
  intro hx
  rw [E.ok_iff.2 hx] at h
  cases h
theorem exW_len (x : Ex) : (exW x).length ≤ 58 := by
  by_cases h : exOkB x = true
  · obtain ⟨e, rfl, he⟩ := E.ok_iff.1 h
    rw [exW_yes he]
    have := E.words_len e 1
    have := he.2.2
    omega
  · rw [exW_no (by simpa using h)]; simp
theorem exW_short (x : Ex) : ∀ s ∈ exW x, 1 ≤ s.length ∧ s.length ≤ 8 := by
  by_cases h : exOkB x = true
  · obtain ⟨e, rfl, he⟩ := E.ok_iff.1 h
    rw [exW_yes he]
    exact E.words_short e 1 he.1
  · rw [exW_no (by simpa using h)]; intro s hs; simp at hs
end Go.Proofs.YtgakjhaepdigpaaGreatDoor
