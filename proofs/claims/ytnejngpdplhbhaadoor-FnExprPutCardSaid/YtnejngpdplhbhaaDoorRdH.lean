
/- The program's reader of words: a number, a name, what is in brackets, types behind. -/
import Derived.Test.YtnejngpdplhbhaaDoorRdIL
namespace Go.Proofs.YtnejngpdplhbhaaDoor
set_option maxRecDepth 100000
set_option linter.unusedSimpArgs false
set_option linter.unusedVariables false
open Go.RowKit
attribute [local go_sem] bs_toList bs_get bs_size

/-- the answer, once what stands ahead of the types was read -/
def AsR (M : PR) (bad : Bool) (x : Ex) (r : List Bytes) : Prop := (bad = true ∧ M = none) ∨ (bad = false ∧ ∃ n, r.length ≤ n ∧ M = asW false n x r)
theorem AsR.stop {M : PR} {bad : Bool} {x : Ex} {r : List Bytes} (h : AsR M bad x r) (hs : atB r bad cAs = false) : M = (if bad then none else some (x, r)) := by
  rcases h with ⟨rfl, rfl⟩ | ⟨rfl, n, hn, rfl⟩
  · rfl
  · refine asW_stop ?_
    rintro w r' rfl rfl
    simp [atB] at hs
theorem AsR.step {M : PR} {x : Ex} {t : Bytes} {r : List Bytes} (h : AsR M false x (cAs :: t :: r)) : AsR M false (.mk 4 0 t [x]) r := by
  rcases h with ⟨h, _⟩ | ⟨_, n, hn, rfl⟩
  · cases h
  · simp only [List.length_cons] at hn
    obtain ⟨m, rfl⟩ : ∃ m, n = m + 1 := ⟨n - 1, by omega⟩
    exact .inr ⟨rfl, m, by omega, by simp [asW]⟩
theorem AsR.end_ {M : PR} {x y : Ex} (h : AsR M false x [cAs]) : AsR M true y [] := by
  rcases h with ⟨h, _⟩ | ⟨_, n, hn, rfl⟩
  · cases h
  · simp only [List.length_cons] at hn
    obtain ⟨m, rfl⟩ : ∃ m, n = m + 1 := ⟨n - 1, by omega⟩
    exact .inl ⟨rfl, by simp [asW]⟩
theorem TrN.leaf (b lo hi : Nat) (w : World) (k n : Int) (s : Bytes) (hs : s.length ≤ 9223372036854775807) : TrN b lo hi w (.agg (bxE (.mk k n s []) none 0)) (.mk k n s []) :=
  ⟨_, [], rfl, hs, .nil none 0 (by unfold maxLen; omega), Own.nil _ _, by simp⟩
end Go.Proofs.YtnejngpdplhbhaaDoor
