
/- What the laid variables hold, the library's errors too. -/
import Derived.Test.YtgoobhmbfjimoaaDoorVars
import Derived.Test.YtgoobhmbfjimoaaDoorAto
namespace Go.Proofs.YtgoobhmbfjimoaaDoor
set_option maxRecDepth 100000
set_option linter.unusedSimpArgs false
set_option linter.unusedVariables false
open Go.RowKit Go.ChangeShapes Go.WideShapes Go.ChangeAt Go.Deep

theorem iface_cell {n nm : String} {d : DataW Unit} {r : List (String × DataW Unit)} {W : World} {g : Nat} {ti : TypeId} {ms : Array (String × TypeId)} (h : laidMet Tryd.prog ((n, .iface nm d) :: r) W) (hg : Tryd.prog.globalNamed n = some g) (ht : (Tryd.prog.globals[g]?).map (·.type) = some ti) (hi : Tryd.prog.underlying ti = some (.interface ms)) :
    ∃ tp p, W.cell? ⟨g, 0, none⟩ = some (.iface tp p) := by
  obtain ⟨ps, ⟨g0, t0, cs0, f0, p0, q0, hg0, ht0, hv0, hd0, _, _⟩, _, _⟩ := h
  obtain rfl := Option.some.inj (hg.symm.trans hg0)
  obtain rfl := Option.some.inj (ht.symm.trans ht0)
  obtain ⟨f1, u, v, hcs, _, _⟩ := iface_of_trod hi hd0
  have := World.var?_cell hg0 hv0 0
  rw [Array.eq_one_of_toList hcs] at this
  exact ⟨u, v, by simpa using this⟩
theorem enva_of_laid {W : World} (h0 : laidMetH Tryd.prog laidL W) : EnvA W := by
  have h := (laidL_plain W).1 h0
  have h4 := h.tail.tail.tail
  exact ⟨env_of_laid h0, iface_cell h4.tail (by kernel_rfl : Tryd.prog.globalNamed "strconv.ErrSyntax" = some 3) (by kernel_rfl : (Tryd.prog.globals[3]?).map (·.type) = some 116) Tryd.underlying116, iface_cell h4 (by kernel_rfl : Tryd.prog.globalNamed "strconv.ErrRange" = some 4) (by kernel_rfl : (Tryd.prog.globals[4]?).map (·.type) = some 116) Tryd.underlying116⟩
end Go.Proofs.YtgoobhmbfjimoaaDoor
