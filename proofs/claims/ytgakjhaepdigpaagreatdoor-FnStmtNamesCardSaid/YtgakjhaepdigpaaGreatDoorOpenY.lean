
/- From the data of a law's code to bytes in memory. No condition. -/
import Derived.Test.YtgakjhaepdigpaaGreatDoorZm15
import Derived.Test.YtgakjhaepdigpaaGreatDoorDwPQ
namespace Go.Proofs.YtgakjhaepdigpaaGreatDoor
set_option maxRecDepth 100000
set_option linter.unusedSimpArgs false
set_option linter.unusedVariables false
open Go.RowKit Go.ChangeShapes Go.WideShapes Go.ChangeAt Go.Deep
section
variable {H : Type} {enc : TypeId × Value → H} {W W' : World}
theorem code_open {sp : Nat → Bool} {v : Value} {d : DataW H} {p : List MemPlace} {r : Reach} {b0 : Nat} (hv : Value.okWide Tryz.prog W r b0 32 v) (h : DataW.Trod enc Tryz.prog W 0 sp true 32 v d p) : ∃ l : List Int, CodeV W v l := by
  obtain ⟨a0, len0, cap0, rfl⟩ := okWide_slice Tryz.underlying32 hv
  obtain ⟨fuel, hf⟩ := h
  rcases DataW.trod_slice Tryz.underlying32 hf with ⟨hcs, _⟩ | ⟨a, len, cap, elems, rest, n, _, hcs, _, _, hl, hm, hel, hi, _⟩
  · simp [Value.cells] at hcs
    obtain ⟨rfl, rfl, rfl⟩ := hcs
    exact ⟨[], ⟨none, 0, rfl, Nat.le_refl _, by unfold maxLen; omega, fun h => absurd h (by simp)⟩, fun s h => by simp at h⟩
  · simp [Value.cells] at hcs
    obtain ⟨rfl, rfl, rfl⟩ := hcs
    exact sl_of_reads (row := byRow) (k := 1) (by decide) hl hm (reads_of_trod (k := 1) (by kernel_rfl) hi hel (fun cs x hx => by
      obtain ⟨n, hn, _, hz⟩ := DataW.trod_int Tryz.underlying5 hx
      refine ⟨n, hn, rfl, ?_⟩
      have h1 : IntKind.u8.min = 0 := by decide
      have h2 : IntKind.u8.max = 255 := by decide
      simp [Lit.wf, h1, h2] at hz
      omega))
end
end Go.Proofs.YtgakjhaepdigpaaGreatDoor
