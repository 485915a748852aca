/- What a program says: the reference's ProgRun. -/
import Derived.Test.YtgakjhaepdigpaaGreatDoorZm18
import Derived.Deep.CutBlock
namespace Go.Proofs.YtgakjhaepdigpaaGreatDoor
set_option maxRecDepth 100000
set_option linter.unusedSimpArgs false
set_option linter.unusedVariables false
open Go.RowKit
attribute [local go_sem] bs_toList bs_get bs_size

theorem DJ.symm {n t : Value} (h : DJ n t) : DJ t n := fun b hb e => h b e hb
theorem DJ.ne {n t : Value} (h : DJ n t) : t.ownBlock = none ∨ t.ownBlock ≠ n.ownBlock := by
  rcases hq : t.ownBlock with _ | q
  · exact .inl rfl
  · exact .inr (fun e => h q e.symm hq)
theorem ret2_bool {u : Value} {b c : Bool} (h : b = c) : Ending.returned (.tuple #[u, .bool b]) = .returned (.tuple #[u, .bool c]) := by rw [h]
theorem GtN.cells1 (x : Int) (w : World) : ∀ (j : Nat) (u : Value), ([x].flatMap intRow)[j]? = some u → (w.alloc (.cells #[.int .i64 x] 3)).cell? ((⟨w.heap.size, 0, none⟩ : Addr).add j) = some u :=
  World.news_of_block (heap_alloc_new w _)
end Go.Proofs.YtgakjhaepdigpaaGreatDoor


/- The type of a program: the program's. -/
namespace Go.Proofs.YtgakjhaepdigpaaGreatDoor
set_option maxRecDepth 100000
set_option linter.unusedSimpArgs false
set_option linter.unusedVariables false
open Go.RowKit
attribute [local go_sem] bs_toList bs_get bs_size

/-- what the types of a line's two parts say of whether it fits -/
noncomputable def fitB (s : Sm) (r1 r2 : Bytes) : Bool := if s.kind = 0 then true else if s.kind = 1 then r1 == s.typ else if s.kind = 2 then !(r1 == []) else (r1 == cBool && !(r2 == []))
theorem own_ne {n t : Value} (h : DJ n t) : t.ownBlock = none ∨ t.ownBlock ≠ n.ownBlock := by
  rcases hq : t.ownBlock with _ | q
  · exact .inl rfl
  · exact .inr (fun e => h q e.symm hq)
theorem own_lt {α : Type} {row : α → List Value} {k B : Nat} {ty : TypeId} {w : World} {u : Value} {m : List α} (h : Gt row k ty B w u m) {b : Nat} (hb : w.heap.size ≤ b) : some b ≠ u.ownBlock := fun e => by
  have := (h.lt e.symm).2
  omega
theorem sm_parts {w : World} {B : Nat} {s : Sm} {A1 A2 : Option Addr} {c1 c2 : Nat} (h : SmV w B (.agg #[.int .i64 s.kind, .string (bs s.name), .string (bs s.typ), .int .i64 s.ex.kind, .int .i64 s.ex.n, .string (bs s.ex.s), .slice A1 s.ex.kids.length c1, .int .i64 s.th.kind, .int .i64 s.th.n, .string (bs s.th.s), .slice A2 s.th.kids.length c2]) s) :
    ExV w B (.agg #[.int .i64 s.ex.kind, .int .i64 s.ex.n, .string (bs s.ex.s), .slice A1 s.ex.kids.length c1]) s.ex ∧ ExV w B (.agg #[.int .i64 s.th.kind, .int .i64 s.th.n, .string (bs s.th.s), .slice A2 s.th.kids.length c2]) s.th := by
  obtain ⟨B1, B2, d1, d2, he, _, _, h1, h2⟩ := h.form2
  simp only [Value.agg.injEq, Array.mk.injEq, List.cons.injEq, Value.slice.injEq, true_and, and_true] at he
  obtain ⟨⟨rfl, rfl⟩, rfl, rfl⟩ := he
  exact ⟨h1, h2⟩
end Go.Proofs.YtgakjhaepdigpaaGreatDoor
