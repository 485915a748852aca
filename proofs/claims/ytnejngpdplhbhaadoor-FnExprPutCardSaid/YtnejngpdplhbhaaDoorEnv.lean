
/- What the package variables hold, and the library's contracts in this proof's words. -/
import Derived.Test.YtnejngpdplhbhaaDoorRows
import Derived.Test.YtnejngpdplhbhaaDoorShf
import Derived.Test.YtnejngpdplhbhaaDoorBas
import Derived.Lib.SmallJoins
import Derived.Lib.AppendIntMem
import Derived.Deep.Light
namespace Go.Proofs.YtnejngpdplhbhaaDoor
set_option maxRecDepth 100000
set_option linter.unusedSimpArgs false
set_option linter.unusedVariables false
open Go.RowKit
attribute [local go_sem] bs_toList bs_get bs_size

def ownList : List Bytes := [cLet, cSay, cWhen, cAs, cPrint, cIf, cInt, cBool]
/-- the words that are no names, and the library's table, read as the program's text lays them -/
structure Env (w : World) : Prop where
  own : ∃ A c, w.cell? ⟨0, 0, none⟩ = some (.slice A 8 c) ∧ SlB w w.heap.size (.slice A 8 c) ownList
  tab : Lib.TabIs Tryd.prog w "internal/strconv.uint64pow10" .u64 Lib.pow10Tab
theorem gOwn : Tryd.prog.globalNamed "loop.example/interlinear/impl.ownWords" = some 0 := by kernel_rfl
theorem gTab : Tryd.prog.globalNamed "internal/strconv.uint64pow10" = some 1 := by kernel_rfl
theorem Env.keep {w w' : World} {B : Nat} (h : Env w) (hb : Below B w w') (hB : w.heap.size ≤ B) : Env w' := by
  obtain ⟨⟨A, c, h1, h2⟩, h3⟩ := h
  refine ⟨⟨A, c, ?_, (h2.below hb hB).more (by have := hb.size; omega)⟩, Joins.tab_stays gTab h3 hb hB⟩
  have hlt := World.block_lt_of_cell? _ _ h1
  exact (hb.cell (p := ⟨_, 0, none⟩) (Nat.lt_of_lt_of_le hlt hB)).trans h1
theorem Env.ext {w w' : World} (h : Env w) (hb : Ext w w') : Env w' := h.keep hb (Nat.le_refl _)

theorem decDigits_eq (n : Nat) : Lib.decDigits n = decL n := by
  induction n using Nat.strongRecOn with
  | _ n ih =>
    rw [Lib.decDigits]
    split
    · next h => rw [decL_lt h]
    · next h => rw [decL_ge h, ih _ (by omega)]
theorem itoa_any (n : Nat) (w : World) (hn : n ≤ 1000000) (hE : Env w) : Calls Tryd.prog 49 #[.int .i64 (n : Int)] w fun e w' => e = .returned (.string (bs (decL n))) ∧ Below w.heap.size w w' :=
  (Tryd.strconv_Itoa n (by omega) (by omega) w hE.tab).mono fun e w' ⟨he, k, os, hw⟩ => ⟨by rw [he, Lib.itoa_nonneg, decDigits_eq]; rfl, by rw [hw]; exact Lib.below_grow _ _ (Nat.le_refl _) _ _⟩

theorem libJoin (l : List Bytes) : Lib.join l [32] = joinL l := by
  match l with
  | [] => rfl
  | [w] => rw [Lib.join_one]; rfl
  | w :: v :: l =>
    rw [Lib.join_cons, joinL, ← libJoin (v :: l), Lib.join_cons]
    simp [Lib.joinTail]
end Go.Proofs.YtnejngpdplhbhaaDoor
