
/- What the package variables hold, and the library's contracts in this proof's words. -/
import Derived.Test.YtgfbjpmbaibnoaaGreatDoorRows
import Derived.Test.YtgfbjpmbaibnoaaGreatDoorShf
import Derived.Test.YtgfbjpmbaibnoaaGreatDoorBas
import Derived.Lib.SmallJoins
import Derived.Lib.AppendIntMem
import Derived.Deep.Light
namespace Go.Proofs.YtgfbjpmbaibnoaaGreatDoor
set_option maxRecDepth 100000
set_option linter.unusedSimpArgs false
set_option linter.unusedVariables false
open Go.RowKit
attribute [local go_sem] bs_toList bs_get bs_size

def ownList : List Bytes := [cLet, cSay, cWhen, cAs, cPrint, cIf, cInt, cBool]
/-- the words that are no names, and the library's table, read as the program's text lays them -/
structure Env (w : World) : Prop where
  own : ∃ A c, w.cell? ⟨0, 0, none⟩ = some (.slice A 8 c) ∧ SlB w w.heap.size (.slice A 8 c) ownList
  tab : Lib.TabIs Tryz.prog w "internal/strconv.uint64pow10" .u64 Lib.pow10Tab
theorem gOwn : Tryz.prog.globalNamed "loop.example/interlinear/impl.ownWords" = some 0 := by kernel_rfl
theorem gTab : Tryz.prog.globalNamed "internal/strconv.uint64pow10" = some 2 := by kernel_rfl
theorem Env.keep {w w' : World} {B : Nat} (h : Env w) (hb : Below B w w') (hB : w.heap.size ≤ B) : Env w' := by
  obtain ⟨⟨A, c, h1, h2⟩, h3⟩ := h
  refine ⟨⟨A, c, ?_, (h2.below hb hB).more (by have := hb.size; omega)⟩, Joins.tab_stays gTab h3 hb hB⟩
  have hlt := World.block_lt_of_cell? _ _ h1
  exact (hb.cell (p := ⟨_, 0, none⟩) (Nat.lt_of_lt_of_le hlt hB)).trans h1
theorem Env.ext {w w' : World} (h : Env w) (hb : Ext w w') : Env w' := h.keep hb (Nat.le_refl _)

theorem decDigits_eq (n : Nat) : Lib.decDigits n = decL n := by
  induction n using Nat.strongRecOn with
  | _ n ih =>
    rw [Lib.decDigits]
    split
    · next h => rw [decL_lt h]
    · next h => rw [decL_ge h, ih _ (by omega)]
theorem itoa_any (n : Nat) (w : World) (hn : n ≤ 1000000) (hE : Env w) : Calls Tryz.prog 159 #[.int .i64 (n : Int)] w fun e w' => e = .returned (.string (bs (decL n))) ∧ Below w.heap.size w w' :=
  (Tryz.strconv_Itoa n (by omega) (by omega) w hE.tab).mono fun e w' ⟨he, k, os, hw⟩ => ⟨by rw [he, Lib.itoa_nonneg, decDigits_eq]; rfl, by rw [hw]; exact Lib.below_grow _ _ (Nat.le_refl _) _ _⟩

theorem libJoin (l : List Bytes) : Lib.join l [32] = joinL l := by
  match l with
  | [] => rfl
  | [w] => rw [Lib.join_one]; rfl
  | w :: v :: l =>
    rw [Lib.join_cons, joinL, ← libJoin (v :: l), Lib.join_cons]
    simp [Lib.joinTail]
theorem join_any (l : List Bytes) (v : Value) (w : World) (hv : SlB w w.heap.size v l) (hl : (joinL l).length ≤ 100000000) (hn : l.length ≤ 100000000) :
    Calls Tryz.prog 72 #[v, .string (bs [32])] w fun e w' => e = .returned (.string (bs (joinL l))) ∧ Below w.heap.size w w' := by
  obtain ⟨A, c, rfl, hc, hm, hh⟩ := hv
  cases l with
  | nil => exact (Tryz.strings_Join_none A c _ w).mono fun e w' ⟨he, hw⟩ => ⟨he, by rw [hw]; exact Below.refl _ _⟩
  | cons a l =>
    obtain ⟨b, o, rfl, hb, hx⟩ := hh (by simp)
    have hd : ((a :: l).map bs).map (·.data.toList) = a :: l := by
      rw [List.map_map]
      conv => rhs; rw [← List.map_id (a :: l)]
      apply List.map_congr_left
      intro x _
      simp [bs_data]
    have h := Tryz.strings_Join b o c ((a :: l).map bs) (bs [32]) w (fun j x hj => by
      rw [List.getElem?_map, Option.map_eq_some_iff] at hj
      obtain ⟨s, hs, rfl⟩ := hj
      have := hx j s hs 0 _ rfl
      simpa using this) hb (by simp at hn ⊢; omega) (by simpa using hc) (by rw [hd, bs_data, libJoin]; omega)
    rw [hd, bs_data, libJoin, List.length_map] at h
    exact h
theorem imTokText_any (l : List Bytes) (v : Value) (w : World) (hv : SlB w w.heap.size v l) (hl : (joinL l).length ≤ 100000000) (hn : l.length ≤ 100000000) :
    Calls Tryz.prog 15 #[v] w fun e w' => e = .returned (.string (bs (joinL l))) ∧ Below w.heap.size w w' := by
  go_enter Tryz.func15, Tryz.ntmps15
  go_wp2_with fail
  refine (join_any l v w hv hl hn).mono ?_
  rintro e w1 ⟨rfl, hb⟩
  go_wp2_with fail
  go_ret
  exact ⟨rfl, hb⟩
end Go.Proofs.YtgfbjpmbaibnoaaGreatDoor
