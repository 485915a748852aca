/- What the package variables hold, and the library's contracts in this proof's words. -/
import Derived.Test.YtgfbjpmbaibnoaaGreatDoorRows
import Derived.Test.YtgfbjpmbaibnoaaGreatDoorShf
import Derived.Test.YtgfbjpmbaibnoaaGreatDoorBas
import Derived.Lib.SmallJoins
import Derived.Lib.AppendIntMem
import Derived.Deep.Light
import Derived.RangeFuncNested
import Derived.RangeFuncBound
import Derived.RangeFuncLeaves
import Derived.OwnWalkIn
import Derived.TacticsInMore
import Derived.LoopNIn
import Derived.LoopIn
import Derived.Shelf.Abstract
namespace Go.Proofs.YtgfbjpmbaibnoaaGreatDoor
set_option maxRecDepth 100000
set_option linter.unusedSimpArgs false
set_option linter.unusedVariables false
open Go.RowKit
attribute [local go_sem] bs_toList bs_get bs_size

def ownList : List Bytes := [cLet, cSay, cWhen, cAs, cPrint, cIf, cInt, cBool]
/-- the words that are no names, and the library's table, read as the program's text lays them -/
structure Env (w : World) : Prop where
  own : ∃ A c, w.cell? ⟨0, 0, none⟩ = some (.slice A 8 c) ∧ SlB w w.heap.size (.slice A 8 c) ownList
  tab : Lib.TabIs Tryz.prog w "internal/strconv.uint64pow10" .u64 Lib.pow10Tab
theorem gOwn : Tryz.prog.globalNamed "loop.example/interlinear/impl.ownWords" = some 0 := by kernel_rfl
theorem gTab : Tryz.prog.globalNamed "internal/strconv.uint64pow10" = some 2 := by kernel_rfl
theorem Env.keep {w w' : World} {B : Nat} (h : Env w) (hb : Below B w w') (hB : w.heap.size ≤ B) : Env w' := by
  obtain ⟨⟨A, c, h1, h2⟩, h3⟩ := h
  refine ⟨⟨A, c, ?_, (h2.below hb hB).more (by have := hb.size; omega)⟩, Joins.tab_stays gTab h3 hb hB⟩
  have hlt := World.block_lt_of_cell? _ _ h1
  exact (hb.cell (p := ⟨_, 0, none⟩) (Nat.lt_of_lt_of_le hlt hB)).trans h1
theorem Env.ext {w w' : World} (h : Env w) (hb : Ext w w') : Env w' := h.keep hb (Nat.le_refl _)

theorem decDigits_eq (n : Nat) : Lib.decDigits n = decL n := by
  induction n using Nat.strongRecOn with
  | _ n ih =>
    rw [Lib.decDigits]
    split
    · next h => rw [decL_lt h]
    · next h => rw [decL_ge h, ih _ (by omega)]
theorem itoa_any (n : Nat) (w : World) (hn : n ≤ 1000000) (hE : Env w) : Calls Tryz.prog 159 #[.int .i64 (n : Int)] w fun e w' => e = .returned (.string (bs (decL n))) ∧ Below w.heap.size w w' :=
  (Tryz.strconv_Itoa n (by omega) (by omega) w hE.tab).mono fun e w' ⟨he, k, os, hw⟩ => ⟨by rw [he, Lib.itoa_nonneg, decDigits_eq]; rfl, by rw [hw]; exact Lib.below_grow _ _ (Nat.le_refl _) _ _⟩

theorem libJoin (l : List Bytes) : Lib.join l [32] = joinL l := by
  match l with
  | [] => rfl
  | [w] => rw [Lib.join_one]; rfl
  | w :: v :: l =>
    rw [Lib.join_cons, joinL, ← libJoin (v :: l), Lib.join_cons]
    simp [Lib.joinTail]
theorem join_any (l : List Bytes) (v : Value) (w : World) (hv : SlB w w.heap.size v l) (hl : (joinL l).length ≤ 100000000) (hn : l.length ≤ 100000000) :
    Calls Tryz.prog 72 #[v, .string (bs [32])] w fun e w' => e = .returned (.string (bs (joinL l))) ∧ Below w.heap.size w w' := by
  obtain ⟨A, c, rfl, hc, hm, hh⟩ := hv
  cases l with
  | nil => exact (Tryz.strings_Join_none A c _ w).mono fun e w' ⟨he, hw⟩ => ⟨he, by rw [hw]; exact Below.refl _ _⟩
  | cons a l =>
    obtain ⟨b, o, rfl, hb, hx⟩ := hh (by simp)
    have hd : ((a :: l).map bs).map (·.data.toList) = a :: l := by
      rw [List.map_map]
      conv => rhs; rw [← List.map_id (a :: l)]
      apply List.map_congr_left
      intro x _
      simp [bs_data]
    have h := Tryz.strings_Join b o c ((a :: l).map bs) (bs [32]) w (fun j x hj => by
      rw [List.getElem?_map, Option.map_eq_some_iff] at hj
      obtain ⟨s, hs, rfl⟩ := hj
      have := hx j s hs 0 _ rfl
      simpa using this) hb (by simp at hn ⊢; omega) (by simpa using hc) (by rw [hd, bs_data, libJoin]; omega)
    rw [hd, bs_data, libJoin, List.length_map] at h
    exact h
theorem imTokText_any (l : List Bytes) (v : Value) (w : World) (hv : SlB w w.heap.size v l) (hl : (joinL l).length ≤ 100000000) (hn : l.length ≤ 100000000) :
    Calls Tryz.prog 15 #[v] w fun e w' => e = .returned (.string (bs (joinL l))) ∧ Below w.heap.size w w' := by
  go_enter Tryz.func15, Tryz.ntmps15
  go_wp2_with fail
  refine (join_any l v w hv hl hn).mono ?_
  rintro e w1 ⟨rfl, hb⟩
  go_wp2_with fail
  go_ret
  exact ⟨rfl, hb⟩
end Go.Proofs.YtgfbjpmbaibnoaaGreatDoor


/- The last place of a name: the reference's and the program's. -/
namespace Go.Proofs.YtgfbjpmbaibnoaaGreatDoor
set_option maxRecDepth 100000
set_option linter.unusedSimpArgs false
set_option linter.unusedVariables false
open Go.RowKit Go.Shelf
attribute [local go_sem] bs_toList bs_get bs_size Oper.semAt_some

def lastF (s : Bytes) : List Bytes → Nat → Option Nat
  | [], _ => none
  | x :: l, i => match lastF s l (i + 1) with
    | some j => some j
    | none => if x = s then some i else none
theorem lastF_none {s : Bytes} : ∀ {l : List Bytes} {i : Nat}, (∀ x ∈ l, x ≠ s) → lastF s l i = none
  | [], _, _ => rfl
  | x :: l, i, h => by
    rw [lastF, lastF_none (fun y hy => h y (List.mem_cons_of_mem _ hy))]
    simp [h x (List.mem_cons_self ..)]
theorem lastF_some {s : Bytes} : ∀ {l : List Bytes} {i j : Nat}, l[j]? = some s → (∀ t x, j < t → l[t]? = some x → x ≠ s) → lastF s l i = some (i + j)
  | [], _, _, h, _ => by simp at h
  | x :: l, i, 0, h, hh => by
    have e : x = s := by simpa using h
    rw [lastF, lastF_none (fun y hy => by
      obtain ⟨t, ht⟩ := List.mem_iff_getElem?.1 hy
      exact hh (t + 1) y (by omega) (by simpa using ht))]
    simp [e]
  | x :: l, i, j + 1, h, hh => by
    have h1 : l[j]? = some s := by simpa using h
    rw [lastF, lastF_some (i := i + 1) h1 (fun t y ht hy => hh (t + 1) y (by omega) (by simpa using hy))]
    simp
    omega
theorem lastF_lt {s : Bytes} : ∀ {l : List Bytes} {i k : Nat}, lastF s l i = some k → k < i + l.length
  | [], _, _, h => by simp [lastF] at h
  | x :: l, i, k, h => by
    rw [lastF] at h
    cases hl : lastF s l (i + 1) with
    | some j =>
      rw [hl] at h
      have := lastF_lt hl
      simp at h
      subst h
      simp
      omega
    | none =>
      rw [hl] at h
      simp at h
      simp
      omega
def lastI (l : List Bytes) (s : Bytes) : Int := match lastF s l 0 with | some i => i | none => -1
theorem lastI_none {l : List Bytes} {s : Bytes} (h : ∀ x ∈ l, x ≠ s) : lastI l s = -1 := by unfold lastI; rw [lastF_none h]
theorem lastI_some {l : List Bytes} {s : Bytes} {j : Nat} (h : l[j]? = some s) (hh : ∀ t x, j < t → l[t]? = some x → x ≠ s) : lastI l s = j := by unfold lastI; rw [lastF_some h hh]; simp
theorem spFind_any (l : List Bytes) (s : Bytes) (v : Value) (w : World) (hv : SlB w w.heap.size v l) : Calls Tryz.prog 146 #[v, .string (bs s)] w fun e w' => e = .returned (.int .i64 (lastI l s)) ∧ w = w' := by
  obtain ⟨A, c, rfl, hc, hm⟩ := hv.val
  go_enter Tryz.func146, Tryz.ntmps146
  go_wp2_with fail
  go_loopg [5] l.length (fun k i wr => ∃ m : Nat, k = m ∧ m ≤ l.length ∧ i = .int .i64 ((m : Int) - 1) ∧ (∀ t x, m ≤ t → l[t]? = some x → x ≠ s) ∧ wr = w)
  case atStart => exact ⟨l.length, rfl, Nat.le_refl _, rfl, fun t x h hx => (by rw [List.getElem?_eq_none h] at hx; cases hx), rfl⟩
  case round =>
    obtain ⟨gm, hgm, hk, rfl, ha, rfl⟩ := hrel
    have HGM := Lib.hid hgm
    clear hgm
    have HK := Lib.hid ha
    clear ha
    by_cases hlt : 0 < gm
    · obtain ⟨j, rfl⟩ : ∃ j, gm = j + 1 := ⟨gm - 1, by omega⟩
      rw [show (((j + 1 : Nat) : Int) - 1) = (j : Int) from by omega]
      obtain ⟨b, o, x, rfl, hb, hg, f0⟩ := str_at hv (i := j) (by omega)
      have g0 := f0 ⟨wr, Below.refl _ _⟩
      have HG := Lib.hid hg
      clear f0 hg
      by_cases he : x = s
      · have hd : (x == s) = true := by simp [he]
        have HE := Lib.hid he
        clear he
        go_wp2_with fail
        go_ret
        exact ⟨ret_int (by rw [lastI_some (by rw [HG.out, HE.out]) (fun t y ht hy => HK.out t y (by omega) hy)]), rfl⟩
      · have hd : (x == s) = false := by simp [he]
        have HE := Lib.hid he
        clear he
        go_wp2_with fail
        go_roundg j
        case measure => have := HGM.out; omega
        case rel => exact ⟨j, rfl, by omega, by go_num, fun t y ht hy => by
          by_cases e : t = j
          · subst e
            rw [HG.out] at hy
            obtain rfl := Option.some.inj hy
            exact HE.out
          · exact HK.out t y (by omega) hy, rfl⟩
    · obtain rfl : gm = 0 := by omega
      go_wp2_with fail
      go_ret
      exact ⟨ret_int (by rw [lastI_none (fun x hx => by obtain ⟨t, ht⟩ := List.mem_iff_getElem?.1 hx; exact HK.out t x (Nat.zero_le _) ht)]), rfl⟩
/-! ### the program's: a range over slices.Backward -/
/-- what has come when k rounds are over -/
def upto {α : Type} (f : Nat → α) (k : Nat) : List α := (List.range k).map f
theorem upto_succ {α : Type} (f : Nat → α) (k : Nat) : upto f (k + 1) = upto f k ++ [f k] := by simp [upto, List.range_succ]
theorem upto_length {α : Type} (f : Nat → α) (k : Nat) : (upto f k).length = k := by simp [upto]
/-- from the last element on, each with its place -/
def fromEnd {α : Type} [Inhabited α] (l : List α) (j : Nat) : Int × α := (((l.length - 1 - j : Nat) : Int), l[l.length - 1 - j]?.getD default)
theorem fromEnd_at {α : Type} [Inhabited α] {l : List α} {i : Nat} {s : α} (h : l[i]? = some s) : fromEnd l (l.length - (i + 1)) = ((i : Int), s) := by
  have hi : i < l.length := (List.getElem?_eq_some_iff.1 h).1
  have e : l.length - 1 - (l.length - (i + 1)) = i := by omega
  unfold fromEnd
  rw [e, h]
  rfl

theorem upto_fromEnd {α : Type} [Inhabited α] (l : List α) (k : Nat) (hk : k ≤ l.length) : (upto (fromEnd l) k).map (·.2) = l.reverse.take k := by
  apply List.ext_getElem?
  intro j
  by_cases hj : j < k
  · have h1 : l.length - 1 - j < l.length := by omega
    simp [upto, fromEnd, hj, List.getElem?_take, List.getElem?_reverse (show j < l.length by omega), List.getElem?_eq_getElem h1]
  · rw [List.getElem?_eq_none (by simp [upto]; omega), List.getElem?_eq_none (by simp; omega)]

/-- between two rounds: none that has come is it -/
def LastI (s : Bytes) (W1 : World) (pre : List (Int × Bytes)) (W : World) : Prop := (∀ x ∈ pre, ¬ x.2 = s) ∧ Below W1.heap.size W1 W
/-- a round has returned: the last that has come is it, and its place is told -/
def LastX (s : Bytes) (w : World) (cd : Code) (pre : List (Int × Bytes)) (W : World) : Prop :=
  (cd = .ret ∧ ∃ ini last, pre = ini ++ [last] ∧ (∀ x ∈ ini, ¬ x.2 = s) ∧ last.2 = s ∧ W.cell? ⟨w.heap.size + 1, 0, none⟩ = some (.int .i64 last.1)) ∧ Below w.heap.size w W
theorem last_split {l : List Bytes} {s : Bytes} {k : Nat} (hk : k ≤ l.length) {ini : List (Int × Bytes)} {last : Int × Bytes} (h : upto (fromEnd l) k = ini ++ [last]) (hi : ∀ x ∈ ini, ¬ x.2 = s) (hl : last.2 = s) : lastI l s = last.1 := by
  have hlen : k = ini.length + 1 := by have := congrArg List.length h; rw [upto_length, List.length_append, List.length_singleton] at this; exact this
  have hlast : last = fromEnd l (k - 1) := by
    have h2 : (upto (fromEnd l) k)[k - 1]? = some last := by rw [h, hlen, Nat.add_sub_cancel, List.getElem?_append_right (Nat.le_refl _), Nat.sub_self]; rfl
    have h3 : (upto (fromEnd l) k)[k - 1]? = some (fromEnd l (k - 1)) := by simp [upto, show k - 1 < k by omega]
    rw [h3] at h2
    exact (Option.some.inj h2).symm
  have hini : ∀ j, j < k - 1 → ¬ (fromEnd l j).2 = s := by
    intro j hj
    have h3 : (upto (fromEnd l) k)[j]? = some (fromEnd l j) := by simp [upto, show j < k by omega]
    rw [h, List.getElem?_append_left (by omega)] at h3
    exact hi _ (List.mem_of_getElem? h3)
  have hat : ∀ j, j < l.length → l[l.length - 1 - j]? = some (fromEnd l j).2 := by
    intro j hj
    have h1 : l.length - 1 - j < l.length := by omega
    unfold fromEnd
    rw [List.getElem?_eq_getElem h1]
    rfl
  rw [hlast] at hl ⊢
  have h0 := hat (k - 1) (by omega)
  rw [hl] at h0
  rw [lastI_some h0 (fun t x ht hx => by
    have h5 := hat (l.length - 1 - t) (by have := (List.getElem?_eq_some_iff.1 hx).1; omega)
    have h6 : l.length - 1 - (l.length - 1 - t) = t := by have := (List.getElem?_eq_some_iff.1 hx).1; omega
    rw [h6, hx] at h5
    have h7 := hini (l.length - 1 - t) (by have := (List.getElem?_eq_some_iff.1 hx).1; omega)
    rw [← Option.some.inj h5] at h7
    exact h7)]
  rfl
theorem last_none {l : List Bytes} {s : Bytes} (hi : ∀ x ∈ upto (fromEnd l) l.length, ¬ x.2 = s) : lastI l s = -1 := by
  apply lastI_none
  intro x hx
  have h := upto_fromEnd l l.length (Nat.le_refl _)
  rw [List.take_of_length_le (by simp)] at h
  have h2 : x ∈ l.reverse := List.mem_reverse.2 hx
  rw [← h] at h2
  obtain ⟨y, hy, rfl⟩ := List.mem_map.1 h2
  exact hi y hy
end Go.Proofs.YtgfbjpmbaibnoaaGreatDoor


/- Types of what is reckoned: the reference's and the program's. -/
namespace Go.Proofs.YtgfbjpmbaibnoaaGreatDoor
set_option maxRecDepth 100000
set_option linter.unusedSimpArgs false
set_option linter.unusedVariables false
open Go.RowKit
attribute [local go_sem] bs_toList bs_get bs_size

namespace E
def ty (names types : List Bytes) : E → Bytes
  | num _ => cInt
  | nam s => match lastF s names 0 with | some i => (types[i]?).getD [] | none => []
  | cast t a => if a.ty names types = [] then [] else tyB t
  | two o a b => if a.ty names types = cInt ∧ b.ty names types = cInt then (if o = .lt then cBool else cInt) else []
end E
theorem spFind2_any (l : List Bytes) (s : Bytes) (v : Value) (w : World) (hv : SlB w w.heap.size v l) : Calls Tryz.prog 146 #[v, .string (bs s)] w fun e w' => e = .returned (.int .i64 (lastI l s)) ∧ Below w.heap.size w w' :=
  (spFind_any l s v w hv).mono fun e w' ⟨h1, h2⟩ => ⟨h1, by rw [← h2]; exact Below.refl _ _⟩
end Go.Proofs.YtgfbjpmbaibnoaaGreatDoor
