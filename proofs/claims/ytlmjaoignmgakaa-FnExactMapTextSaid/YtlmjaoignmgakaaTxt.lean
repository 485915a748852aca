
/- Plain Lean of texts: letters of numbers, the text of a map. No program in sight, no condition. -/
import Derived.Test.YtlmjaoignmgakaaLook
import Derived.Test.YtlmjaoignmgakaaByte
namespace Go.Proofs.Ytlmjaoignmgakaa
set_option maxRecDepth 100000
open Go.RowKit
/-! ### letters of numbers -/
def lo (k : Nat) : UInt8 := UInt8.ofNat (97 + k)
def hi (k : Nat) : UInt8 := UInt8.ofNat (65 + k)
def digL (n : Nat) : Bytes := if n < 16 then [lo n] else hi (n % 16) :: digL (n / 16)
termination_by n
decreasing_by omega
theorem digL_lt {n : Nat} (h : n < 16) : digL n = [lo n] := by rw [digL, if_pos h]
theorem digL_ge {n : Nat} (h : ¬ n < 16) : digL n = hi (n % 16) :: digL (n / 16) := by rw [digL, if_neg h]
theorem digL_len : ∀ (k n : Nat), n < 16 ^ (k + 1) → (digL n).length ≤ k + 1
  | 0, n, h => by rw [digL_lt (by simpa using h)]; simp
  | k + 1, n, h => by
    by_cases h1 : n < 16
    · rw [digL_lt h1]; simp
    · rw [digL_ge h1, List.length_cons]
      have h2 : n / 16 < 16 ^ (k + 1) := Nat.div_lt_of_lt_mul (by rw [Nat.pow_succ] at h; omega)
      have := digL_len k _ h2
      omega
theorem digL_pos (n : Nat) : 0 < (digL n).length := by
  by_cases h1 : n < 16
  · rw [digL_lt h1]; simp
  · rw [digL_ge h1]; simp
def NumIn (n : Int) : Prop := -1000000 ≤ n ∧ n ≤ 1000000
instance (n : Int) : Decidable (NumIn n) := inferInstanceAs (Decidable (_ ∧ _))
/-- a number, turned so that it is not below 0 -/
def zig (n : Int) : Nat := if n < 0 then (-2 * n + 1).toNat else (2 * n).toNat
def numL (n : Int) : Bytes := if NumIn n then digL (zig n) else []
theorem zig_le {n : Int} (h : NumIn n) : zig n ≤ 2000001 := by
  unfold zig
  have := h.1; have := h.2
  split <;> omega
theorem numL_len (n : Int) : (numL n).length ≤ 6 := by
  unfold numL
  split
  · next h => exact digL_len 5 _ (by have := zig_le h; omega)
  · simp
/-- the letters of numbers -/
def numsL (l : List Int) : Bytes := if (∀ n ∈ l, NumIn n) then l.flatMap numL else []
theorem numsL_len (l : List Int) : (numsL l).length ≤ l.length * 6 := by
  unfold numsL
  split
  · rename_i h
    clear h
    induction l with
    | nil => simp
    | cons a l ih =>
      rw [List.flatMap_cons, List.length_append, List.length_cons, Nat.add_mul]
      have := numL_len a
      omega
  · simp

/-! ### the text of a map -/
/-- where the writing stands ahead of the element i -/
def stAt (l : List Sg) (i : Nat) : Sg := if i = 0 then ((0, 0), (0, 0)) else (l[i - 1]?).getD ((0, 0), (0, 0))
/-- what is written of an element, by the one ahead of it -/
def pieceL (first : Bool) (t s : Sg) : Bytes :=
  (if t.1.1 < s.1.1 then List.replicate (s.1.1 - t.1.1).toNat 61 else if first then [] else [44]) ++ numsL [s.1.2 - (if t.1.1 < s.1.1 then 0 else t.1.2), s.2.1 - t.2.1, s.2.2 - t.2.2]
def textUp (l : List Sg) : Nat → Bytes
  | 0 => []
  | i + 1 => textUp l i ++ (match l[i]? with | some s => pieceL (decide (i = 0)) (stAt l i) s | none => [])
def textL (l : List Sg) : Bytes := textUp l l.length
noncomputable def mapTextL (l : List Sg) : Bytes := if segsOkB l = true then textL l else []
theorem textUp_step {l : List Sg} {i : Nat} {s : Sg} (h : l[i]? = some s) : textUp l (i + 1) = textUp l i ++ pieceL (decide (i = 0)) (stAt l i) s := by simp [textUp, h]
theorem stAt_succ {l : List Sg} {i : Nat} {s : Sg} (h : l[i]? = some s) : stAt l (i + 1) = s := by simp [stAt, h]
theorem stAt_ok {l : List Sg} (hl : SegsOk l) {i : Nat} (hi : i ≤ l.length) : PosOk (stAt l i).1 ∧ PosOk (stAt l i).2 := by
  unfold stAt
  by_cases h0 : i = 0
  · rw [if_pos h0]; decide
  · rw [if_neg h0]
    have hs : l[i - 1]? = some (l[i - 1]'(by omega)) := List.getElem?_eq_getElem _
    rw [hs]
    have := hl.1 (i - 1) (by omega) _ hs
    exact ⟨this.1, this.2.1⟩
/-- the lines only grow -/
theorem stAt_le {l : List Sg} (hl : SegsOk l) {i : Nat} {s : Sg} (h : l[i]? = some s) : (stAt l i).1.1 ≤ s.1.1 := by
  have hi : i < l.length := (List.getElem?_eq_some_iff.1 h).1
  have hg := hl.1 i hi s h
  unfold stAt
  by_cases h0 : i = 0
  · rw [if_pos h0]; exact hg.1.1
  · rw [if_neg h0]
    have hs : l[i - 1]? = some (l[i - 1]'(by omega)) := List.getElem?_eq_getElem _
    rw [hs]
    rcases hg.2.2 _ (by omega) hs with h1 | h1
    · exact Int.le_of_lt h1
    · exact Int.le_of_eq h1.1
theorem pieceL_len {first : Bool} {t s : Sg} (h1 : PosOk s.1) (h2 : PosOk t.1) : (pieceL first t s).length ≤ 40 := by
  have a := h1.2.1
  have b := h2.1
  unfold pieceL
  have h := numsL_len [s.1.2 - (if t.1.1 < s.1.1 then 0 else t.1.2), s.2.1 - t.2.1, s.2.2 - t.2.2]
  simp only [List.length_cons, List.length_nil] at h
  rw [List.length_append]
  split
  · rw [List.length_replicate]
    rename_i hlt
    rw [if_pos hlt] at h
    omega
  · rename_i hlt
    rw [if_neg hlt] at h
    split
    · simp only [List.length_nil]; omega
    · simp only [List.length_cons, List.length_nil]; omega
theorem textUp_len {l : List Sg} (hl : SegsOk l) : ∀ i, i ≤ l.length → (textUp l i).length ≤ i * 40
  | 0, _ => by simp [textUp]
  | i + 1, h => by
    have hi : i < l.length := by omega
    have hs : l[i]? = some l[i] := List.getElem?_eq_getElem hi
    rw [textUp_step hs, List.length_append]
    have h1 := textUp_len hl i (by omega)
    have h2 := pieceL_len (first := decide (i = 0)) (t := stAt l i) (s := l[i]) (hl.1 i hi _ hs).1 (stAt_ok hl (by omega)).1
    omega
end Go.Proofs.Ytlmjaoignmgakaa
