/- Plain Lean of what a line is turned into: each word with the place of the word from which it came. No program in sight, no condition. -/
import Derived.Test.YtgfbjpmbaibnoaaGreatDoorBas
import Derived.Test.YtgfbjpmbaibnoaaGreatDoorZm3
namespace Go.Proofs.YtgfbjpmbaibnoaaGreatDoor
set_option maxRecDepth 100000
set_option linter.unusedSimpArgs false
set_option linter.unusedVariables false
open Go.RowKit

abbrev Came := Bytes × Int
def shift1 (d : Nat) (x : Came) : Came := (x.1, if 0 ≤ x.2 then x.2 + d else x.2)
def shiftL (d : Nat) (l : List Came) : List Came := l.map (shift1 d)
/-- each word is one, and came from one of n or from none -/
def CameOk (n : Nat) (l : List Came) : Prop := ∀ x ∈ l, kindL x.1 ≠ 0 ∧ -1 ≤ x.2 ∧ x.2 < n
theorem CameOk.shift {n d m : Nat} {l : List Came} (h : CameOk n l) (hm : n + d ≤ m) : CameOk m (shiftL d l) := by
  intro x hx
  obtain ⟨y, hy, rfl⟩ := List.mem_map.1 hx
  obtain ⟨h1, h2, h3⟩ := h y hy
  refine ⟨h1, ?_, ?_⟩ <;> unfold shift1 <;> simp only <;> split <;> omega
theorem CameOk.append {n : Nat} {l m : List Came} (h : CameOk n l) (k : CameOk n m) : CameOk n (l ++ m) := by
  intro x hx
  rw [List.mem_append] at hx
  rcases hx with hx | hx
  · exact h x hx
  · exact k x hx
theorem CameOk.cons {n : Nat} {l : List Came} {a : Came} (h : kindL a.1 ≠ 0 ∧ -1 ≤ a.2 ∧ a.2 < n) (k : CameOk n l) : CameOk n (a :: l) := by
  intro x hx
  rw [List.mem_cons] at hx
  rcases hx with rfl | hx
  · exact h
  · exact k x hx
theorem CameOk.nil (n : Nat) : CameOk n [] := fun x hx => by simp at hx
theorem CameOk.more {n m : Nat} {l : List Came} (h : CameOk n l) (hn : n ≤ m) : CameOk m l := fun x hx => by
  obtain ⟨h1, h2, h3⟩ := h x hx
  exact ⟨h1, h2, by omega⟩
theorem kind_name {s : Bytes} (h : nameB s = true) : kindL s ≠ 0 := by
  simp only [nameB, Bool.and_eq_true] at h
  unfold kindL
  rw [if_pos h.1]
  omega
theorem kind_dec {n : Nat} (h : n ≤ 1000000) : kindL (decL n) ≠ 0 := by
  unfold kindL
  split
  · omega
  · rw [if_pos (numB_iff.2 ⟨n, h, rfl⟩)]; omega
theorem kind_op (o : Op2) : kindL o.b ≠ 0 := by cases o <;> decide
theorem kind_ty (t : Bool) : kindL (tyB t) ≠ 0 := by cases t <;> decide
namespace E
def came : E → Nat → Nat → List Came
  | num n, _, _ => [(decL n, 0)]
  | nam s, _, _ => [(s, 0)]
  | cast _ a, _, b => a.came 4 b
  | two o x y, t, b =>
    if o.lv < b then
      ([40], -1) :: shiftL (if o.lv < t then 1 else 0) (x.came (max o.lv 2) (max o.lv 2) ++ (o.b, ((x.words (max o.lv 2)).length : Int)) :: shiftL ((x.words (max o.lv 2)).length + 1) (y.came (o.lv + 1) (o.lv + 1))) ++ [([41], -1)]
    else shiftL (if o.lv < t then 1 else 0) (x.came (max o.lv 2) (max o.lv 2) ++ (o.b, ((x.words (max o.lv 2)).length : Int)) :: shiftL ((x.words (max o.lv 2)).length + 1) (y.came (o.lv + 1) (o.lv + 1)))
theorem words_two_len (o : Op2) (x y : E) (t : Nat) : ((two o x y).words t).length = (x.words (max o.lv 2)).length + 1 + (y.words (o.lv + 1)).length + (if o.lv < t then 2 else 0) := by
  simp only [words]
  split <;> simp only [List.length_append, List.length_cons, List.length_nil] <;> omega
theorem came_ok : ∀ (e : E) (t b : Nat), e.ok → CameOk (e.words t).length (e.came t b)
  | num n, t, b, h => by
    simp only [came, words]
    exact .cons ⟨kind_dec h, by simp, by simp⟩ (.nil _)
  | nam s, t, b, h => by
    simp only [came, words]
    exact .cons ⟨kind_name h, by simp, by simp⟩ (.nil _)
  | cast ty a, t, b, h => by
    simp only [came]
    exact (came_ok a 4 b h).more (by simp only [words, List.length_append]; omega)
  | two o x y, t, b, h => by
    have h1 := came_ok x (max o.lv 2) (max o.lv 2) h.1
    have h2 := came_ok y (o.lv + 1) (o.lv + 1) h.2
    have hl := words_two_len o x y t
    have key : CameOk ((x.words (max o.lv 2)).length + 1 + (y.words (o.lv + 1)).length) (x.came (max o.lv 2) (max o.lv 2) ++ (o.b, ((x.words (max o.lv 2)).length : Int)) :: shiftL ((x.words (max o.lv 2)).length + 1) (y.came (o.lv + 1) (o.lv + 1))) := by
      refine (h1.more (by omega)).append (.cons ⟨kind_op o, by simp only; omega, by simp only; omega⟩ (h2.shift (by omega)))
    have key2 := key.shift (d := if o.lv < t then 1 else 0) (m := ((two o x y).words t).length) (by rw [hl]; split <;> omega)
    simp only [came]
    split
    · exact (CameOk.cons ⟨by decide, by simp, by simp; omega⟩ key2).append (.cons ⟨by decide, by simp, by simp; omega⟩ (.nil _))
    · exact key2
theorem came_len : ∀ (e : E) (t b : Nat), (e.came t b).length + 2 ≤ 5 * e.cnt
  | num _, _, _ => by simp [came, cnt]
  | nam _, _, _ => by simp [came, cnt]
  | cast _ a, _, b => by have := came_len a 4 b; simp only [came, cnt]; omega
  | two o x y, t, b => by
    have h1 := came_len x (max o.lv 2) (max o.lv 2)
    have h2 := came_len y (o.lv + 1) (o.lv + 1)
    simp only [came, cnt, shiftL]
    split <;> simp only [List.length_append, List.length_cons, List.length_nil, List.length_map] <;> omega
end E
theorem words_kind : ∀ (e : E) (t : Nat), e.ok → ∀ w ∈ e.words t, kindL w ≠ 0
  | .num n, _, h, w, hw => by
    simp only [E.words, List.mem_singleton] at hw
    subst hw
    exact kind_dec h
  | .nam s, _, h, w, hw => by
    simp only [E.words, List.mem_singleton] at hw
    subst hw
    exact kind_name h
  | .two o a b, t, h, w, hw => by
    have h1 := words_kind a (max o.lv 2) h.1
    have h2 := words_kind b (o.lv + 1) h.2
    have key : ∀ w ∈ a.words (max o.lv 2) ++ o.b :: b.words (o.lv + 1), kindL w ≠ 0 := by
      intro w hw
      rw [List.mem_append, List.mem_cons] at hw
      rcases hw with hw | rfl | hw
      · exact h1 w hw
      · exact kind_op o
      · exact h2 w hw
    simp only [E.words] at hw
    split at hw
    · rw [List.mem_append, List.mem_cons, List.mem_singleton] at hw
      rcases hw with (rfl | hw) | rfl
      · decide
      · exact key w hw
      · decide
    · exact key w hw
  | .cast ty a, _, h, w, hw => by
    have h1 := words_kind a 4 h
    simp only [E.words, List.mem_append, List.mem_cons, List.not_mem_nil, or_false] at hw
    rcases hw with hw | rfl | rfl
    · exact h1 w hw
    · decide
    · exact kind_ty ty
namespace SE
def came : SE → List Came
  | none => []
  | slet nm _ e => (nm, 1) :: ([61], 4) :: shiftL 5 (e.came 1 1)
  | say e => (cPrint, 0) :: shiftL 1 (e.came 1 1)
  | when a b => (cIf, 0) :: (shiftL 1 (a.came 1 1) ++ ([58], -1) :: (cPrint, ((a.words 1).length : Int) + 1) :: shiftL ((a.words 1).length + 2) (b.came 1 1))
theorem came_ok (s : SE) (h : s.form) : CameOk s.words.length s.came := by
  cases s with
  | none => exact .nil _
  | slet nm t e =>
    have h1 := E.came_ok e 1 1 h.2.1
    simp only [came, words, List.length_cons]
    exact .cons ⟨kind_name h.1, by simp, by simp; omega⟩ (.cons ⟨by decide, by simp, by simp; omega⟩ (h1.shift (by omega)))
  | say e =>
    have h1 := E.came_ok e 1 1 h.1
    simp only [came, words, List.length_cons]
    exact .cons ⟨by decide, by simp, by simp only; omega⟩ (h1.shift (by omega))
  | when a b =>
    have h1 := E.came_ok a 1 1 h.1.1
    have h2 := E.came_ok b 1 1 h.2.1
    simp only [came, words, List.length_cons, List.length_append]
    exact .cons ⟨by decide, by simp, by simp only; omega⟩ ((h1.shift (by omega)).append (.cons ⟨by decide, by simp, by simp; omega⟩ (.cons ⟨(by decide : kindL cPrint ≠ 0), by simp only; omega, by simp only; omega⟩ (h2.shift (by omega)))))
theorem words_kind' (s : SE) (h : s.form) : ∀ w ∈ s.words, kindL w ≠ 0 := by
  cases s with
  | none => intro w hw; simp [words] at hw
  | slet nm t e =>
    have h1 := words_kind e 1 h.2.1
    intro w hw
    simp only [words, List.mem_cons] at hw
    rcases hw with rfl | rfl | rfl | rfl | rfl | hw
    · decide
    · exact kind_name h.1
    · decide
    · exact kind_ty t
    · decide
    · exact h1 w hw
  | say e =>
    have h1 := words_kind e 1 h.1
    intro w hw
    simp only [words, List.mem_cons] at hw
    rcases hw with rfl | hw
    · decide
    · exact h1 w hw
  | when a b =>
    have h1 := words_kind a 1 h.1.1
    have h2 := words_kind b 1 h.2.1
    intro w hw
    simp only [words, List.mem_cons, List.mem_append] at hw
    rcases hw with rfl | hw | rfl | hw
    · decide
    · exact h1 w hw
    · decide
    · exact h2 w hw
end SE
end Go.Proofs.YtgfbjpmbaibnoaaGreatDoor


/- Plain Lean of what a line is turned into: its words are those without types; its text is hardly longer. No program in sight, no condition. -/
namespace Go.Proofs.YtgfbjpmbaibnoaaGreatDoor
set_option maxRecDepth 100000
set_option linter.unusedSimpArgs false
set_option linter.unusedVariables false
open Go.RowKit

theorem shift_fst (d : Nat) (l : List Came) : (shiftL d l).map Prod.fst = l.map Prod.fst := by
  unfold shiftL
  rw [List.map_map]
  rfl
theorem shift_len (d : Nat) (l : List Came) : (shiftL d l).length = l.length := by unfold shiftL; simp
theorem came_words : ∀ (e : E) (t b : Nat), (e.came t b).map Prod.fst = e.bare.words b
  | .num _, _, _ => rfl
  | .nam _, _, _ => rfl
  | .cast _ a, _, b => came_words a 4 b
  | .two o x y, t, b => by
    have h1 := came_words x (max o.lv 2) (max o.lv 2)
    have h2 := came_words y (o.lv + 1) (o.lv + 1)
    simp only [E.came, E.bare, E.words]
    split
    · simp only [List.map_append, List.map_cons, List.map_nil, shift_fst, h1, h2]
    · simp only [List.map_append, List.map_cons, shift_fst, h1, h2]
/-- how long words are with a space behind each -/
def szL (l : List Bytes) : Nat := (l.map (fun w => w.length + 1)).sum
theorem szL_cons (w : Bytes) (l : List Bytes) : szL (w :: l) = w.length + 1 + szL l := rfl
theorem szL_nil : szL [] = 0 := rfl
theorem szL_append (l m : List Bytes) : szL (l ++ m) = szL l + szL m := by simp [szL]
theorem joinL_sz : ∀ l : List Bytes, l ≠ [] → (joinL l).length + 1 = szL l
  | [], h => absurd rfl h
  | [w], _ => by simp [joinL, szL]
  | w :: v :: l, _ => by
    have h := joinL_sz (v :: l) (by simp)
    rw [joinL_cons, szL_cons]
    simp only [List.length_append, List.length_cons]
    omega
theorem joinL_sz_le (l : List Bytes) : (joinL l).length ≤ szL l := by
  by_cases h : l = []
  · subst h; simp [joinL]
  · have := joinL_sz l h; omega
theorem four_sz : ∀ (e : E) (t : Nat), szL (e.words t) ≤ szL (e.words 4)
  | .num _, _ => by simp [E.words]
  | .nam _, _ => by simp [E.words]
  | .two o a b, t => by
    have h : o.lv < 4 := by cases o <;> decide
    simp only [E.words, if_pos h]
    split
    · exact Nat.le_refl _
    · simp only [szL_append, szL_cons, szL_nil]
      omega
  | .cast _ _, _ => by simp [E.words]
theorem bare_sz : ∀ (e : E) (t : Nat), szL (e.bare.words t) ≤ szL (e.words t)
  | .num _, _ => Nat.le_refl _
  | .nam _, _ => Nat.le_refl _
  | .two o a b, t => by
    have h1 := bare_sz a (max o.lv 2)
    have h2 := bare_sz b (o.lv + 1)
    simp only [E.bare, E.words]
    split <;> simp only [szL_append, szL_cons, szL_nil] <;> omega
  | .cast ty a, t => by
    have h1 := four_sz a.bare t
    have h2 := bare_sz a 4
    simp only [E.bare, E.words, szL_append, szL_cons, szL_nil]
    omega
namespace SE
theorem came_len (s : SE) (h : s.form) : s.came.length ≤ 130 := by
  cases s with
  | none => simp [came]
  | slet nm _ e =>
    have h1 := E.came_len e 1 1
    have h2 := h.2.2.2
    simp only [came, List.length_cons, shift_len]
    omega
  | say e =>
    have h1 := E.came_len e 1 1
    have h2 := h.2.2
    simp only [came, List.length_cons, shift_len]
    omega
  | when a b =>
    have h1 := E.came_len a 1 1
    have h2 := E.came_len b 1 1
    have h3 := h.1.2.2
    have h4 := h.2.2.2
    simp only [came, List.length_cons, List.length_append, shift_len]
    omega
theorem came_text (s : SE) : (joinL (s.came.map Prod.fst)).length ≤ s.text.length + 3 := by
  have key : szL (s.came.map Prod.fst) ≤ szL s.words + 3 := by
    cases s with
    | none => simp [came, szL]
    | slet nm t e =>
      have h := bare_sz e 1
      simp only [came, words, List.map_cons, shift_fst, came_words, szL_cons]
      have : (cLet : Bytes).length = 3 := rfl
      simp only [List.length_cons, List.length_nil]
      omega
    | say e =>
      have h := bare_sz e 1
      simp only [came, words, List.map_cons, shift_fst, came_words, szL_cons]
      have h1 : (cSay : Bytes).length = 3 := rfl
      have h2 : (cPrint : Bytes).length = 5 := rfl
      omega
    | when a b =>
      have h := bare_sz a 1
      have h' := bare_sz b 1
      simp only [came, words, List.map_cons, List.map_append, shift_fst, came_words, szL_cons, szL_append]
      have h1 : (cSay : Bytes).length = 3 := rfl
      have h2 : (cPrint : Bytes).length = 5 := rfl
      have h3 : (cIf : Bytes).length = 2 := rfl
      have h4 : (cWhen : Bytes).length = 4 := rfl
      simp only [List.length_cons, List.length_nil]
      omega
  by_cases h : s.words = []
  · have h0 : s = none := by cases s <;> simp [words] at h ⊢
    subst h0
    simp [came, joinL]
  · have h1 := joinL_sz s.words h
    have h2 : s.came.map Prod.fst ≠ [] := by
      intro e
      have h3 := congrArg List.length e
      cases s <;> simp [came, words] at h3 h
    have h4 := joinL_sz _ h2
    unfold text
    omega
/-- the text that a line is turned into is read back as its words -/
theorem came_toks (s : SE) (h : s.form) : tokL 0 (joinL (s.came.map Prod.fst)) = some (toksL 0 (s.came.map Prod.fst)) :=
  tok_join _ 0 (fun w hw => by
    obtain ⟨x, hx, rfl⟩ := List.mem_map.1 hw
    exact (came_ok s h x hx).1)
end SE
end Go.Proofs.YtgfbjpmbaibnoaaGreatDoor
