/- Plain Lean of what a line is turned into: each word with the place of the word from which it came. No program in sight, no condition. -/
import Derived.Test.YtgakjhaepdigpaaGreatDoorBas
import Derived.Test.YtgakjhaepdigpaaGreatDoorZm9
namespace Go.Proofs.YtgakjhaepdigpaaGreatDoor
set_option maxRecDepth 100000
set_option linter.unusedSimpArgs false
set_option linter.unusedVariables false
open Go.RowKit

abbrev Came := Bytes × Int
def shift1 (d : Nat) (x : Came) : Came := (x.1, if 0 ≤ x.2 then x.2 + d else x.2)
def shiftL (d : Nat) (l : List Came) : List Came := l.map (shift1 d)
/-- each word is one, and came from one of n or from none -/
def CameOk (n : Nat) (l : List Came) : Prop := ∀ x ∈ l, kindL x.1 ≠ 0 ∧ -1 ≤ x.2 ∧ x.2 < n
theorem CameOk.shift {n d m : Nat} {l : List Came} (h : CameOk n l) (hm : n + d ≤ m) : CameOk m (shiftL d l) := by
  intro x hx
  obtain ⟨y, hy, rfl⟩ := List.mem_map.1 hx
  obtain ⟨h1, h2, h3⟩ := h y hy
  refine ⟨h1, ?_, ?_⟩ <;> unfold shift1 <;> simp only <;> split <;> omega
theorem CameOk.append {n : Nat} {l m : List Came} (h : CameOk n l) (k : CameOk n m) : CameOk n (l ++ m) := by
  intro x hx
  rw [List.mem_append] at hx
  rcases hx with hx | hx
  · exact h x hx
  · exact k x hx
theorem CameOk.cons {n : Nat} {l : List Came} {a : Came} (h : kindL a.1 ≠ 0 ∧ -1 ≤ a.2 ∧ a.2 < n) (k : CameOk n l) : CameOk n (a :: l) := by
  intro x hx
  rw [List.mem_cons] at hx
  rcases hx with rfl | hx
  · exact h
  · exact k x hx
theorem CameOk.nil (n : Nat) : CameOk n [] := fun x hx => by simp at hx
theorem CameOk.more {n m : Nat} {l : List Came} (h : CameOk n l) (hn : n ≤ m) : CameOk m l := fun x hx => by
  obtain ⟨h1, h2, h3⟩ := h x hx
  exact ⟨h1, h2, by omega⟩
theorem kind_name {s : Bytes} (h : nameB s = true) : kindL s ≠ 0 := by
  simp only [nameB, Bool.and_eq_true] at h
  unfold kindL
  rw [if_pos h.1]
  omega
theorem kind_dec {n : Nat} (h : n ≤ 1000000) : kindL (decL n) ≠ 0 := by
  unfold kindL
  split
  · omega
  · rw [if_pos (numB_iff.2 ⟨n, h, rfl⟩)]; omega
theorem kind_op (o : Op2) : kindL o.b ≠ 0 := by cases o <;> decide
theorem kind_ty (t : Bool) : kindL (tyB t) ≠ 0 := by cases t <;> decide
namespace E
def came : E → Nat → Nat → List Came
  | num n, _, _ => [(decL n, 0)]
  | nam s, _, _ => [(s, 0)]
  | cast _ a, _, b => a.came 4 b
  | two o x y, t, b =>
    if o.lv < b then
      ([40], -1) :: shiftL (if o.lv < t then 1 else 0) (x.came (max o.lv 2) (max o.lv 2) ++ (o.b, ((x.words (max o.lv 2)).length : Int)) :: shiftL ((x.words (max o.lv 2)).length + 1) (y.came (o.lv + 1) (o.lv + 1))) ++ [([41], -1)]
    else shiftL (if o.lv < t then 1 else 0) (x.came (max o.lv 2) (max o.lv 2) ++ (o.b, ((x.words (max o.lv 2)).length : Int)) :: shiftL ((x.words (max o.lv 2)).length + 1) (y.came (o.lv + 1) (o.lv + 1)))
theorem words_two_len (o : Op2) (x y : E) (t : Nat) : ((two o x y).words t).length = (x.words (max o.lv 2)).length + 1 + (y.words (o.lv + 1)).length + (if o.lv < t then 2 else 0) := by
  simp only [words]
  split <;> simp only [List.length_append, List.length_cons, List.length_nil] <;> omega
theorem came_ok : ∀ (e : E) (t b : Nat), e.ok → CameOk (e.words t).length (e.came t b)
  | num n, t, b, h => by
    simp only [came, words]
    exact .cons ⟨kind_dec h, by simp, by simp⟩ (.nil _)
  | nam s, t, b, h => by
    simp only [came, words]
    exact .cons ⟨kind_name h, by simp, by simp⟩ (.nil _)
  | cast ty a, t, b, h => by
    simp only [came]
    exact (came_ok a 4 b h).more (by simp only [words, List.length_append]; omega)
  | two o x y, t, b, h => by
    have h1 := came_ok x (max o.lv 2) (max o.lv 2) h.1
    have h2 := came_ok y (o.lv + 1) (o.lv + 1) h.2
    have hl := words_two_len o x y t
    have key : CameOk ((x.words (max o.lv 2)).length + 1 + (y.words (o.lv + 1)).length) (x.came (max o.lv 2) (max o.lv 2) ++ (o.b, ((x.words (max o.lv 2)).length : Int)) :: shiftL ((x.words (max o.lv 2)).length + 1) (y.came (o.lv + 1) (o.lv + 1))) := by
      refine (h1.more (by omega)).append (.cons ⟨kind_op o, by simp only; omega, by simp only; omega⟩ (h2.shift (by omega)))
    have key2 := key.shift (d := if o.lv < t then 1 else 0) (m := ((two o x y).words t).length) (by rw [hl]; split <;> omega)
    simp only [came]
    split
    · exact (CameOk.cons ⟨by decide, by simp, by simp; omega⟩ key2).append (.cons ⟨by decide, by simp, by simp; omega⟩ (.nil _))
    · exact key2
theorem came_len : ∀ (e : E) (t b : Nat), (e.came t b).length + 2 ≤ 5 * e.cnt
  | num _, _, _ => by simp [came, cnt]
  | nam _, _, _ => by simp [came, cnt]
  | cast _ a, _, b => by have := came_len a 4 b; simp only [came, cnt]; omega
  | two o x y, t, b => by
    have h1 := came_len x (max o.lv 2) (max o.lv 2)
    have h2 := came_len y (o.lv + 1) (o.lv + 1)
    simp only [came, cnt, shiftL]
    split <;> simp only [List.length_append, List.length_cons, List.length_nil, List.length_map] <;> omega
end E
theorem words_kind : ∀ (e : E) (t : Nat), e.ok → ∀ w ∈ e.words t, kindL w ≠ 0
  | .num n, _, h, w, hw => by
    simp only [E.words, List.mem_singleton] at hw
    subst hw
    exact kind_dec h
  | .nam s, _, h, w, hw => by
    simp only [E.words, List.mem_singleton] at hw
    subst hw
    exact kind_name h
  | .two o a b, t, h, w, hw => by
    have h1 := words_kind a (max o.lv 2) h.1
    have h2 := words_kind b (o.lv + 1) h.2
    have key : ∀ w ∈ a.words (max o.lv 2) ++ o.b :: b.words (o.lv + 1), kindL w ≠ 0 := by
      intro w hw
      rw [List.mem_append, List.mem_cons] at hw
      rcases hw with hw | rfl | hw
      · exact h1 w hw
      · exact kind_op o
      · exact h2 w hw
    simp only [E.words] at hw
    split at hw
    · rw [List.mem_append, List.mem_cons, List.mem_singleton] at hw
      rcases hw with (rfl | hw) | rfl
      · decide
      · exact key w hw
      · decide
    · exact key w hw
  | .cast ty a, _, h, w, hw => by
    have h1 := words_kind a 4 h
    simp only [E.words, List.mem_append, List.mem_cons, List.not_mem_nil, or_false] at hw
    rcases hw with hw | rfl | rfl
    · exact h1 w hw
    · decide
    · exact kind_ty ty
namespace SE
def came : SE → List Came
  | none => []
  | slet nm _ e => (nm, 1) :: ([61], 4) :: shiftL 5 (e.came 1 1)
  | say e => (cPrint, 0) :: shiftL 1 (e.came 1 1)
  | when a b => (cIf, 0) :: (shiftL 1 (a.came 1 1) ++ ([58], -1) :: (cPrint, ((a.words 1).length : Int) + 1) :: shiftL ((a.words 1).length + 2) (b.came 1 1))
theorem came_ok (s : SE) (h : s.form) : CameOk s.words.length s.came := by
  cases s with
  | none => exact .nil _
  | slet nm t e =>
    have h1 := E.came_ok e 1 1 h.2.1
    simp only [came, words, List.length_cons]
    exact .cons ⟨kind_name h.1, by simp, by simp; omega⟩ (.cons ⟨by decide, by simp, by simp; omega⟩ (h1.shift (by omega)))
  | say e =>
    have h1 := E.came_ok e 1 1 h.1
    simp only [came, words, List.length_cons]
    exact .cons ⟨by decide, by simp, by simp only; omega⟩ (h1.shift (by omega))
  | when a b =>
    have h1 := E.came_ok a 1 1 h.1.1
    have h2 := E.came_ok b 1 1 h.2.1
    simp only [came, words, List.length_cons, List.length_append]
    exact .cons ⟨by decide, by simp, by simp only; omega⟩ ((h1.shift (by omega)).append (.cons ⟨by decide, by simp, by simp; omega⟩ (.cons ⟨(by decide : kindL cPrint ≠ 0), by simp only; omega, by simp only; omega⟩ (h2.shift (by omega)))))
theorem words_kind' (s : SE) (h : s.form) : ∀ w ∈ s.words, kindL w ≠ 0 := by
  cases s with
  | none => intro w hw; simp [words] at hw
  | slet nm t e =>
    have h1 := words_kind e 1 h.2.1
    intro w hw
    simp only [words, List.mem_cons] at hw
    rcases hw with rfl | rfl | rfl | rfl | rfl | hw
    · decide
    · exact kind_name h.1
    · decide
    · exact kind_ty t
    · decide
    · exact h1 w hw
  | say e =>
    have h1 := words_kind e 1 h.1
    intro w hw
    simp only [words, List.mem_cons] at hw
    rcases hw with rfl | hw
    · decide
    · exact h1 w hw
  | when a b =>
    have h1 := words_kind a 1 h.1.1
    have h2 := words_kind b 1 h.2.1
    intro w hw
    simp only [words, List.mem_cons, List.mem_append] at hw
    rcases hw with rfl | hw | rfl | hw
    · decide
    · exact h1 w hw
    · decide
    · exact h2 w hw
end SE
end Go.Proofs.YtgakjhaepdigpaaGreatDoor


/- Plain Lean of reading lines: a line that was written is read back. No program in sight, no condition. -/
namespace Go.Proofs.YtgakjhaepdigpaaGreatDoor
set_option maxRecDepth 100000
set_option linter.unusedSimpArgs false
set_option linter.unusedVariables false
open Go.RowKit

theorem words_two : ∀ (e : E) (t : Nat), (e.words t).length + 1 ≤ 2 * e.cnt
  | .num _, _ => by simp [E.words, E.cnt]
  | .nam _, _ => by simp [E.words, E.cnt]
  | .two o a b, t => by
    have h1 := words_two a (max o.lv 2)
    have h2 := words_two b (o.lv + 1)
    have := a.cnt_pos
    simp only [E.words, E.cnt]
    split <;> simp only [List.length_append, List.length_cons, List.length_nil] <;> omega
  | .cast ty a, _ => by
    have h1 := words_two a 4
    simp only [E.words, E.cnt, List.length_append, List.length_cons, List.length_nil]
    omega
theorem E.Ok.many {e : E} (h : e.Ok) (t : Nat) : (e.words t).length ≤ 23 := by
  have := words_two e t
  have := h.2.2
  omega
theorem decL_not_word {n : Nat} {w : Bytes} (hw : ∃ c ∈ w, isDig c = false) : decL n ≠ w := decL_ne hw
theorem no_say : ∀ (e : E) (t : Nat), e.ok → ∀ w ∈ e.words t, w ≠ cSay
  | .num n, _, h, w, hw => by
    simp only [E.words, List.mem_singleton] at hw
    subst hw
    exact decL_ne ⟨115, by decide, by decide⟩
  | .nam s, _, h, w, hw => by
    simp only [E.words, List.mem_singleton] at hw
    subst hw
    rintro rfl
    revert h
    simp only [E.ok]
    decide
  | .two o a b, t, h, w, hw => by
    have h1 := no_say a (max o.lv 2) h.1
    have h2 := no_say b (o.lv + 1) h.2
    have key : ∀ w ∈ a.words (max o.lv 2) ++ o.b :: b.words (o.lv + 1), w ≠ cSay := by
      intro w hw
      rw [List.mem_append, List.mem_cons] at hw
      rcases hw with hw | rfl | hw
      · exact h1 w hw
      · cases o <;> decide
      · exact h2 w hw
    simp only [E.words] at hw
    split at hw
    · rw [List.mem_append, List.mem_cons, List.mem_singleton] at hw
      rcases hw with (rfl | hw) | rfl
      · decide
      · exact key w hw
      · decide
    · exact key w hw
  | .cast ty a, _, h, w, hw => by
    have h1 := no_say a 4 h
    simp only [E.words, List.mem_append, List.mem_cons, List.not_mem_nil, or_false] at hw
    rcases hw with hw | rfl | rfl
    · exact h1 w hw
    · decide
    · cases ty <;> decide
theorem rdE_words {e : E} (h : e.Ok) : rdE (e.words 1) = some e := rdE_some (by have := h.many 1; omega) h rfl
theorem rdX_words {e : E} (h : e.Ok) : rdX (e.words 1) = e.ex := by unfold rdX; rw [rdE_words h]
theorem rdOk_words {e : E} (h : e.Ok) : rdOk (e.words 1) = true := by unfold rdOk; rw [rdE_words h]; rfl
/-- the place of the word say -/
def sayAt (ws : List Bytes) : Option Nat := ws.findIdx? (fun x => x == cSay)
theorem sayAt_when (a b : List Bytes) (ha : ∀ w ∈ a, w ≠ cSay) : sayAt (cWhen :: (a ++ cSay :: b)) = some (a.length + 1) := by
  unfold sayAt
  rw [List.findIdx?_cons]
  rw [if_neg (by decide)]
  rw [List.findIdx?_append]
  rw [show List.findIdx? (fun x => x == cSay) a = none from by
    rw [List.findIdx?_eq_none_iff]
    intro x hx
    simpa using ha x hx]
  simp [List.findIdx?_cons]
/-- the program's reading of words -/
noncomputable def rsm (w : List Bytes) : Sm :=
  if 5 < w.length ∧ w[0]? = some cLet then ⟨1, (w[1]?).getD [], (w[3]?).getD [], rdX (w.drop 5), Ex.none⟩
  else if w[0]? = some cSay then ⟨2, [], [], rdX (w.drop 1), Ex.none⟩
  else if w[0]? = some cWhen then (match sayAt w with
    | some (k + 1) => ⟨3, [], [], rdX ((w.take (k + 1)).drop 1), rdX (w.drop (k + 2))⟩
    | _ => ⟨3, [], [], Ex.none, Ex.none⟩)
  else ⟨0, [], [], Ex.none, Ex.none⟩
theorem rsm_let (nm ty : Bytes) (l : List Bytes) (h : 1 ≤ l.length) : rsm (cLet :: nm :: [58] :: ty :: [61] :: l) = ⟨1, nm, ty, rdX l, Ex.none⟩ := by
  unfold rsm
  rw [if_pos ⟨by simp only [List.length_cons]; omega, rfl⟩]
  rfl
theorem rsm_say (l : List Bytes) : rsm (cSay :: l) = ⟨2, [], [], rdX l, Ex.none⟩ := by
  unfold rsm
  rw [if_neg (by rintro ⟨_, h⟩; exact absurd (Option.some.inj h) (by decide)), if_pos (show (cSay :: l)[0]? = some cSay from rfl)]
  rfl
theorem rsm_when (a b : List Bytes) (ha : ∀ w ∈ a, w ≠ cSay) : rsm (cWhen :: (a ++ cSay :: b)) = ⟨3, [], [], rdX a, rdX b⟩ := by
  unfold rsm
  rw [if_neg (by rintro ⟨_, h⟩; exact absurd (Option.some.inj h) (by decide)), if_neg (show ¬ (cWhen :: (a ++ cSay :: b))[0]? = some cSay from fun h => absurd (Option.some.inj h) (by decide)), if_pos (show (cWhen :: (a ++ cSay :: b))[0]? = some cWhen from rfl), sayAt_when _ _ ha]
  have e1 : ((cWhen :: (a ++ cSay :: b)).take (a.length + 1)).drop 1 = a := by
    rw [List.take_succ_cons, List.drop_succ_cons, List.drop_zero, List.take_left]
  have e2 : (cWhen :: (a ++ cSay :: b)).drop (a.length + 2) = b := by
    rw [List.drop_succ_cons, List.drop_append, List.drop_of_length_le (by omega), Nat.add_sub_cancel_left]
    rfl
  simp only
  rw [e1, e2]
theorem rsm_words {s : SE} (h : s.form) : rsm s.words = s.sm := by
  cases s with
  | none => rfl
  | slet nm t e =>
    have h2 := rsm_let nm (tyB t) (e.words 1) (E.words_pos e 1)
    rw [rdX_words h.2] at h2
    exact h2
  | say e =>
    have h2 := rsm_say (e.words 1)
    rw [rdX_words (show e.Ok from h)] at h2
    exact h2
  | when a b =>
    have h2 := rsm_when (a.words 1) (b.words 1) (no_say a 1 h.1.1)
    rw [rdX_words h.1, rdX_words h.2] at h2
    exact h2
theorem form_words_inj {s t : SE} (hs : s.form) (ht : t.form) (h : s.words = t.words) : s = t :=
  SE.sm_inj (by rw [← rsm_words hs, ← rsm_words ht, h])
theorem toks_words (a : Nat) (l : List Bytes) : (toksL a l).map Tk.s = l := by
  induction l generalizing a with
  | nil => rfl
  | cons w l ih => simp [toksL, ih]
theorem text_inj {s t : SE} (hs : s.form) (ht : t.form) (h : s.text = t.text) : s = t := by
  have h1 := tok_join s.words 0 (SE.words_kind' s hs)
  have h2 := tok_join t.words 0 (SE.words_kind' t ht)
  unfold SE.text at h
  rw [h, h2] at h1
  have h3 := congrArg (List.map Tk.s) (Option.some.inj h1)
  rw [toks_words, toks_words] at h3
  exact (form_words_inj ht hs h3).symm
open Classical in
/-- what a line is read as -/
noncomputable def rdS (line : Bytes) : Option SE := if h : ∃ s : SE, s.ok ∧ s.text = line then some h.choose else none
theorem rdS_iff {line : Bytes} {s : SE} : rdS line = some s ↔ s.ok ∧ s.text = line := by
  unfold rdS
  constructor
  · intro h
    split at h
    · rename_i hx
      obtain rfl := Option.some.inj h
      exact hx.choose_spec
    · cases h
  · rintro ⟨h1, rfl⟩
    have hx : ∃ t : SE, t.ok ∧ t.text = s.text := ⟨s, h1, rfl⟩
    rw [dif_pos hx]
    exact congrArg some (text_inj hx.choose_spec.1.1 h1.1 hx.choose_spec.2)
noncomputable def rdSm (line : Bytes) : Sm := match rdS line with | some s => s.sm | none => SE.none.sm
noncomputable def rdSOk (line : Bytes) : Bool := (rdS line).isSome
/-- the words of a line, and whether it was cut -/
def lineW (line : Bytes) : Option (List Bytes) := if line.length ≤ 120 then (tokL 0 line).map (List.map Tk.s) else none
theorem lineW_text {s : SE} (h : s.ok) : lineW s.text = some s.words := by
  unfold lineW
  rw [if_pos (by have := h.2; omega)]
  unfold SE.text
  rw [tok_join _ 0 (SE.words_kind' s h.1), Option.map_some, toks_words]
/-- the program's answer: what was cut into words, read, and written so -/
theorem rdS_none {line : Bytes} (h : rdS line = none) (w : List Bytes) (h1 : smOkB (rsm w) = true) : smText (rsm w) ≠ line := by
  intro h2
  obtain ⟨t, ht, hk⟩ := smOkB_iff.1 h1
  unfold smText at h2
  rw [ht, smWords_se hk.1] at h2
  rw [rdS_iff.2 ⟨hk, h2⟩] at h
  cases h
theorem rdS_yes {line : Bytes} {s : SE} (h : rdS line = some s) : lineW line = some s.words ∧ rsm s.words = s.sm ∧ smOkB (rsm s.words) = true ∧ smText (rsm s.words) = line ∧ rdSm line = s.sm := by
  obtain ⟨h1, rfl⟩ := rdS_iff.1 h
  refine ⟨lineW_text h1, rsm_words h1.1, ?_, ?_, ?_⟩
  · rw [rsm_words h1.1]; exact smOkB_yes h1
  · rw [rsm_words h1.1]; unfold smText; rw [smWords_se h1.1]; rfl
  · unfold rdSm; rw [h]
end Go.Proofs.YtgakjhaepdigpaaGreatDoor
