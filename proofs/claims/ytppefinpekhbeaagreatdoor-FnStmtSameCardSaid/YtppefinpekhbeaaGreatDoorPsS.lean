
/- Plain Lean of reading lines: a line that was written is read back. No program in sight, no condition. -/
import Derived.Test.YtppefinpekhbeaaGreatDoorPs
import Derived.Test.YtppefinpekhbeaaGreatDoorCame
namespace Go.Proofs.YtppefinpekhbeaaGreatDoor
set_option maxRecDepth 100000
set_option linter.unusedSimpArgs false
set_option linter.unusedVariables false
open Go.RowKit

theorem words_two : ∀ (e : E) (t : Nat), (e.words t).length + 1 ≤ 2 * e.cnt
  | .num _, _ => by simp [E.words, E.cnt]
  | .nam _, _ => by simp [E.words, E.cnt]
  | .two o a b, t => by
    have h1 := words_two a (max o.lv 2)
    have h2 := words_two b (o.lv + 1)
    have := a.cnt_pos
    simp only [E.words, E.cnt]
    split <;> simp only [List.length_append, List.length_cons, List.length_nil] <;> omega
  | .cast ty a, _ => by
    have h1 := words_two a 4
    simp only [E.words, E.cnt, List.length_append, List.length_cons, List.length_nil]
    omega
theorem E.Ok.many {e : E} (h : e.Ok) (t : Nat) : (e.words t).length ≤ 23 := by
  have := words_two e t
  have := h.2.2
  omega
theorem decL_not_word {n : Nat} {w : Bytes} (hw : ∃ c ∈ w, isDig c = false) : decL n ≠ w := decL_ne hw
theorem no_say : ∀ (e : E) (t : Nat), e.ok → ∀ w ∈ e.words t, w ≠ cSay
  | .num n, _, h, w, hw => by
    simp only [E.words, List.mem_singleton] at hw
    subst hw
    exact decL_ne ⟨115, by decide, by decide⟩
  | .nam s, _, h, w, hw => by
    simp only [E.words, List.mem_singleton] at hw
    subst hw
    rintro rfl
    revert h
    simp only [E.ok]
    decide
  | .two o a b, t, h, w, hw => by
    have h1 := no_say a (max o.lv 2) h.1
    have h2 := no_say b (o.lv + 1) h.2
    have key : ∀ w ∈ a.words (max o.lv 2) ++ o.b :: b.words (o.lv + 1), w ≠ cSay := by
      intro w hw
      rw [List.mem_append, List.mem_cons] at hw
      rcases hw with hw | rfl | hw
      · exact h1 w hw
      · cases o <;> decide
      · exact h2 w hw
    simp only [E.words] at hw
    split at hw
    · rw [List.mem_append, List.mem_cons, List.mem_singleton] at hw
      rcases hw with (rfl | hw) | rfl
      · decide
      · exact key w hw
      · decide
    · exact key w hw
  | .cast ty a, _, h, w, hw => by
    have h1 := no_say a 4 h
    simp only [E.words, List.mem_append, List.mem_cons, List.not_mem_nil, or_false] at hw
    rcases hw with hw | rfl | rfl
    · exact h1 w hw
    · decide
    · cases ty <;> decide
theorem rdE_words {e : E} (h : e.Ok) : rdE (e.words 1) = some e := rdE_some (by have := h.many 1; omega) h rfl
theorem rdX_words {e : E} (h : e.Ok) : rdX (e.words 1) = e.ex := by unfold rdX; rw [rdE_words h]
theorem rdOk_words {e : E} (h : e.Ok) : rdOk (e.words 1) = true := by unfold rdOk; rw [rdE_words h]; rfl
/-- the place of the word say -/
def sayAt (ws : List Bytes) : Option Nat := ws.findIdx? (fun x => x == cSay)
theorem sayAt_when (a b : List Bytes) (ha : ∀ w ∈ a, w ≠ cSay) : sayAt (cWhen :: (a ++ cSay :: b)) = some (a.length + 1) := by
  unfold sayAt
  rw [List.findIdx?_cons]
  rw [if_neg (by decide)]
  rw [List.findIdx?_append]
  rw [show List.findIdx? (fun x => x == cSay) a = none from by
    rw [List.findIdx?_eq_none_iff]
    intro x hx
    simpa using ha x hx]
  simp [List.findIdx?_cons]
/-- the program's reading of words -/
noncomputable def rsm (w : List Bytes) : Sm :=
  if 5 < w.length ∧ w[0]? = some cLet then ⟨1, (w[1]?).getD [], (w[3]?).getD [], rdX (w.drop 5), Ex.none⟩
  else if w[0]? = some cSay then ⟨2, [], [], rdX (w.drop 1), Ex.none⟩
  else if w[0]? = some cWhen then (match sayAt w with
    | some (k + 1) => ⟨3, [], [], rdX ((w.take (k + 1)).drop 1), rdX (w.drop (k + 2))⟩
    | _ => ⟨3, [], [], Ex.none, Ex.none⟩)
  else ⟨0, [], [], Ex.none, Ex.none⟩
theorem rsm_let (nm ty : Bytes) (l : List Bytes) (h : 1 ≤ l.length) : rsm (cLet :: nm :: [58] :: ty :: [61] :: l) = ⟨1, nm, ty, rdX l, Ex.none⟩ := by
  unfold rsm
  rw [if_pos ⟨by simp only [List.length_cons]; omega, rfl⟩]
  rfl
theorem rsm_say (l : List Bytes) : rsm (cSay :: l) = ⟨2, [], [], rdX l, Ex.none⟩ := by
  unfold rsm
  rw [if_neg (by rintro ⟨_, h⟩; exact absurd (Option.some.inj h) (by decide)), if_pos (show (cSay :: l)[0]? = some cSay from rfl)]
  rfl
theorem rsm_when (a b : List Bytes) (ha : ∀ w ∈ a, w ≠ cSay) : rsm (cWhen :: (a ++ cSay :: b)) = ⟨3, [], [], rdX a, rdX b⟩ := by
  unfold rsm
  rw [if_neg (by rintro ⟨_, h⟩; exact absurd (Option.some.inj h) (by decide)), if_neg (show ¬ (cWhen :: (a ++ cSay :: b))[0]? = some cSay from fun h => absurd (Option.some.inj h) (by decide)), if_pos (show (cWhen :: (a ++ cSay :: b))[0]? = some cWhen from rfl), sayAt_when _ _ ha]
  have e1 : ((cWhen :: (a ++ cSay :: b)).take (a.length + 1)).drop 1 = a := by
    rw [List.take_succ_cons, List.drop_succ_cons, List.drop_zero, List.take_left]
  have e2 : (cWhen :: (a ++ cSay :: b)).drop (a.length + 2) = b := by
    rw [List.drop_succ_cons, List.drop_append, List.drop_of_length_le (by omega), Nat.add_sub_cancel_left]
    rfl
  simp only
  rw [e1, e2]
theorem rsm_words {s : SE} (h : s.form) : rsm s.words = s.sm := by
  cases s with
  | none => rfl
  | slet nm t e =>
    have h2 := rsm_let nm (tyB t) (e.words 1) (E.words_pos e 1)
    rw [rdX_words h.2] at h2
    exact h2
  | say e =>
    have h2 := rsm_say (e.words 1)
    rw [rdX_words (show e.Ok from h)] at h2
    exact h2
  | when a b =>
    have h2 := rsm_when (a.words 1) (b.words 1) (no_say a 1 h.1.1)
    rw [rdX_words h.1, rdX_words h.2] at h2
    exact h2
theorem form_words_inj {s t : SE} (hs : s.form) (ht : t.form) (h : s.words = t.words) : s = t :=
  SE.sm_inj (by rw [← rsm_words hs, ← rsm_words ht, h])
theorem toks_words (a : Nat) (l : List Bytes) : (toksL a l).map Tk.s = l := by
  induction l generalizing a with
  | nil => rfl
  | cons w l ih => simp [toksL, ih]
theorem text_inj {s t : SE} (hs : s.form) (ht : t.form) (h : s.text = t.text) : s = t := by
  have h1 := tok_join s.words 0 (SE.words_kind' s hs)
  have h2 := tok_join t.words 0 (SE.words_kind' t ht)
  unfold SE.text at h
  rw [h, h2] at h1
  have h3 := congrArg (List.map Tk.s) (Option.some.inj h1)
  rw [toks_words, toks_words] at h3
  exact (form_words_inj ht hs h3).symm
open Classical in
/-- what a line is read as -/
noncomputable def rdS (line : Bytes) : Option SE := if h : ∃ s : SE, s.ok ∧ s.text = line then some h.choose else none
theorem rdS_iff {line : Bytes} {s : SE} : rdS line = some s ↔ s.ok ∧ s.text = line := by
  unfold rdS
  constructor
  · intro h
    split at h
    · rename_i hx
      obtain rfl := Option.some.inj h
      exact hx.choose_spec
    · cases h
  · rintro ⟨h1, rfl⟩
    have hx : ∃ t : SE, t.ok ∧ t.text = s.text := ⟨s, h1, rfl⟩
    rw [dif_pos hx]
    exact congrArg some (text_inj hx.choose_spec.1.1 h1.1 hx.choose_spec.2)
noncomputable def rdSm (line : Bytes) : Sm := match rdS line with | some s => s.sm | none => SE.none.sm
noncomputable def rdSOk (line : Bytes) : Bool := (rdS line).isSome
/-- the words of a line, and whether it was cut -/
def lineW (line : Bytes) : Option (List Bytes) := if line.length ≤ 120 then (tokL 0 line).map (List.map Tk.s) else none
theorem lineW_text {s : SE} (h : s.ok) : lineW s.text = some s.words := by
  unfold lineW
  rw [if_pos (by have := h.2; omega)]
  unfold SE.text
  rw [tok_join _ 0 (SE.words_kind' s h.1), Option.map_some, toks_words]
/-- the program's answer: what was cut into words, read, and written so -/
theorem rdS_none {line : Bytes} (h : rdS line = none) (w : List Bytes) (h1 : smOkB (rsm w) = true) : smText (rsm w) ≠ line := by
  intro h2
  obtain ⟨t, ht, hk⟩ := smOkB_iff.1 h1
  unfold smText at h2
  rw [ht, smWords_se hk.1] at h2
  rw [rdS_iff.2 ⟨hk, h2⟩] at h
  cases h
theorem rdS_yes {line : Bytes} {s : SE} (h : rdS line = some s) : lineW line = some s.words ∧ rsm s.words = s.sm ∧ smOkB (rsm s.words) = true ∧ smText (rsm s.words) = line ∧ rdSm line = s.sm := by
  obtain ⟨h1, rfl⟩ := rdS_iff.1 h
  refine ⟨lineW_text h1, rsm_words h1.1, ?_, ?_, ?_⟩
  · rw [rsm_words h1.1]; exact smOkB_yes h1
  · rw [rsm_words h1.1]; unfold smText; rw [smWords_se h1.1]; rfl
  · unfold rdSm; rw [h]
end Go.Proofs.YtppefinpekhbeaaGreatDoor
