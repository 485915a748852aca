
/- Plain Lean of statements: their form as a test, their words, how long their texts are. No program in sight, no condition. -/
import Derived.Test.YtgfdakgibjplkaaGreatDoorSt
namespace Go.Proofs.YtgfdakgibjplkaaGreatDoor
set_option maxRecDepth 100000
open Go.RowKit

theorem joinL_le (k : Nat) : ∀ l : List Bytes, (∀ w ∈ l, w.length ≤ k) → (joinL l).length ≤ l.length * (k + 1)
  | [], _ => by simp [joinL]
  | [w], h => by have := h w (by simp); simp only [joinL, List.length_cons, List.length_nil]; omega
  | w :: v :: l, h => by
    have h1 := h w (by simp)
    have h2 := joinL_le k (v :: l) (fun x hx => h x (by simp [hx]))
    rw [joinL, List.length_append, List.length_cons, List.length_cons, Nat.add_mul]
    omega
theorem E.words_zero (e : E) : e.words 0 = e.words 1 := by
  cases e with
  | two o a b =>
    have h1 : ¬ o.lv < 0 := by omega
    have h2 : ¬ o.lv < 1 := by cases o <;> decide
    simp only [E.words]
    rw [if_neg h1, if_neg h2]
  | _ => rfl
theorem nameB_short {s : Bytes} (h : nameB s = true) : 1 ≤ s.length ∧ s.length ≤ 8 := by
  simp only [nameB, wordB, Bool.and_eq_true, decide_eq_true_eq] at h
  exact ⟨h.1.1.2, h.1.2⟩
namespace SE
theorem words_short {s : SE} (h : s.form) : ∀ w ∈ s.words, 1 ≤ w.length ∧ w.length ≤ 8 := by
  intro w hw
  cases s with
  | none => simp [words] at hw
  | slet nm t e =>
    simp only [words, List.mem_cons] at hw
    rcases hw with rfl | rfl | rfl | rfl | rfl | hw
    · decide
    · exact nameB_short h.1
    · decide
    · cases t <;> decide
    · decide
    · exact E.words_short e 1 h.2.1 w hw
  | say e =>
    simp only [words, List.mem_cons] at hw
    rcases hw with rfl | hw
    · decide
    · exact E.words_short e 1 h.1 w hw
  | when a b =>
    simp only [words, List.mem_cons, List.mem_append] at hw
    rcases hw with rfl | hw | rfl | hw
    · decide
    · exact E.words_short a 1 h.1.1 w hw
    · decide
    · exact E.words_short b 1 h.2.1 w hw
theorem words_len {s : SE} (h : s.form) : s.words.length ≤ 130 := by
  cases s with
  | none => simp [words]
  | slet nm t e =>
    have := E.words_len e 1
    have := h.2.2.2
    simp only [words, List.length_cons]
    omega
  | say e =>
    have := E.words_len e 1
    have := h.2.2
    simp only [words, List.length_cons]
    omega
  | when a b =>
    have := E.words_len a 1
    have := E.words_len b 1
    have := h.1.2.2
    have := h.2.2.2
    simp only [words, List.length_cons, List.length_append]
    omega
theorem text_len {s : SE} (h : s.form) : s.text.length ≤ 1170 := by
  have h1 := joinL_le 8 s.words (fun w hw => (words_short h w hw).2)
  have h2 := words_len h
  unfold text
  omega
end SE
noncomputable def noneB (e : Ex) : Bool := decide (e = Ex.none)
/-- a statement has what its kind needs -/
noncomputable def formSB (s : Sm) : Bool :=
  if s.kind = 0 then (s.name == []) && (s.typ == []) && noneB s.ex && noneB s.th
  else if s.kind = 1 then nameB s.name && typeB s.typ && exOkB s.ex && noneB s.th
  else if s.kind = 2 then (s.name == []) && (s.typ == []) && exOkB s.ex && noneB s.th
  else if s.kind = 3 then (s.name == []) && (s.typ == []) && exOkB s.ex && exOkB s.th
  else false
theorem noneB_iff {e : Ex} : noneB e = true ↔ e = Ex.none := by unfold noneB; simp
theorem formSB_iff {s : Sm} : formSB s = true ↔ ∃ t : SE, s = t.sm ∧ t.form := by
  constructor
  · intro h
    obtain ⟨k, nm, ty, ex, th⟩ := s
    unfold formSB at h
    simp only at h
    by_cases e0 : k = 0
    · rw [if_pos e0] at h
      simp only [Bool.and_eq_true, beq_iff_eq, noneB_iff] at h
      obtain ⟨⟨⟨rfl, rfl⟩, rfl⟩, rfl⟩ := h
      exact ⟨.none, by rw [e0]; rfl, trivial⟩
    rw [if_neg e0] at h
    by_cases e1 : k = 1
    · rw [if_pos e1] at h
      simp only [Bool.and_eq_true, noneB_iff] at h
      obtain ⟨⟨⟨h1, h2⟩, h3⟩, rfl⟩ := h
      obtain ⟨t, rfl⟩ := of_typeB h2
      obtain ⟨e, rfl, he⟩ := E.ok_iff.1 h3
      exact ⟨.slet nm t e, by rw [e1]; rfl, h1, he⟩
    rw [if_neg e1] at h
    by_cases e2 : k = 2
    · rw [if_pos e2] at h
      simp only [Bool.and_eq_true, beq_iff_eq, noneB_iff] at h
      obtain ⟨⟨⟨rfl, rfl⟩, h3⟩, rfl⟩ := h
      obtain ⟨e, rfl, he⟩ := E.ok_iff.1 h3
      exact ⟨.say e, by rw [e2]; rfl, he⟩
    rw [if_neg e2] at h
    by_cases e3 : k = 3
    · rw [if_pos e3] at h
      simp only [Bool.and_eq_true, beq_iff_eq] at h
      obtain ⟨⟨⟨rfl, rfl⟩, h3⟩, h4⟩ := h
      obtain ⟨e, rfl, he⟩ := E.ok_iff.1 h3
      obtain ⟨f, rfl, hf⟩ := E.ok_iff.1 h4
      exact ⟨.when e f, by rw [e3]; rfl, he, hf⟩
    rw [if_neg e3] at h
    cases h
  · rintro ⟨t, rfl, h⟩
    cases t with
    | none => simp [formSB, SE.sm, noneB]
    | slet nm t e => simp [formSB, SE.sm, noneB, h.1, typeB_ty, E.ok_iff.2 ⟨e, rfl, h.2⟩]
    | say e => simp [formSB, SE.sm, noneB, E.ok_iff.2 ⟨e, rfl, h⟩]
    | when a b => simp [formSB, SE.sm, E.ok_iff.2 ⟨a, rfl, h.1⟩, E.ok_iff.2 ⟨b, rfl, h.2⟩]
open Classical in
/-- the words of what has the form -/
noncomputable def smWords (s : Sm) : List Bytes := if h : ∃ t : SE, s = t.sm ∧ t.form then h.choose.words else []
theorem smWords_se {t : SE} (h : t.form) : smWords t.sm = t.words := by
  have hx : ∃ u : SE, t.sm = u.sm ∧ u.form := ⟨t, rfl, h⟩
  unfold smWords
  rw [dif_pos hx]
  exact congrArg SE.words (SE.sm_inj hx.choose_spec.1).symm
theorem smWords_short {s : Sm} (h : formSB s = true) : ∀ w ∈ smWords s, 1 ≤ w.length ∧ w.length ≤ 8 := by
  obtain ⟨t, rfl, hf⟩ := formSB_iff.1 h
  rw [smWords_se hf]
  exact SE.words_short hf
theorem smWords_len {s : Sm} (h : formSB s = true) : (smWords s).length ≤ 130 := by
  obtain ⟨t, rfl, hf⟩ := formSB_iff.1 h
  rw [smWords_se hf]
  exact SE.words_len hf
noncomputable def smText (s : Sm) : Bytes := joinL (smWords s)
theorem smText_len {s : Sm} (h : formSB s = true) : (smText s).length ≤ 1170 := by
  obtain ⟨t, rfl, hf⟩ := formSB_iff.1 h
  unfold smText
  rw [smWords_se hf]
  exact SE.text_len hf
theorem smOkB_form (s : Sm) : smOkB s = (formSB s && decide ((smText s).length ≤ 116)) := by
  rw [Bool.eq_iff_iff, smOkB_iff, Bool.and_eq_true, formSB_iff, decide_eq_true_eq]
  constructor
  · rintro ⟨t, rfl, h1, h2⟩
    exact ⟨⟨t, rfl, h1⟩, by unfold smText; rw [smWords_se h1]; exact h2⟩
  · rintro ⟨⟨t, rfl, h1⟩, h2⟩
    unfold smText at h2
    rw [smWords_se h1] at h2
    exact ⟨t, rfl, h1, h2⟩
end Go.Proofs.YtgfdakgibjplkaaGreatDoor
