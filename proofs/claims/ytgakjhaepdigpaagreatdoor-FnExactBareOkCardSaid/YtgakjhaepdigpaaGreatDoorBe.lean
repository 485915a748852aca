
/- Plain Lean of lines without types: what is ok, words, text; and how they lie in memory. No program in sight, no condition. -/
import Derived.Test.YtgakjhaepdigpaaGreatDoorBas
namespace Go.Proofs.YtgakjhaepdigpaaGreatDoor
set_option maxRecDepth 100000
set_option linter.unusedSimpArgs false
set_option linter.unusedVariables false
open Go.RowKit

/-- a line without types as it comes -/
structure Br where
  kind : Int
  name : Bytes
  ex : Ex
  th : Ex
def plainE : E → Bool
  | .num _ => true
  | .nam _ => true
  | .two _ a b => plainE a && plainE b
  | .cast _ _ => false
theorem plainE_bare : ∀ e : E, plainE e.bare = true
  | .num _ => rfl
  | .nam _ => rfl
  | .two o a b => by simp only [E.bare, plainE, plainE_bare a, plainE_bare b, Bool.and_self]
  | .cast t a => by simp only [E.bare]; exact plainE_bare a
theorem bare_plainE : ∀ e : E, plainE e = true → e.bare = e
  | .num _, _ => rfl
  | .nam _, _ => rfl
  | .two o a b, h => by
    simp only [plainE, Bool.and_eq_true] at h
    simp only [E.bare, bare_plainE a h.1, bare_plainE b h.2]
  | .cast t a, h => by simp [plainE] at h
theorem plainE_iff {e : E} : plainE e = true ↔ e.bare = e := ⟨bare_plainE e, fun h => by rw [← h]; exact plainE_bare e⟩
/-- a line without types that has the form of one -/
inductive BE where
  | none
  | slet (name : Bytes) (e : E)
  | say (e : E)
  | when (a b : E)
namespace BE
def br : BE → Br
  | none => ⟨0, [], Ex.none, Ex.none⟩
  | slet nm e => ⟨1, nm, e.ex, Ex.none⟩
  | say e => ⟨2, [], e.ex, Ex.none⟩
  | when a b => ⟨3, [], a.ex, b.ex⟩
def words : BE → List Bytes
  | none => []
  | slet nm e => nm :: [61] :: e.words 1
  | say e => cPrint :: e.words 1
  | when a b => cIf :: (a.words 1 ++ [58] :: cPrint :: b.words 1)
def form : BE → Prop
  | none => True
  | slet nm e => nameB nm = true ∧ e.Ok ∧ plainE e = true
  | say e => e.Ok ∧ plainE e = true
  | when a b => (a.Ok ∧ plainE a = true) ∧ (b.Ok ∧ plainE b = true)
def text (s : BE) : Bytes := joinL s.words
def ok (s : BE) : Prop := s.form ∧ s.text.length ≤ 120
theorem br_inj {a b : BE} (h : a.br = b.br) : a = b := by
  cases a <;> cases b <;> simp only [br, Br.mk.injEq] at h
  all_goals first
    | rfl
    | (exfalso; have := h.1; omega)
    | (rw [h.2.1, E.ex_inj h.2.2.1])
    | (rw [E.ex_inj h.2.2.1, E.ex_inj h.2.2.2])
    | (rw [E.ex_inj h.2.2.1])
theorem words_short {s : BE} (h : s.form) : ∀ w ∈ s.words, 1 ≤ w.length ∧ w.length ≤ 8 := by
  intro w hw
  cases s with
  | none => simp [words] at hw
  | slet nm e =>
    simp only [words, List.mem_cons] at hw
    rcases hw with rfl | rfl | hw
    · exact nameB_short h.1
    · decide
    · exact E.words_short e 1 h.2.1.1 w hw
  | say e =>
    simp only [words, List.mem_cons] at hw
    rcases hw with rfl | hw
    · decide
    · exact E.words_short e 1 h.1.1 w hw
  | when a b =>
    simp only [words, List.mem_cons, List.mem_append] at hw
    rcases hw with rfl | hw | rfl | rfl | hw
    · decide
    · exact E.words_short a 1 h.1.1.1 w hw
    · decide
    · decide
    · exact E.words_short b 1 h.2.1.1 w hw
theorem words_len {s : BE} (h : s.form) : s.words.length ≤ 130 := by
  cases s with
  | none => simp [words]
  | slet nm e =>
    have := E.words_len e 1
    have := h.2.1.2.2
    simp only [words, List.length_cons]
    omega
  | say e =>
    have := E.words_len e 1
    have := h.1.2.2
    simp only [words, List.length_cons]
    omega
  | when a b =>
    have := E.words_len a 1
    have := E.words_len b 1
    have := h.1.1.2.2
    have := h.2.1.2.2
    simp only [words, List.length_cons, List.length_append]
    omega
theorem text_len {s : BE} (h : s.form) : s.text.length ≤ 1170 := by
  have h1 := joinL_le 8 s.words (fun w hw => (words_short h w hw).2)
  have h2 := words_len h
  unfold text
  omega
end BE
open Classical in
noncomputable def brOkB (s : Br) : Bool := decide (∃ t : BE, s = t.br ∧ t.ok)
theorem brOkB_iff {s : Br} : brOkB s = true ↔ ∃ t : BE, s = t.br ∧ t.ok := by unfold brOkB; simp
open Classical in
/-- a tree that is ok, and without types -/
noncomputable def exPlB (x : Ex) : Bool := decide (∃ e : E, x = e.ex ∧ e.Ok ∧ plainE e = true)
theorem exPlB_iff {x : Ex} : exPlB x = true ↔ ∃ e : E, x = e.ex ∧ e.Ok ∧ plainE e = true := by unfold exPlB; simp
theorem exPlB_ok {e : E} (h : e.Ok) : exPlB e.ex = plainE e := by
  rw [Bool.eq_iff_iff, exPlB_iff]
  exact ⟨fun ⟨f, e1, _, e3⟩ => by rw [E.ex_inj e1]; exact e3, fun h2 => ⟨e, rfl, h, h2⟩⟩
theorem exPlB_no {x : Ex} (h : exOkB x = false) : exPlB x = false := by
  rw [Bool.eq_false_iff]
  intro e
  obtain ⟨f, rfl, h1, _⟩ := exPlB_iff.1 e
  rw [E.ok_iff.2 ⟨f, rfl, h1⟩] at h
  cases h
/-- a line has what its kind needs -/
noncomputable def formBB (s : Br) : Bool :=
  if s.kind = 0 then (s.name == []) && noneB s.ex && noneB s.th
  else if s.kind = 1 then nameB s.name && exPlB s.ex && noneB s.th
  else if s.kind = 2 then (s.name == []) && exPlB s.ex && noneB s.th
  else if s.kind = 3 then (s.name == []) && exPlB s.ex && exPlB s.th
  else false
theorem formBB_iff {s : Br} : formBB s = true ↔ ∃ t : BE, s = t.br ∧ t.form := by
  constructor
  · intro h
    obtain ⟨k, nm, ex, th⟩ := s
    unfold formBB at h
    simp only at h
    by_cases e0 : k = 0
    · rw [if_pos e0] at h
      simp only [Bool.and_eq_true, beq_iff_eq, noneB_iff] at h
      obtain ⟨⟨rfl, rfl⟩, rfl⟩ := h
      exact ⟨.none, by rw [e0]; rfl, trivial⟩
    rw [if_neg e0] at h
    by_cases e1 : k = 1
    · rw [if_pos e1] at h
      simp only [Bool.and_eq_true, noneB_iff] at h
      obtain ⟨⟨h1, h3⟩, rfl⟩ := h
      obtain ⟨e, rfl, he⟩ := exPlB_iff.1 h3
      exact ⟨.slet nm e, by rw [e1]; rfl, h1, he⟩
    rw [if_neg e1] at h
    by_cases e2 : k = 2
    · rw [if_pos e2] at h
      simp only [Bool.and_eq_true, beq_iff_eq, noneB_iff] at h
      obtain ⟨⟨rfl, h3⟩, rfl⟩ := h
      obtain ⟨e, rfl, he⟩ := exPlB_iff.1 h3
      exact ⟨.say e, by rw [e2]; rfl, he⟩
    rw [if_neg e2] at h
    by_cases e3 : k = 3
    · rw [if_pos e3] at h
      simp only [Bool.and_eq_true, beq_iff_eq] at h
      obtain ⟨⟨rfl, h3⟩, h4⟩ := h
      obtain ⟨e, rfl, he⟩ := exPlB_iff.1 h3
      obtain ⟨f, rfl, hf⟩ := exPlB_iff.1 h4
      exact ⟨.when e f, by rw [e3]; rfl, he, hf⟩
    rw [if_neg e3] at h
    cases h
  · rintro ⟨t, rfl, h⟩
    cases t with
    | none => simp [formBB, BE.br, noneB]
    | slet nm e => simp [formBB, BE.br, noneB, h.1, exPlB_iff.2 ⟨e, rfl, h.2⟩]
    | say e => simp [formBB, BE.br, noneB, exPlB_iff.2 ⟨e, rfl, h⟩]
    | when a b => simp [formBB, BE.br, exPlB_iff.2 ⟨a, rfl, h.1⟩, exPlB_iff.2 ⟨b, rfl, h.2⟩]
open Classical in
/-- the words of what has the form -/
noncomputable def brWords (s : Br) : List Bytes := if h : ∃ t : BE, s = t.br ∧ t.form then h.choose.words else []
theorem brWords_be {t : BE} (h : t.form) : brWords t.br = t.words := by
  have hx : ∃ u : BE, t.br = u.br ∧ u.form := ⟨t, rfl, h⟩
  unfold brWords
  rw [dif_pos hx]
  exact congrArg BE.words (BE.br_inj hx.choose_spec.1).symm
theorem brWords_len {s : Br} (h : formBB s = true) : (brWords s).length ≤ 130 := by
  obtain ⟨t, rfl, hf⟩ := formBB_iff.1 h
  rw [brWords_be hf]
  exact BE.words_len hf
noncomputable def brText (s : Br) : Bytes := joinL (brWords s)
theorem brText_len {s : Br} (h : formBB s = true) : (brText s).length ≤ 1170 := by
  obtain ⟨t, rfl, hf⟩ := formBB_iff.1 h
  unfold brText
  rw [brWords_be hf]
  exact BE.text_len hf
theorem brText_lt {s : Br} (h : formBB s = true) : (brText s).length ≤ 100000000 := Nat.le_trans (brText_len h) (by decide)
theorem brOkB_form (s : Br) : brOkB s = (formBB s && decide ((brText s).length ≤ 120)) := by
  rw [Bool.eq_iff_iff, brOkB_iff, Bool.and_eq_true, formBB_iff, decide_eq_true_eq]
  constructor
  · rintro ⟨t, rfl, h1, h2⟩
    exact ⟨⟨t, rfl, h1⟩, by unfold brText; rw [brWords_be h1]; exact h2⟩
  · rintro ⟨⟨t, rfl, h1⟩, h2⟩
    unfold brText at h2
    rw [brWords_be h1] at h2
    exact ⟨t, rfl, h1, h2⟩
/-- a line without types by value -/
def BrV (w : World) (B : Nat) (v : Value) (s : Br) : Prop := ∃ (A1 A2 : Option Addr) (c1 c2 : Nat), v = .agg #[.int .i64 s.kind, .string (bs s.name), .int .i64 s.ex.kind, .int .i64 s.ex.n, .string (bs s.ex.s), .slice A1 s.ex.kids.length c1, .int .i64 s.th.kind, .int .i64 s.th.n, .string (bs s.th.s), .slice A2 s.th.kids.length c2] ∧
    s.name.length ≤ 9223372036854775807 ∧ ExV w B (.agg #[.int .i64 s.ex.kind, .int .i64 s.ex.n, .string (bs s.ex.s), .slice A1 s.ex.kids.length c1]) s.ex ∧ ExV w B (.agg #[.int .i64 s.th.kind, .int .i64 s.th.n, .string (bs s.th.s), .slice A2 s.th.kids.length c2]) s.th
theorem BrV.keep {B B' : Nat} {w w' : World} {v : Value} {s : Br} (h : BrV w B v s) (hb : Below B' w w') (hB : B ≤ B') : BrV w' B v s := by
  obtain ⟨A1, A2, c1, c2, h1, h2, h3, h4⟩ := h
  exact ⟨A1, A2, c1, c2, h1, h2, h3.keep hb hB, h4.keep hb hB⟩
theorem BrV.more {B B' : Nat} {w : World} {v : Value} {s : Br} (h : BrV w B v s) (hB : B ≤ B') : BrV w B' v s := by
  obtain ⟨A1, A2, c1, c2, h1, h2, h3, h4⟩ := h
  exact ⟨A1, A2, c1, c2, h1, h2, h3.more hB, h4.more hB⟩
theorem BrV.ext {w w' : World} {v : Value} {s : Br} (h : BrV w w.heap.size v s) (hb : Ext w w') : BrV w' w'.heap.size v s := (h.keep hb (Nat.le_refl _)).more hb.size
end Go.Proofs.YtgakjhaepdigpaaGreatDoor
