
/- Plain Lean: a word that is read by itself is a name that is used. No program in sight. -/
import Derived.Test.YtgakjhaepdigpaaGreatDoorNmS
import Derived.Test.YtgakjhaepdigpaaGreatDoorSnE
import Derived.Test.YtgakjhaepdigpaaGreatDoorZm19
namespace Go.Proofs.YtgakjhaepdigpaaGreatDoor
set_option maxRecDepth 100000
set_option linter.unusedSimpArgs false
set_option linter.unusedVariables false
open Go.RowKit

theorem decL_hd2 (n : Nat) : ∃ c r, decL n = c :: r := by
  by_cases h : n < 10
  · rw [decL_lt h]; exact ⟨_, _, rfl⟩
  · rw [decL_ge h]
    cases hd : decL (n / 10) with
    | nil => exact ⟨_, _, rfl⟩
    | cons c r => exact ⟨_, _, rfl⟩
theorem word_dec (n : Nat) : wordB (decL n) = false := by
  obtain ⟨c, r, h⟩ := decL_hd2 n
  have h1 := decL_dig n c (by rw [h]; simp)
  rw [Bool.eq_false_iff]
  intro h2
  simp only [wordB, Bool.and_eq_true, List.all_eq_true] at h2
  have h3 := h2.1.1 c (by rw [h]; simp)
  simp only [isDig, isLet, Bool.and_eq_true, decide_eq_true_eq] at h1 h3
  omega
theorem nameB_word {x : Bytes} (h : nameB x = true) : wordB x = true := by
  unfold nameB at h
  rw [Bool.and_eq_true] at h
  exact h.1
theorem addN_mem (l : List Bytes) (s : Bytes) : s ∈ addN l s := by
  unfold addN
  split
  · assumption
  · simp
theorem addN_sub {l : List Bytes} {s x : Bytes} (h : x ∈ l) : x ∈ addN l s := by
  unfold addN
  split
  · exact h
  · simp [h]
theorem uses_sub {x : Bytes} : ∀ (e : E) (l : List Bytes), x ∈ l → x ∈ usesL l e
  | .num _, l, h => h
  | .nam s, l, h => addN_sub h
  | .two _ a b, l, h => uses_sub b _ (uses_sub a l h)
  | .cast _ a, l, h => uses_sub a l h
theorem uses_words {x : Bytes} (hx : nameB x = true) : ∀ (e : E) (t : Nat) (l : List Bytes), x ∈ e.words t → x ∈ usesL l e
  | .num n, t, l, h => by
    simp only [E.words, List.mem_singleton] at h
    subst h
    have := nameB_word hx
    rw [word_dec] at this
    cases this
  | .nam s, t, l, h => by
    simp only [E.words, List.mem_singleton] at h
    subst h
    exact addN_mem l x
  | .two o a b, t, l, h => by
    have h' : x = [40] ∨ x = [41] ∨ x = o.b ∨ x ∈ a.words (max o.lv 2) ∨ x ∈ b.words (o.lv + 1) := by
      simp only [E.words] at h
      split at h
      · simp only [List.mem_append, List.mem_cons, List.not_mem_nil, or_false] at h
        rcases h with (h | h | h | h) | h
        · exact .inl h
        · exact .inr (.inr (.inr (.inl h)))
        · exact .inr (.inr (.inl h))
        · exact .inr (.inr (.inr (.inr h)))
        · exact .inr (.inl h)
      · simp only [List.mem_append, List.mem_cons] at h
        rcases h with h | h | h
        · exact .inr (.inr (.inr (.inl h)))
        · exact .inr (.inr (.inl h))
        · exact .inr (.inr (.inr (.inr h)))
    rcases h' with rfl | rfl | rfl | h' | h'
    · exact absurd hx (by decide)
    · exact absurd hx (by decide)
    · exfalso
      revert hx
      cases o <;> decide
    · exact uses_sub b _ (uses_words hx a _ l h')
    · exact uses_words hx b _ _ h'
  | .cast ty a, t, l, h => by
    simp only [E.words, List.mem_append, List.mem_cons, List.not_mem_nil, or_false] at h
    rcases h with h | rfl | rfl
    · exact uses_words hx a 4 l h
    · exact absurd hx (by decide)
    · exfalso
      revert hx
      cases ty <;> decide
/-- a word read by itself is a name -/
theorem rd_one {x : Bytes} (h : rdOk [x] = true) (hk : kindL x = 1) : nameB x = true := by
  unfold rdOk at h
  obtain ⟨e, he⟩ := Option.isSome_iff_exists.1 h
  obtain ⟨_, hok, hw⟩ := rdE_iff.1 he
  cases e with
  | num n =>
    simp only [E.words, List.cons.injEq, and_true] at hw
    subst hw
    unfold kindL at hk
    rw [word_dec] at hk
    simp at hk
    split at hk
    · cases hk
    · split at hk <;> cases hk
  | nam s =>
    simp only [E.words, List.cons.injEq, and_true] at hw
    subst hw
    exact hok.1
  | two o a b =>
    exfalso
    have h1 := E.words_pos a (max o.lv 2)
    have h2 := E.words_pos b (o.lv + 1)
    have h3 := congrArg List.length hw
    simp only [E.words] at h3
    split at h3 <;> simp at h3 <;> omega
  | cast ty a =>
    exfalso
    have h1 := E.words_pos a 4
    have h3 := congrArg List.length hw
    simp only [E.words] at h3
    simp at h3
/-- the words of what a line reckons, and its names -/
theorem sn_mem {s : Sm} (h : smOkB s = true) {x : Bytes} (hx : x ∈ exW s.ex ++ exW s.th) (hr : rdOk [x] = true) (hk : kindL x = 1) : x ∈ smNm s := by
  have hn := rd_one hr hk
  unfold smNm
  rw [if_pos h]
  obtain ⟨t, rfl, ht⟩ := smOkB_iff.1 h
  have hf := ht.1
  have h0 : exW Ex.none = [] := by
    apply exW_no
    rw [Bool.eq_false_iff]
    intro h1
    obtain ⟨e, he, _⟩ := E.ok_iff.1 h1
    exact none_ne e he
  rw [List.mem_append] at hx
  cases t with
  | none =>
    simp only [SE.sm] at hx
    rw [h0] at hx
    simp at hx
  | slet nm ty e =>
    simp only [SE.sm] at hx ⊢
    rw [h0, exW_yes hf.2] at hx
    rw [usX_none, usX_ex]
    exact uses_words hn e 1 [] (by simpa using hx)
  | say e =>
    simp only [SE.sm] at hx ⊢
    rw [h0, exW_yes hf] at hx
    rw [usX_none, usX_ex]
    exact uses_words hn e 1 [] (by simpa using hx)
  | when a b =>
    simp only [SE.sm] at hx ⊢
    rw [exW_yes hf.1, exW_yes hf.2] at hx
    rw [usX_ex, usX_ex]
    rcases hx with hx | hx
    · exact uses_sub b _ (uses_words hn a 1 [] hx)
    · exact uses_words hn b 1 _ hx
end Go.Proofs.YtgakjhaepdigpaaGreatDoor
