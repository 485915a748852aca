
/- Plain Lean of reading lines: what each branch of a reader must give; texts with more behind them are none. No program in sight, no condition. -/
import Derived.Test.YtgakjhaepdigpaaGreatDoorZm6
namespace Go.Proofs.YtgakjhaepdigpaaGreatDoor
set_option maxRecDepth 100000
set_option linter.unusedSimpArgs false
set_option linter.unusedVariables false
open Go.RowKit

/-- these words, read so, are read right -/
def RdL (w : List Bytes) (s : Sm) (b : Bool) : Prop := ∀ t : SE, t.form → w = t.words → s = t.sm ∧ b = true
theorem rdS_no {line : Bytes} (h : rdS line = none) {s : Sm} (h1 : smOkB s = true) : smText s ≠ line := by
  intro h2
  obtain ⟨t, ht, hk⟩ := smOkB_iff.1 h1
  unfold smText at h2
  rw [ht, smWords_se hk.1] at h2
  rw [rdS_iff.2 ⟨hk, h2⟩] at h
  cases h
/-- the answer, out of what the words were read as -/
theorem rdL_ans {line : Bytes} {w : List Bytes} {s : Sm} {b : Bool} (hw : lineW line = some w) (h : RdL w s b) : rdSOk line = (b && smOkB s && decide (smText s = line)) ∧ (rdSOk line = true → rdSm line = s) ∧ (rdSOk line = false → rdSm line = SE.none.sm) := by
  cases hr : rdS line with
  | none =>
    have e1 : rdSOk line = false := by unfold rdSOk; rw [hr]; rfl
    refine ⟨?_, fun h2 => by (rw [e1] at h2; cases h2), fun _ => by unfold rdSm; rw [hr]⟩
    rw [e1]
    cases h1 : smOkB s with
    | false => simp
    | true => simp [rdS_no hr h1]
  | some t =>
    have e1 : rdSOk line = true := by unfold rdSOk; rw [hr]; rfl
    obtain ⟨h1, h2, h3, h4, h5⟩ := rdS_yes hr
    rw [hw] at h1
    obtain ⟨k1, k2⟩ := h t (rdS_iff.1 hr).1.1 (Option.some.inj h1)
    refine ⟨?_, fun _ => by (rw [h5, k1]), fun h6 => by (rw [e1] at h6; cases h6)⟩
    rw [e1, k1, k2]
    rw [h2] at h3 h4
    rw [h3, h4]
    simp
theorem rdL_none {line : Bytes} (hw : lineW line = none) : rdSOk line = false ∧ rdSm line = SE.none.sm := by
  cases hr : rdS line with
  | none => exact ⟨by unfold rdSOk; rw [hr]; rfl, by unfold rdSm; rw [hr]⟩
  | some t =>
    have h1 := (rdS_yes hr).1
    rw [hw] at h1
    cases h1
theorem SE.words_head (t : SE) : (t = .none ∧ t.words = []) ∨ (∃ nm ty e, t = .slet nm ty e) ∨ (∃ e, t = .say e) ∨ (∃ a b, t = .when a b) := by
  cases t with
  | none => exact .inl ⟨rfl, rfl⟩
  | slet nm ty e => exact .inr (.inl ⟨nm, ty, e, rfl⟩)
  | say e => exact .inr (.inr (.inl ⟨e, rfl⟩))
  | when a b => exact .inr (.inr (.inr ⟨a, b, rfl⟩))
theorem RdL.nil : RdL [] SE.none.sm true := by
  intro t ht h
  rcases t.words_head with ⟨rfl, _⟩ | ⟨nm, ty, e, rfl⟩ | ⟨e, rfl⟩ | ⟨a, b, rfl⟩
  · exact ⟨rfl, rfl⟩
  all_goals (simp [SE.words] at h)
theorem RdL.slet {w : List Bytes} (hl : 5 < w.length) (h0 : w[0]? = some cLet) : RdL w ⟨1, (w[1]?).getD [], (w[3]?).getD [], rdX (w.drop 5), Ex.none⟩ (rdOk (w.drop 5)) := by
  intro t ht h
  subst h
  rcases t.words_head with ⟨rfl, _⟩ | ⟨nm, ty, e, rfl⟩ | ⟨e, rfl⟩ | ⟨a, b, rfl⟩
  · simp [SE.words] at h0
  · refine ⟨?_, rdOk_words ht.2⟩
    simp only [SE.words, List.drop_succ_cons, List.drop_zero, rdX_words ht.2]
    rfl
  · exact absurd (Option.some.inj h0) (by decide)
  · exact absurd (Option.some.inj h0) (by decide)
theorem RdL.say {w : List Bytes} (h0 : w[0]? = some cSay) : RdL w ⟨2, [], [], rdX (w.drop 1), Ex.none⟩ (rdOk (w.drop 1)) := by
  intro t ht h
  subst h
  rcases t.words_head with ⟨rfl, _⟩ | ⟨nm, ty, e, rfl⟩ | ⟨e, rfl⟩ | ⟨a, b, rfl⟩
  · simp [SE.words] at h0
  · exact absurd (Option.some.inj h0) (by decide)
  · refine ⟨?_, rdOk_words ht⟩
    simp only [SE.words, List.drop_succ_cons, List.drop_zero, rdX_words (show e.Ok from ht)]
    rfl
  · exact absurd (Option.some.inj h0) (by decide)
theorem RdL.when {w : List Bytes} {k : Nat} (h0 : w[0]? = some cWhen) (hk : sayAt w = some k) : RdL w ⟨3, [], [], rdX ((w.take k).drop 1), rdX (w.drop (k + 1))⟩ (rdOk ((w.take k).drop 1) && rdOk (w.drop (k + 1))) := by
  intro t ht h
  subst h
  rcases t.words_head with ⟨rfl, _⟩ | ⟨nm, ty, e, rfl⟩ | ⟨e, rfl⟩ | ⟨a, b, rfl⟩
  · simp [SE.words] at h0
  · exact absurd (Option.some.inj h0) (by decide)
  · exact absurd (Option.some.inj h0) (by decide)
  · have h1 := sayAt_when (a.words 1) (b.words 1) (no_say a 1 ht.1.1)
    have hk' : sayAt (cWhen :: (a.words 1 ++ cSay :: b.words 1)) = some k := hk
    rw [h1] at hk'
    obtain rfl := Option.some.inj hk'
    have e1 : ((SE.when a b).words.take ((a.words 1).length + 1)).drop 1 = a.words 1 := by
      simp only [SE.words]
      rw [List.take_succ_cons, List.drop_succ_cons, List.drop_zero, List.take_left]
    have e2 : (SE.when a b).words.drop ((a.words 1).length + 1 + 1) = b.words 1 := by
      simp only [SE.words]
      rw [List.drop_succ_cons, List.drop_append, List.drop_of_length_le (by omega), Nat.add_sub_cancel_left]
      rfl
    rw [e1, e2, rdX_words ht.1, rdX_words ht.2, rdOk_words ht.1, rdOk_words ht.2]
    exact ⟨rfl, rfl⟩
/-- the word when alone tells nothing -/
theorem RdL.whenNo {w : List Bytes} (h0 : w[0]? = some cWhen) (hk : ∀ k, 0 < k → sayAt w ≠ some k) (s : Sm) (b : Bool) : RdL w s b := by
  intro t ht h
  subst h
  rcases t.words_head with ⟨rfl, _⟩ | ⟨nm, ty, e, rfl⟩ | ⟨e, rfl⟩ | ⟨a, b, rfl⟩
  · simp [SE.words] at h0
  · exact absurd (Option.some.inj h0) (by decide)
  · exact absurd (Option.some.inj h0) (by decide)
  · exact absurd (sayAt_when (a.words 1) (b.words 1) (no_say a 1 ht.1.1)) (hk _ (by omega))
theorem E.words_one (e : E) : 1 ≤ (e.words 1).length := E.words_pos e 1
/-- none of the three -/
theorem RdL.no {w : List Bytes} (hn : w ≠ []) (h1 : ¬ (5 < w.length ∧ w[0]? = some cLet ∧ w[2]? = some [58] ∧ w[4]? = some [61])) (h2 : w[0]? ≠ some cSay) (h3 : w[0]? = some cWhen → ∀ k, 0 < k → sayAt w ≠ some k) (s : Sm) (b : Bool) : RdL w s b := by
  intro t ht h
  subst h
  rcases t.words_head with ⟨rfl, h4⟩ | ⟨nm, ty, e, rfl⟩ | ⟨e, rfl⟩ | ⟨a, b, rfl⟩
  · exact absurd h4 hn
  · refine absurd ⟨?_, rfl, rfl, rfl⟩ h1
    have := e.words_one
    simp only [SE.words, List.length_cons]
    omega
  · exact absurd rfl h2
  · exact absurd (sayAt_when (a.words 1) (b.words 1) (no_say a 1 ht.1.1)) (h3 rfl _ (by omega))
/-- the same of the program's, which asks for less of a let -/
theorem RdL.no' {w : List Bytes} (hn : w ≠ []) (h1 : ¬ (5 < w.length ∧ w[0]? = some cLet)) (h2 : w[0]? ≠ some cSay) (h3 : w[0]? ≠ some cWhen) (s : Sm) (b : Bool) : RdL w s b :=
  RdL.no hn (fun h => h1 ⟨h.1, h.2.1⟩) h2 (fun h => absurd h h3) s b
/-! ### more behind a text -/
theorem no_let : ∀ (e : E) (t : Nat), e.ok → ∀ w ∈ e.words t, w ≠ cLet
  | .num n, _, h, w, hw => by
    simp only [E.words, List.mem_singleton] at hw
    subst hw
    exact decL_ne ⟨108, by decide, by decide⟩
  | .nam s, _, h, w, hw => by
    simp only [E.words, List.mem_singleton] at hw
    subst hw
    rintro rfl
    revert h
    simp only [E.ok]
    decide
  | .two o a b, t, h, w, hw => by
    have h1 := no_let a (max o.lv 2) h.1
    have h2 := no_let b (o.lv + 1) h.2
    have key : ∀ w ∈ a.words (max o.lv 2) ++ o.b :: b.words (o.lv + 1), w ≠ cLet := by
      intro w hw
      rw [List.mem_append, List.mem_cons] at hw
      rcases hw with hw | rfl | hw
      · exact h1 w hw
      · cases o <;> decide
      · exact h2 w hw
    simp only [E.words] at hw
    split at hw
    · rw [List.mem_append, List.mem_cons, List.mem_singleton] at hw
      rcases hw with (rfl | hw) | rfl
      · decide
      · exact key w hw
      · decide
    · exact key w hw
  | .cast ty a, _, h, w, hw => by
    have h1 := no_let a 4 h
    simp only [E.words, List.mem_append, List.mem_cons, List.not_mem_nil, or_false] at hw
    rcases hw with hw | rfl | rfl
    · exact h1 w hw
    · decide
    · cases ty <;> decide
theorem snoc_last {α : Type} {l m : List α} {x : α} (h : l = m ++ [x]) : l.getLast? = some x := by rw [h]; simp
theorem last_append {α : Type} {l m : List α} (h : m ≠ []) : (l ++ m).getLast? = m.getLast? := by
  rw [List.getLast?_append]
  cases hm : m.getLast? with
  | none => exact absurd (List.getLast?_eq_none_iff.1 hm) h
  | some x => rfl
theorem last_mem {α : Type} {l : List α} {x : α} (h : l.getLast? = some x) : x ∈ l := List.mem_of_getLast? h
theorem E.words_ne (e : E) : e.words 1 ≠ [] := by intro h; have := e.words_one; rw [h] at this; simp at this
theorem SE.last_let {s : SE} (h : s.form) (m : List Bytes) : s.words ≠ m ++ [cLet] := by
  intro hq
  have h1 := snoc_last hq
  cases s with
  | none => simp [SE.words] at h1
  | slet nm ty e =>
    have : (SE.slet nm ty e).words = [cLet, nm, [58], tyB ty, [61]] ++ e.words 1 := rfl
    rw [this, last_append e.words_ne] at h1
    exact no_let e 1 h.2.1 _ (last_mem h1) rfl
  | say e =>
    have : (SE.say e).words = [cSay] ++ e.words 1 := rfl
    rw [this, last_append e.words_ne] at h1
    exact no_let e 1 h.1 _ (last_mem h1) rfl
  | when a b =>
    have : (SE.when a b).words = (cWhen :: a.words 1 ++ [cSay]) ++ b.words 1 := by simp [SE.words]
    rw [this, last_append b.words_ne] at h1
    exact no_let b 1 h.2.1 _ (last_mem h1) rfl
theorem joinL_last : ∀ (l : List Bytes), (∀ w ∈ l, ∃ c r, w = r ++ [c] ∧ c ≠ 32) → ∀ m : Bytes, joinL l ≠ m ++ [32]
  | [], _, m, h => by simp [joinL] at h
  | [w], hw, m, h => by
    obtain ⟨c, r, rfl, hc⟩ := hw w (List.mem_cons_self ..)
    simp only [joinL] at h
    have := snoc_last h
    rw [List.getLast?_append] at this
    simp at this
    exact hc this
  | w :: v :: l, hw, m, h => by
    have h1 := snoc_last h
    rw [joinL] at h1
    have hne : joinL (v :: l) ≠ [] := by
      intro e0
      obtain ⟨c, r, rfl, hc⟩ := hw v (by simp)
      rw [joinL_cons] at e0
      have := congrArg List.length e0
      simp at this
    rw [show w ++ 32 :: joinL (v :: l) = (w ++ [32]) ++ joinL (v :: l) by simp, last_append hne] at h1
    obtain ⟨m', hm'⟩ : ∃ m', joinL (v :: l) = m' ++ [32] := by
      obtain ⟨ys, hys⟩ := List.getLast?_eq_some_iff.1 h1
      exact ⟨ys, hys⟩
    exact joinL_last (v :: l) (fun x hx => hw x (List.mem_cons_of_mem _ hx)) m' hm'
theorem kind_last {w : Bytes} (h : kindL w ≠ 0) : ∃ c r, w = r ++ [c] ∧ c ≠ 32 := by
  have hne : w ≠ [] := (wlen_word (r := []) h (.inl rfl)).2.1
  refine ⟨w.getLast hne, w.dropLast, (List.dropLast_concat_getLast hne).symm, ?_⟩
  intro e
  have hm : (32 : UInt8) ∈ w := by rw [← e]; exact List.getLast_mem hne
  unfold kindL at h
  by_cases h1 : wordB w = true
  · simp only [wordB, Bool.and_eq_true, List.all_eq_true] at h1
    have := h1.1.1 32 hm
    revert this; decide
  · rw [if_neg h1] at h
    by_cases h2 : numB w = true
    · simp only [numB, Bool.and_eq_true, List.all_eq_true] at h2
      have := h2.1.1.1.1 32 hm
      revert this; decide
    · rw [if_neg h2] at h
      by_cases h3 : markB w = true
      · obtain ⟨c, hc, rfl⟩ := markB_iff.1 h3
        simp only [List.mem_singleton] at hm
        subst hm
        revert hc; decide
      · rw [if_neg h3] at h
        exact h rfl
/-- a line with the word let behind it is none -/
theorem rdS_let {s : SE} (h : s.ok) (hw : s.words ≠ []) : rdSOk (s.text ++ 32 :: cLet) = false := by
  cases hr : rdS (s.text ++ 32 :: cLet) with
  | none => unfold rdSOk; rw [hr]; rfl
  | some t =>
    obtain ⟨h1, h2⟩ := rdS_iff.1 hr
    have h3 := tok_join t.words 0 (SE.words_kind' t h1.1)
    have h4 := tok_join (s.words ++ [cLet]) 0 (fun w hw => by
      rw [List.mem_append, List.mem_singleton] at hw
      rcases hw with hw | rfl
      · exact SE.words_kind' s h.1 w hw
      · decide)
    rw [joinL_snoc _ hw] at h4
    unfold SE.text at h2
    rw [h2, h4] at h3
    have h5 := congrArg (List.map Tk.s) (Option.some.inj h3)
    rw [toks_words, toks_words] at h5
    exact absurd h5.symm (SE.last_let h1.1 _)
/-- a line with spaces behind it is none -/
theorem rdS_space (m : Bytes) : rdSOk (m ++ [32]) = false := by
  cases hr : rdS (m ++ [32]) with
  | none => unfold rdSOk; rw [hr]; rfl
  | some t =>
    obtain ⟨h1, h2⟩ := rdS_iff.1 hr
    unfold SE.text at h2
    exact absurd h2 (joinL_last t.words (fun w hw => kind_last (SE.words_kind' t h1.1 w hw)) m)
end Go.Proofs.YtgakjhaepdigpaaGreatDoor
