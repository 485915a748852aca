
/- Plain Lean: a name in the place of another, what is used is used under the new name. No program in sight, no condition. -/
import Derived.Test.YtgfbjpmbaibnoaaGreatDoorPut
import Derived.Test.YtgfbjpmbaibnoaaGreatDoorNmS
import Derived.Test.YtgfbjpmbaibnoaaGreatDoorDwS
namespace Go.Proofs.YtgfbjpmbaibnoaaGreatDoor
set_option maxRecDepth 100000
set_option linter.unusedSimpArgs false
set_option linter.unusedVariables false
open Go.RowKit

def ren (s : Bytes) : Bytes := if s = [120] then [119] else s
abbrev putW (e : E) : E := E.put [120] (.nam [119]) e
theorem ren_inj {s t : Bytes} (hs : s ≠ [119]) (ht : t ≠ [119]) (h : ren s = ren t) : s = t := by
  unfold ren at h
  split at h <;> split at h
  · next h1 h2 => rw [h1, h2]
  · exact absurd h.symm ht
  · exact absurd h hs
  · exact h
/-- no name is w -/
def NamW : E → Prop
  | .num _ => True
  | .nam s => s ≠ [119]
  | .two _ a b => NamW a ∧ NamW b
  | .cast _ a => NamW a
theorem nam_noW : ∀ e : E, NoW e.ex → NamW e
  | .num _, _ => trivial
  | .nam s, h => by have := h.s; simpa [E.ex, Ex.s, NamW] using this
  | .two o a b, h => ⟨nam_noW a (h.kids _ (by simp [E.ex, Ex.kids])), nam_noW b (h.kids _ (by simp [E.ex, Ex.kids]))⟩
  | .cast t a, h => nam_noW a (h.kids _ (by simp [E.ex, Ex.kids]))
theorem addN_ren {l : List Bytes} {s : Bytes} (hl : ∀ x ∈ l, x ≠ [119]) (hs : s ≠ [119]) : addN (l.map ren) (ren s) = (addN l s).map ren ∧ ∀ x ∈ addN l s, x ≠ [119] := by
  unfold addN
  by_cases h : s ∈ l
  · rw [if_pos h, if_pos (List.mem_map.2 ⟨s, h, rfl⟩)]
    exact ⟨rfl, hl⟩
  · rw [if_neg h, if_neg]
    · refine ⟨by simp, fun x hx => ?_⟩
      rw [List.mem_append, List.mem_singleton] at hx
      rcases hx with hx | rfl
      · exact hl x hx
      · exact hs
    · intro hm
      obtain ⟨t, ht, he⟩ := List.mem_map.1 hm
      exact h (ren_inj (hl t ht) hs he ▸ ht)
theorem uses_ren : ∀ (e : E) (l : List Bytes), NamW e → (∀ x ∈ l, x ≠ [119]) → usesL (l.map ren) (putW e) = (usesL l e).map ren ∧ ∀ x ∈ usesL l e, x ≠ [119]
  | .num n, l, _, hl => ⟨rfl, hl⟩
  | .nam s, l, hs, hl => by
    have h := addN_ren hl hs
    refine ⟨?_, h.2⟩
    show usesL (l.map ren) (if s = [120] then E.nam [119] else E.nam s) = _
    have e1 : (if s = [120] then E.nam [119] else E.nam s) = E.nam (ren s) := by unfold ren; split <;> rfl
    rw [e1]
    exact h.1
  | .two o a b, l, h, hl => by
    obtain ⟨h1, h2⟩ := uses_ren a l h.1 hl
    obtain ⟨h3, h4⟩ := uses_ren b (usesL l a) h.2 h2
    refine ⟨?_, h4⟩
    show usesL (usesL (l.map ren) (putW a)) (putW b) = _
    rw [h1, h3]
    rfl
  | .cast t a, l, h, hl => uses_ren a l h hl
/-- so long are its words, one by one -/
theorem words_put : ∀ (e : E) (t : Nat), ((putW e).words t).map List.length = (e.words t).map List.length
  | .num n, _ => rfl
  | .nam s, _ => by
    show (E.words (if s = [120] then E.nam [119] else E.nam s) _).map _ = _
    split
    · next h => subst h; rfl
    · rfl
  | .two o a b, t => by
    have h1 := words_put a (max o.lv 2)
    have h2 := words_put b (o.lv + 1)
    show (E.words (.two o (putW a) (putW b)) t).map _ = _
    simp only [E.words]
    split <;> simp only [List.map_append, List.map_cons, h1, h2]
  | .cast ty a, t => by
    have h1 := words_put a 4
    show (E.words (.cast ty (putW a)) t).map _ = _
    simp only [E.words, List.map_append, h1]
theorem joinL_map : ∀ l m : List Bytes, l.map List.length = m.map List.length → (joinL l).length = (joinL m).length
  | [], [], _ => rfl
  | [], _ :: _, h => by simp at h
  | _ :: _, [], h => by simp at h
  | [a], [b], h => by simpa [joinL] using h
  | [a], b :: c :: l, h => by simp at h
  | a :: c :: l, [b], h => by simp at h
  | a :: c :: l, b :: d :: m, h => by
    rw [List.map_cons, List.map_cons] at h
    obtain ⟨h1, h2⟩ := List.cons.inj h
    have := joinL_map (c :: l) (d :: m) h2
    simp only [joinL, List.length_append, List.length_cons, this, h1]
theorem put_OkW {e : E} (h : e.Ok) : (putW e).Ok := E.put_Ok (x := [120]) (r := .nam [119]) (show nameB [119] = true by decide) rfl rfl h
/-- the line with w in the place of x -/
def putSE : SE → SE
  | .none => .none
  | .slet nm t e => .slet nm t (putW e)
  | .say e => .say (putW e)
  | .when a b => .when (putW a) (putW b)
theorem putSE_ok {t : SE} (h : t.ok) : (putSE t).ok := by
  refine ⟨?_, ?_⟩
  · cases t with
    | none => exact h.1
    | slet nm ty e => exact ⟨h.1.1, put_OkW h.1.2⟩
    | say e => exact put_OkW h.1
    | when a b => exact ⟨put_OkW h.1.1, put_OkW h.1.2⟩
  · have h2 := h.2
    have : (putSE t).text.length = t.text.length := by
      apply joinL_map
      cases t with
      | none => rfl
      | slet nm ty e => simp only [putSE, SE.words, List.map_cons, words_put]
      | say e => simp only [putSE, SE.words, List.map_cons, words_put]
      | when a b => simp only [putSE, SE.words, List.map_cons, List.map_append, words_put]
    omega
/-- a line's tree is that of what is reckoned -/
theorem sm_ex {s : Sm} (h : smOkB s = true) (h0 : s.kind ≠ 0) : ∃ e : E, s.ex = e.ex := by
  obtain ⟨t, rfl, _⟩ := smOkB_iff.1 h
  cases t with
  | none => exact absurd rfl h0
  | slet nm ty e => exact ⟨e, rfl⟩
  | say e => exact ⟨e, rfl⟩
  | when a b => exact ⟨a, rfl⟩
theorem sm_th {s : Sm} (h : smOkB s = true) (h0 : s.kind = 3) : ∃ e : E, s.th = e.ex := by
  obtain ⟨t, rfl, _⟩ := smOkB_iff.1 h
  cases t with
  | none => exact absurd h0 (by decide)
  | slet nm ty e => exact absurd (show (1 : Int) = 3 from h0) (by decide)
  | say e => exact absurd (show (2 : Int) = 3 from h0) (by decide)
  | when a b => exact ⟨b, rfl⟩
theorem smNm_se {t : SE} (h : t.ok) : smNm t.sm = usX (usX [] t.sm.ex) t.sm.th := by unfold smNm; rw [if_pos (smOkB_yes h)]
theorem sm_ren {s : Sm} (h : smOkB s = true) (h1 : NoW s.ex) (h2 : NoW s.th) {e : E} (he : s.ex = e.ex) :
    (s.kind ≠ 3 → smNm ⟨s.kind, s.name, s.typ, (putW e).ex, s.th⟩ = (smNm s).map ren) ∧ (∀ f : E, s.kind = 3 → s.th = f.ex → smNm ⟨s.kind, s.name, s.typ, (putW e).ex, (putW f).ex⟩ = (smNm s).map ren) := by
  obtain ⟨t, rfl, ht⟩ := smOkB_iff.1 h
  have hp := putSE_ok ht
  cases t with
  | none => exact absurd he (none_ne e)
  | slet nm ty g =>
    obtain rfl : g = e := E.ex_inj he
    refine ⟨fun _ => ?_, fun f h3 => absurd (show (1 : Int) = 3 from h3) (by decide)⟩
    rw [smNm_se ht]
    refine (smNm_se hp).trans ?_
    simp only [putSE, SE.sm, usX_ex, usX_none]
    exact (uses_ren g [] (nam_noW g h1) (by simp)).1
  | say g =>
    obtain rfl : g = e := E.ex_inj he
    refine ⟨fun _ => ?_, fun f h3 => absurd (show (2 : Int) = 3 from h3) (by decide)⟩
    rw [smNm_se ht]
    refine (smNm_se hp).trans ?_
    simp only [putSE, SE.sm, usX_ex, usX_none]
    exact (uses_ren g [] (nam_noW g h1) (by simp)).1
  | when a b =>
    obtain rfl : a = e := E.ex_inj he
    refine ⟨fun h3 => absurd rfl h3, fun f _ hf => ?_⟩
    obtain rfl : b = f := E.ex_inj hf
    rw [smNm_se ht]
    refine (smNm_se hp).trans ?_
    simp only [putSE, SE.sm, usX_ex]
    obtain ⟨q1, q2⟩ := uses_ren a [] (nam_noW a h1) (by simp)
    have q3 := uses_ren b _ (nam_noW b h2) q2
    rw [← q3.1, ← q1]
    rfl
/-- a line that sets a name to a number uses no name -/
theorem smNm_one (k : Int) (nm ty : Bytes) (n : Nat) : smNm ⟨k, nm, ty, (E.num n).ex, Ex.none⟩ = [] := by
  unfold smNm
  split
  · rw [usX_ex, usX_none]; rfl
  · rfl
theorem uses_short : ∀ (e : E) (l : List Bytes), e.ok → (∀ x ∈ l, x.length ≤ 8) → ∀ x ∈ usesL l e, x.length ≤ 8
  | .num n, l, _, hl => hl
  | .nam s, l, hs, hl => by
    intro x hx
    have hx : x ∈ addN l s := hx
    unfold addN at hx
    split at hx
    · exact hl x hx
    · rw [List.mem_append, List.mem_singleton] at hx
      rcases hx with hx | rfl
      · exact hl x hx
      · exact (nameB_short hs).2
  | .two o a b, l, h, hl => uses_short b _ h.2 (uses_short a l h.1 hl)
  | .cast t a, l, h, hl => uses_short a l h hl
theorem smNm_short (s : Sm) : ∀ x ∈ smNm s, x.length ≤ 8 := by
  unfold smNm
  split
  · next h =>
    obtain ⟨t, rfl, ht⟩ := smOkB_iff.1 h
    cases t with
    | none => simp [SE.sm, usX_none]
    | slet nm ty e => simp only [SE.sm, usX_ex, usX_none]; exact uses_short e [] ht.1.2.1 (by simp)
    | say e => simp only [SE.sm, usX_ex, usX_none]; exact uses_short e [] ht.1.1 (by simp)
    | when a b => simp only [SE.sm, usX_ex]; exact uses_short b _ ht.1.2.1 (uses_short a [] ht.1.1.1 (by simp))
  · simp
theorem smNm_text (s : Sm) : (joinL (smNm s)).length ≤ 1000 := by
  have h := joinL_le 8 (smNm s) (smNm_short s)
  have := smNm_len s
  omega
end Go.Proofs.YtgfbjpmbaibnoaaGreatDoor
