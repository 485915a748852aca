/- What the laws of programs say, in plain Lean. No program in sight, no condition. -/
import Derived.Test.YtgakjhaepdigpaaGreatDoorPlanT
import Derived.Test.YtgakjhaepdigpaaGreatDoorDwS
import Derived.Test.YtgakjhaepdigpaaGreatDoorZm18
import Derived.Deep.CutBlock
namespace Go.Proofs.YtgakjhaepdigpaaGreatDoor
set_option maxRecDepth 100000
set_option linter.unusedSimpArgs false
set_option linter.unusedVariables false

/-! ### lines that are bent -/
theorem formSB_let (s : Sm) : formSB { s with name := cLet } = false := by
  have h1 : nameB cLet = false := by decide
  have h2 : (cLet == ([] : Bytes)) = false := by decide
  unfold formSB
  simp only [h1, h2, Bool.false_and, ite_self]
theorem formSB_text {s : Sm} {t : Bytes} (h1 : typeB t = false) (h2 : (t == ([] : Bytes)) = false) : formSB { s with typ := t } = false := by
  unfold formSB
  simp only [h1, h2, Bool.false_and, Bool.and_false, ite_self]
theorem formSB_kind {s : Sm} {k : Int} (h : 4 ≤ k) : formSB { s with kind := k } = false := by
  unfold formSB
  simp only
  rw [if_neg (by omega), if_neg (by omega), if_neg (by omega), if_neg (by omega)]
theorem formSB_then {s : Sm} {e : Ex} (h1 : noneB e = false) (h2 : exOkB e = false) : formSB { s with th := e } = false := by
  unfold formSB
  simp only [h1, h2, Bool.and_false, ite_self]
theorem smOkB_of_form {s : Sm} (h : formSB s = false) : smOkB s = false := by rw [smOkB_form, h]; rfl
theorem noneB_no {e : Ex} (h : e ≠ Ex.none) : noneB e = false := by unfold noneB; simpa using h
theorem exOkB_neg : exOkB (.mk 1 (-1) [] []) = false := by
  rw [Bool.eq_false_iff]
  intro h
  obtain ⟨e, he, _⟩ := E.ok_iff.1 h
  cases e <;> simp [E.ex] at he
theorem exOkB_none : exOkB Ex.none = false := by
  rw [Bool.eq_false_iff]
  intro h
  obtain ⟨e, he, _⟩ := E.ok_iff.1 h
  exact E.ex_ne e he.symm
theorem sm_then_neg (s : Sm) : smOkB { s with th := .mk 1 (-1) [] [] } = false := smOkB_of_form (formSB_then (noneB_no (by simp [Ex.none])) exOkB_neg)
def sayNone : Sm := ⟨2, [], [], Ex.none, Ex.none⟩
theorem sayNone_bad : smOkB sayNone = false := smOkB_of_form (by unfold formSB; simp [sayNone, exOkB_none])
def noSm : Sm := ⟨0, [], [], Ex.none, Ex.none⟩
theorem noSm_se : noSm = SE.none.sm := rfl
theorem noSm_ok : smOkB noSm = true := smOkB_yes (s := .none) ⟨trivial, by simp [SE.text, SE.words, joinL]⟩
theorem progOkB_bad {a b : List Sm} {s : Sm} (h : smOkB s = false) : progOkB (a ++ s :: b) = false := by
  rw [Bool.eq_false_iff]
  intro e
  have := (progOkB_iff.1 e).1 s (by simp)
  rw [h] at this
  cases this
theorem progOkB_many {l : List Sm} (h : 16 < l.length) : progOkB l = false := by
  rw [Bool.eq_false_iff]
  intro e
  have := (progOkB_iff.1 e).2
  omega
theorem progOkB_nil : progOkB [] = false := by
  rw [Bool.eq_false_iff]
  intro e
  have := (progOkB_iff.1 e).2
  simp at this
theorem progOkB_cons_no {l : List Sm} (h : progOkB l = true) : progOkB (noSm :: l) = decide (l.length < 16) := by
  obtain ⟨h1, h2, h3⟩ := progOkB_iff.1 h
  by_cases hl : l.length < 16
  · rw [decide_eq_true hl]
    refine progOkB_iff.2 ⟨fun s hs => ?_, by simp, by rw [List.length_cons]; omega⟩
    rcases List.mem_cons.1 hs with rfl | hs
    · exact noSm_ok
    · exact h1 s hs
  · rw [decide_eq_false hl]
    exact progOkB_many (by rw [List.length_cons]; omega)
theorem noSm_vals (names : List Bytes) (nums : List Int) : smVals noSm names nums = some (0, 0) := by rw [noSm_se, smVals_se (show SE.none.form from trivial)]; rfl
theorem noSm_fits (names types : List Bytes) : smFits noSm names types = true := by rw [noSm_se, smFits_se (show SE.none.form from trivial)]; rfl
theorem prRun_cons_no {l : List Sm} (h : progOkB l = true) (hl : l.length < 16) : prRun (noSm :: l) = prRun l := by
  have h2 := progOkB_cons_no h
  rw [decide_eq_true hl] at h2
  rw [prRun_ok h2, prRun_ok h, prR_cons (noSm_vals [] [])]
  rfl
theorem prTyp_cons_no {l : List Sm} (h : progOkB l = true) (hl : l.length < 16) : (prTyp l = -1 ∧ prTyp (noSm :: l) = -1) ∨ (0 ≤ prTyp l ∧ prTyp (noSm :: l) = prTyp l + 1) := by
  have h2 := progOkB_cons_no h
  rw [decide_eq_true hl] at h2
  rw [prTyp_ok h2, prTyp_ok h, prT_cons_yes (noSm_fits [] [])]
  exact prT_shift l 0 [] []

/-! ### lines behind -/
theorem progOkB_snoc {l : List Sm} {t : SE} (h : progOkB l = true) (ht : t.ok) (hl : l.length < 16) : progOkB (l ++ [t.sm]) = true :=
  progOkB_app h (fun s hs => by simp at hs; subst hs; exact smOkB_yes ht) (by simp only [List.length_singleton]; omega)
theorem prRun_when {l : List Sm} {a b : Nat} (h : progOkB l = true) (hr : (prRun l).2 = true) (hl : l.length < 16) (ha : a < 10) (hb : b < 10) : prRun (l ++ [(sWhen a b).sm]) = ((prRun l).1 ++ (if a = 0 then [] else [(b : Int)]), true) := by
  have hok := sWhen_ok ha hb
  rw [prRun_ok h] at hr
  rw [prRun_ok (progOkB_snoc h hok hl), prRun_ok h]
  obtain ⟨m2, _, h2⟩ := prR_app_ok l [] [] rfl hr
  rw [h2]
  have hv : smVals (sWhen a b).sm ([] ++ l.flatMap letN) m2 = some ((a : Int), (b : Int)) := by rw [smVals_se hok.1]; rfl
  rw [prR_cons hv]
  by_cases h0 : a = 0
  · subst h0
    rw [if_pos rfl]
    simp [prR, saidL, sWhen, SE.sm]
  · rw [if_neg h0]
    simp [prR, saidL, sWhen, SE.sm, h0]
def sNew : SE := .slet cNew true (.num 7)
def sSay : SE := .say (.nam cNew)
theorem sNew_ok : sNew.ok := ⟨⟨by decide, num_Ok (by omega)⟩, by
  simp [sNew, SE.text, SE.words, E.words, joinL, decL_lt, cLet, cNew, tyB, cInt]⟩
theorem sSay_ok : sSay.ok := ⟨⟨(show nameB cNew = true by decide), by simp [E.ht], by simp [E.cnt]⟩, by
  simp [sSay, SE.text, SE.words, E.words, joinL, cSay, cNew]⟩
theorem len_lets : ∀ l : List Sm, (l.flatMap letN).length = (l.flatMap letT).length
  | [] => rfl
  | s :: l => by rw [List.flatMap_cons, List.flatMap_cons, List.length_append, List.length_append, len_lets l, letT_len]
theorem new_out {l : List Sm} (h : ∀ s ∈ l, s.name ≠ cNew) : cNew ∉ l.flatMap letN := by
  intro hm
  obtain ⟨s, hs, hx⟩ := List.mem_flatMap.1 hm
  unfold letN at hx
  split at hx
  · simp at hx
    exact h s hs hx.symm
  · simp at hx
theorem clamp7 : clampI 7 = 7 := by unfold clampI; omega
theorem prog_let2 {l : List Sm} (h : progOkB l = true) (hl : l.length ≤ 14) : progOkB (l ++ [sNew.sm, sSay.sm]) = true :=
  progOkB_app h (fun s hs => by
    simp at hs
    rcases hs with rfl | rfl
    · exact smOkB_yes sNew_ok
    · exact smOkB_yes sSay_ok) (by simp only [List.length_cons, List.length_nil]; omega)
theorem prRun_let2 {l : List Sm} (h : progOkB l = true) (hr : (prRun l).2 = true) (hl : l.length ≤ 14) : prRun (l ++ [sNew.sm, sSay.sm]) = ((prRun l).1 ++ [7], true) := by
  rw [prRun_ok h] at hr
  rw [prRun_ok (prog_let2 h hl), prRun_ok h]
  obtain ⟨m2, hm, h2⟩ := prR_app_ok l [] [] rfl hr
  rw [h2]
  have hv : smVals sNew.sm ([] ++ l.flatMap letN) m2 = some (7, 0) := by rw [smVals_se sNew_ok.1]; rfl
  rw [prR_cons hv]
  have e1 : letN sNew.sm = [cNew] := rfl
  have e2 : letV sNew.sm (7, 0) = [7] := rfl
  have e3 : saidL sNew.sm (7, 0) = [] := rfl
  rw [e1, e2, e3]
  have hv2 : smVals sSay.sm ([] ++ l.flatMap letN ++ [cNew]) (m2 ++ [7]) = some (7, 0) := by
    rw [smVals_se sSay_ok.1]
    show ((E.nam cNew).va _ _).map _ = _
    rw [E.va_nam, lkV_snoc hm, if_pos rfl]
    simp [clamp7]
  rw [prR_cons hv2]
  simp [prR, saidL, sSay, SE.sm]
theorem prRun_let1 {l : List Sm} (h : progOkB l = true) (hr : (prRun l).2 = true) (hl : l.length ≤ 14) (hn : ∀ s ∈ l, s.name ≠ cNew) : prRun (l ++ [sSay.sm]) = ((prRun l).1, false) := by
  rw [prRun_ok h] at hr
  rw [prRun_ok (progOkB_snoc h sSay_ok (by omega)), prRun_ok h]
  obtain ⟨m2, hm, h2⟩ := prR_app_ok l [] [] rfl hr
  rw [h2]
  have hv2 : smVals sSay.sm ([] ++ l.flatMap letN) m2 = none := by
    rw [smVals_se sSay_ok.1]
    show ((E.nam cNew).va _ _).map _ = _
    rw [E.va_nam, List.nil_append]
    unfold lkV
    rw [lastF_out (new_out hn)]
    rfl
  rw [prR_cons_no hv2, List.append_nil]
theorem prTyp_let2 {l : List Sm} (h : progOkB l = true) (ht : prTyp l = -1) (hl : l.length ≤ 14) : prTyp (l ++ [sNew.sm, sSay.sm]) = -1 := by
  rw [prTyp_ok h] at ht
  rw [prTyp_ok (prog_let2 h hl), prT_app_yes _ _ _ _ _ ht]
  rw [prT_cons_yes (by rw [smFits_se sNew_ok.1]; rfl)]
  have e1 : letN sNew.sm = [cNew] := rfl
  have e2 : letT sNew.sm = [cInt] := rfl
  rw [e1, e2, prT_cons_yes]
  · rfl
  · rw [smFits_se sSay_ok.1]
    show (!(((E.nam cNew).ty _ _) == [])) = true
    rw [E.ty_nam, lkT_snoc (by simpa using len_lets l), if_pos rfl]
    rfl
theorem prTyp_let1 {l : List Sm} (h : progOkB l = true) (ht : prTyp l = -1) (hl : l.length ≤ 14) (hn : ∀ s ∈ l, s.name ≠ cNew) : prTyp (l ++ [sSay.sm]) = l.length := by
  rw [prTyp_ok h] at ht
  rw [prTyp_ok (progOkB_snoc h sSay_ok (by omega)), prT_app_yes _ _ _ _ _ ht, prT_cons_no]
  · simp
  · rw [smFits_se sSay_ok.1]
    show (!(((E.nam cNew).ty _ _) == [])) = false
    rw [E.ty_nam, List.nil_append]
    unfold lkT
    rw [lastF_out (new_out hn)]
    rfl

/-! ### casts -/
def castS (s : Sm) : Sm := if s.kind = 2 then { s with ex := .mk 4 0 cBool [s.ex] } else s
theorem castS_kind (s : Sm) : (castS s).kind = s.kind := by unfold castS; split <;> rfl
theorem castS_name (s : Sm) : (castS s).name = s.name := by unfold castS; split <;> rfl
theorem castS_typ (s : Sm) : (castS s).typ = s.typ := by unfold castS; split <;> rfl
theorem castS_letN (s : Sm) : letN (castS s) = letN s := by unfold letN; rw [castS_kind, castS_name]
theorem castS_letT (s : Sm) : letT (castS s) = letT s := by unfold letT; rw [castS_kind, castS_typ]
theorem castS_letV (s : Sm) (p : Int × Int) : letV (castS s) p = letV s p := by unfold letV; rw [castS_kind]
theorem castS_saidL (s : Sm) (p : Int × Int) : saidL (castS s) p = saidL s p := by unfold saidL; rw [castS_kind]
theorem castS_both {s : Sm} (h1 : formSB s = true) (h2 : formSB (castS s) = true) : (∀ names nums, smVals (castS s) names nums = smVals s names nums) ∧ ∀ names types, smFits (castS s) names types = smFits s names types := by
  by_cases hk : s.kind = 2
  · obtain ⟨t, rfl, hf⟩ := formSB_iff.1 h1
    obtain ⟨u, hu, hfu⟩ := formSB_iff.1 h2
    cases t with
    | none => simp [SE.sm] at hk
    | slet nm t e => simp [SE.sm] at hk
    | when a b => simp [SE.sm] at hk
    | say e =>
      have e1 : castS (SE.say e).sm = (SE.say (.cast false e)).sm := by simp [castS, SE.sm, E.ex, tyB]
      rw [e1] at hu
      obtain rfl := SE.sm_inj hu
      rw [e1]
      refine ⟨fun names nums => by rw [smVals_se hf, smVals_se hfu]; rfl, fun names types => ?_⟩
      rw [smFits_se hf, smFits_se hfu]
      simp only [fitsE, E.ty]
      by_cases h0 : e.ty names types = []
      · rw [if_pos h0, h0]
      · rw [if_neg h0]
        have e3 : (e.ty names types == []) = false := by simpa using h0
        rw [e3]
        rfl
  · have e1 : castS s = s := if_neg hk
    rw [e1]
    exact ⟨fun _ _ => rfl, fun _ _ => rfl⟩
theorem prR_cast : ∀ (l : List Sm) (names : List Bytes) (nums : List Int), (∀ s ∈ l, formSB s = true) → (∀ s ∈ l, formSB (castS s) = true) → prR (l.map castS) names nums = prR l names nums
  | [], _, _, _, _ => rfl
  | s :: r, names, nums, h1, h2 => by
    rw [List.map_cons]
    have e := (castS_both (h1 s (by simp)) (h2 s (by simp))).1 names nums
    cases hv : smVals s names nums with
    | none => rw [hv] at e; rw [prR_cons_no hv, prR_cons_no e]
    | some p =>
      rw [hv] at e
      rw [prR_cons hv, prR_cons e, castS_letN, castS_letV, castS_saidL, prR_cast r _ _ (fun s hs => h1 s (by simp [hs])) (fun s hs => h2 s (by simp [hs]))]
theorem prT_cast : ∀ (l : List Sm) (j : Nat) (names types : List Bytes), (∀ s ∈ l, formSB s = true) → (∀ s ∈ l, formSB (castS s) = true) → prT (l.map castS) j names types = prT l j names types
  | [], _, _, _, _, _ => rfl
  | s :: r, j, names, types, h1, h2 => by
    rw [List.map_cons]
    have e := (castS_both (h1 s (by simp)) (h2 s (by simp))).2 names types
    cases hv : smFits s names types with
    | false => rw [hv] at e; rw [prT_cons_no hv, prT_cons_no e]
    | true =>
      rw [hv] at e
      rw [prT_cons_yes hv, prT_cons_yes e, castS_letN, castS_letT, prT_cast r _ _ _ (fun s hs => h1 s (by simp [hs])) (fun s hs => h2 s (by simp [hs]))]
theorem cast_form {l : List Sm} (h : progOkB (l.map castS) = true) : ∀ s ∈ l, formSB (castS s) = true := fun s hs => prog_form h _ (List.mem_map_of_mem hs)
theorem prRun_cast {l : List Sm} (h : progOkB l = true) (h2 : progOkB (l.map castS) = true) : prRun (l.map castS) = prRun l := by
  rw [prRun_ok h, prRun_ok h2, prR_cast l [] [] (prog_form h) (cast_form h2)]
theorem prTyp_cast {l : List Sm} (h : progOkB l = true) (h2 : progOkB (l.map castS) = true) : prTyp (l.map castS) = prTyp l := by
  rw [prTyp_ok h, prTyp_ok h2, prT_cast l 0 [] [] (prog_form h) (cast_form h2)]

/-! ### a line twice -/
theorem take_drop_get {α : Type} {l : List α} {k : Nat} {s : α} (h : l[k]? = some s) : l = l.take k ++ s :: l.drop (k + 1) := by
  have hk := (List.getElem?_eq_some_iff.1 h).1
  have he : l[k] = s := by rw [List.getElem?_eq_getElem hk] at h; exact Option.some.inj h
  rw [← he, ← List.drop_eq_getElem_cons hk, List.take_append_drop]
theorem take_succ_get {α : Type} {l : List α} {k : Nat} {s : α} (h : l[k]? = some s) : l.take (k + 1) = l.take k ++ [s] := by
  rw [List.take_add_one, h]; rfl
def dup (l : List Sm) (k : Nat) (s : Sm) : List Sm := (l.take (k + 1) ++ [s]) ++ l.drop (k + 1)
theorem dup_eq {l : List Sm} {k : Nat} {s : Sm} (h : l[k]? = some s) : dup l k s = l.take k ++ s :: s :: l.drop (k + 1) := by
  unfold dup; rw [take_succ_get h]; simp
theorem dup_ok {l : List Sm} {k : Nat} {s : Sm} (h : progOkB l = true) (hk : l[k]? = some s) (hl : l.length < 16) : progOkB (dup l k s) = true := by
  obtain ⟨h1, h2, h3⟩ := progOkB_iff.1 h
  have hlen := congrArg List.length (take_drop_get hk)
  rw [List.length_append, List.length_cons] at hlen
  rw [dup_eq hk]
  refine progOkB_iff.2 ⟨fun x hx => ?_, by rw [List.length_append, List.length_cons, List.length_cons]; omega, by rw [List.length_append, List.length_cons, List.length_cons]; omega⟩
  simp only [List.mem_append, List.mem_cons] at hx
  rcases hx with hx | rfl | rfl | hx
  · exact h1 x (List.mem_of_mem_take hx)
  · exact h1 x (List.mem_of_getElem? hk)
  · exact h1 x (List.mem_of_getElem? hk)
  · exact h1 x (List.mem_of_mem_drop hx)
/-- a line that lets a number be a name -/
def LetNum (s : Sm) : Prop := formSB s = true ∧ s.kind = 1 ∧ s.ex.kind = 1
theorem LetNum.se {s : Sm} (h : LetNum s) : ∃ nm t n, s = (SE.slet nm t (.num n)).sm ∧ (SE.slet nm t (.num n)).form := by
  obtain ⟨h1, h2, h3⟩ := h
  obtain ⟨t, rfl, hf⟩ := formSB_iff.1 h1
  cases t with
  | none => simp [SE.sm] at h2
  | say e => simp [SE.sm] at h2
  | when a b => simp [SE.sm] at h2
  | slet nm t e =>
    cases e with
    | num n => exact ⟨nm, t, n, rfl, hf⟩
    | nam s => simp [SE.sm, E.ex, Ex.kind] at h3
    | two o a b => simp [SE.sm, E.ex, Ex.kind] at h3
    | cast t a => simp [SE.sm, E.ex, Ex.kind] at h3
theorem LetNum.vals {s : Sm} (h : LetNum s) : ∃ n : Int, (∀ names nums, smVals s names nums = some (n, 0)) ∧ letN s = [s.name] ∧ letV s (n, 0) = [n] ∧ saidL s (n, 0) = [] := by
  obtain ⟨nm, t, n, rfl, hf⟩ := h.se
  exact ⟨n, fun names nums => by rw [smVals_se hf]; rfl, rfl, rfl, rfl⟩
theorem LetNum.fits {s : Sm} (h : LetNum s) : (∀ names types names' types', smFits s names types = smFits s names' types') ∧ letT s = [s.typ] := by
  obtain ⟨nm, t, n, rfl, hf⟩ := h.se
  exact ⟨fun names types names' types' => by rw [smFits_se hf, smFits_se hf]; rfl, rfl⟩
theorem prRun_dup {l : List Sm} {k : Nat} {s : Sm} (h : progOkB l = true) (hk : l[k]? = some s) (hl : l.length < 16) (hs : LetNum s) : prRun (dup l k s) = prRun l := by
  rw [prRun_ok (dup_ok h hk hl), prRun_ok h, dup_eq hk]
  have hl2 := take_drop_get hk
  have hrest : ∀ x ∈ l.drop (k + 1), formSB x = true := fun x hx => prog_form h x (List.mem_of_mem_drop hx)
  generalize l.take k = a at *
  generalize l.drop (k + 1) = r at *
  subst hl2
  cases hb : (prR a [] []).2 with
  | false => rw [prR_app_no a _ [] [] hb, prR_app_no a _ [] [] hb]
  | true =>
    obtain ⟨m2, hm, h0⟩ := prR_app_ok a [] [] rfl hb
    obtain ⟨n, hv, e1, e2, e3⟩ := hs.vals
    have hlen2 : ([] ++ a.flatMap letN ++ [s.name]).length = (m2 ++ [n]).length := by have := hm; simp only [List.length_append, List.length_singleton] at this ⊢; omega
    rw [h0, h0, prR_cons (hv _ _), prR_cons (hv _ _), prR_cons (hv _ _), e1, e2, e3]
    rw [prR_congr r ([] ++ a.flatMap letN ++ [s.name] ++ [s.name]) ([] ++ a.flatMap letN ++ [s.name]) (m2 ++ [n] ++ [n]) (m2 ++ [n]) hrest (fun x => by
      rw [lkV_snoc hlen2, lkV_snoc hm]
      by_cases e : s.name = x
      · rw [if_pos e]; simp [e]
      · rw [if_neg e]) (by have := hlen2; simp only [List.length_append, List.length_singleton] at this ⊢; omega) hlen2]
    simp
theorem prTyp_dup {l : List Sm} {k : Nat} {s : Sm} (h : progOkB l = true) (hk : l[k]? = some s) (hl : l.length < 16) (hs : LetNum s) :
    (prTyp l = -1 ∧ prTyp (dup l k s) = -1) ∨ (0 ≤ prTyp l ∧ prTyp l ≤ k ∧ prTyp (dup l k s) = prTyp l) ∨ ((k : Int) < prTyp l ∧ prTyp (dup l k s) = prTyp l + 1) := by
  rw [prTyp_ok (dup_ok h hk hl), prTyp_ok h, dup_eq hk]
  have hl2 := take_drop_get hk
  have hrest : ∀ x ∈ l.drop (k + 1), formSB x = true := fun x hx => prog_form h x (List.mem_of_mem_drop hx)
  have hka : (l.take k).length = k := by rw [List.length_take]; have := (List.getElem?_eq_some_iff.1 hk).1; omega
  generalize l.take k = a at *
  generalize l.drop (k + 1) = r at *
  subst hl2
  by_cases hb : prT a 0 [] [] = -1
  · rw [prT_app_yes a _ 0 [] [] hb, prT_app_yes a _ 0 [] [] hb, hka, Nat.zero_add]
    have hlen : ([] ++ a.flatMap letN).length = ([] ++ a.flatMap letT).length := by simpa using len_lets a
    generalize [] ++ a.flatMap letN = N at *
    generalize [] ++ a.flatMap letT = T at *
    obtain ⟨hf, e2⟩ := hs.fits
    obtain ⟨n, hv, e1, _, _⟩ := hs.vals
    cases hy : smFits s N T with
    | false =>
      rw [prT_cons_no hy, prT_cons_no hy]
      right; left; omega
    | true =>
      have hlen2 : (N ++ [s.name]).length = (T ++ [s.typ]).length := by rw [List.length_append, List.length_append, hlen]; rfl
      rw [prT_cons_yes hy, prT_cons_yes hy, prT_cons_yes (by rw [hf _ _ N T]; exact hy), e1, e2]
      rw [prT_congr r (k + 1 + 1) (N ++ [s.name] ++ [s.name]) (N ++ [s.name]) (T ++ [s.typ] ++ [s.typ]) (T ++ [s.typ]) hrest (fun x => by
        rw [lkT_snoc hlen2, lkT_snoc hlen]
        by_cases e : s.name = x
        · rw [if_pos e]; simp [e]
        · rw [if_neg e]) (by have := hlen2; simp only [List.length_append, List.length_singleton] at this ⊢; omega) hlen2]
      have h1 := prT_shift r (k + 1) (N ++ [s.name]) (T ++ [s.typ])
      have h2 := prT_range r (k + 1) (N ++ [s.name]) (T ++ [s.typ])
      omega
  · rw [prT_app_no a _ 0 [] [] hb, prT_app_no a _ 0 [] [] hb]
    have h2 := prT_range a 0 [] []
    right; left
    omega
end Go.Proofs.YtgakjhaepdigpaaGreatDoor


/- What a program says: the reference's ProgRun. -/
namespace Go.Proofs.YtgakjhaepdigpaaGreatDoor
set_option maxRecDepth 100000
set_option linter.unusedSimpArgs false
set_option linter.unusedVariables false
open Go.RowKit
attribute [local go_sem] bs_toList bs_get bs_size

theorem DJ.symm {n t : Value} (h : DJ n t) : DJ t n := fun b hb e => h b e hb
theorem DJ.ne {n t : Value} (h : DJ n t) : t.ownBlock = none ∨ t.ownBlock ≠ n.ownBlock := by
  rcases hq : t.ownBlock with _ | q
  · exact .inl rfl
  · exact .inr (fun e => h q e.symm hq)
theorem ret2_bool {u : Value} {b c : Bool} (h : b = c) : Ending.returned (.tuple #[u, .bool b]) = .returned (.tuple #[u, .bool c]) := by rw [h]
theorem GtN.cells1 (x : Int) (w : World) : ∀ (j : Nat) (u : Value), ([x].flatMap intRow)[j]? = some u → (w.alloc (.cells #[.int .i64 x] 3)).cell? ((⟨w.heap.size, 0, none⟩ : Addr).add j) = some u :=
  World.news_of_block (heap_alloc_new w _)
end Go.Proofs.YtgakjhaepdigpaaGreatDoor


/- The type of a program: the program's. -/
namespace Go.Proofs.YtgakjhaepdigpaaGreatDoor
set_option maxRecDepth 100000
set_option linter.unusedSimpArgs false
set_option linter.unusedVariables false
open Go.RowKit
attribute [local go_sem] bs_toList bs_get bs_size

/-- what the types of a line's two parts say of whether it fits -/
noncomputable def fitB (s : Sm) (r1 r2 : Bytes) : Bool := if s.kind = 0 then true else if s.kind = 1 then r1 == s.typ else if s.kind = 2 then !(r1 == []) else (r1 == cBool && !(r2 == []))
theorem own_ne {n t : Value} (h : DJ n t) : t.ownBlock = none ∨ t.ownBlock ≠ n.ownBlock := by
  rcases hq : t.ownBlock with _ | q
  · exact .inl rfl
  · exact .inr (fun e => h q e.symm hq)
theorem own_lt {α : Type} {row : α → List Value} {k B : Nat} {ty : TypeId} {w : World} {u : Value} {m : List α} (h : Gt row k ty B w u m) {b : Nat} (hb : w.heap.size ≤ b) : some b ≠ u.ownBlock := fun e => by
  have := (h.lt e.symm).2
  omega
theorem sm_parts {w : World} {B : Nat} {s : Sm} {A1 A2 : Option Addr} {c1 c2 : Nat} (h : SmV w B (.agg #[.int .i64 s.kind, .string (bs s.name), .string (bs s.typ), .int .i64 s.ex.kind, .int .i64 s.ex.n, .string (bs s.ex.s), .slice A1 s.ex.kids.length c1, .int .i64 s.th.kind, .int .i64 s.th.n, .string (bs s.th.s), .slice A2 s.th.kids.length c2]) s) :
    ExV w B (.agg #[.int .i64 s.ex.kind, .int .i64 s.ex.n, .string (bs s.ex.s), .slice A1 s.ex.kids.length c1]) s.ex ∧ ExV w B (.agg #[.int .i64 s.th.kind, .int .i64 s.th.n, .string (bs s.th.s), .slice A2 s.th.kids.length c2]) s.th := by
  obtain ⟨B1, B2, d1, d2, he, _, _, h1, h2⟩ := h.form2
  simp only [Value.agg.injEq, Array.mk.injEq, List.cons.injEq, Value.slice.injEq, true_and, and_true] at he
  obtain ⟨⟨rfl, rfl⟩, rfl, rfl⟩ := he
  exact ⟨h1, h2⟩
end Go.Proofs.YtgakjhaepdigpaaGreatDoor
