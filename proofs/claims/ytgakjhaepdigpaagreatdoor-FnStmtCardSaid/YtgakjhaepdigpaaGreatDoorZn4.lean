/- Laws of types and of what is looked up, in plain Lean. No program in sight, no condition. -/
import Derived.Test.YtgakjhaepdigpaaGreatDoorZm18
import Derived.Test.YtgakjhaepdigpaaGreatDoorDwS
import Derived.Deep.CutBlock
namespace Go.Proofs.YtgakjhaepdigpaaGreatDoor
set_option maxRecDepth 100000
set_option linter.unusedSimpArgs false
set_option linter.unusedVariables false

/-! ### types -/
theorem prT_cons_yes {s : Sm} {r : List Sm} {j : Nat} {names types : List Bytes} (h : smFits s names types = true) : prT (s :: r) j names types = prT r (j + 1) (names ++ letN s) (types ++ letT s) := by rw [prT, h]; rfl
theorem prT_cons_no {s : Sm} {r : List Sm} {j : Nat} {names types : List Bytes} (h : smFits s names types = false) : prT (s :: r) j names types = j := by rw [prT, h]; rfl
theorem letT_len (s : Sm) : (letT s).length = (letN s).length := by unfold letT letN; split <;> rfl
theorem prT_range : ∀ (l : List Sm) (j : Nat) (names types : List Bytes), prT l j names types = -1 ∨ ((j : Int) ≤ prT l j names types ∧ prT l j names types < j + l.length)
  | [], j, names, types => .inl rfl
  | s :: r, j, names, types => by
    cases h : smFits s names types with
    | false => rw [prT_cons_no h, List.length_cons]; right; omega
    | true =>
      rw [prT_cons_yes h, List.length_cons]
      rcases prT_range r (j + 1) (names ++ letN s) (types ++ letT s) with h1 | h1
      · exact .inl h1
      · right; omega
theorem prT_app_yes : ∀ (a b : List Sm) (j : Nat) (names types : List Bytes), prT a j names types = -1 → prT (a ++ b) j names types = prT b (j + a.length) (names ++ a.flatMap letN) (types ++ a.flatMap letT)
  | [], b, j, names, types, h => by simp
  | s :: a, b, j, names, types, h => by
    rw [List.cons_append]
    cases hf : smFits s names types with
    | false => rw [prT_cons_no hf] at h; omega
    | true =>
      rw [prT_cons_yes hf] at h ⊢
      rw [prT_app_yes a b _ _ _ h, List.length_cons, List.flatMap_cons, List.flatMap_cons, ← List.append_assoc, ← List.append_assoc, show j + 1 + a.length = j + (a.length + 1) by omega]
theorem prT_app_no : ∀ (a b : List Sm) (j : Nat) (names types : List Bytes), prT a j names types ≠ -1 → prT (a ++ b) j names types = prT a j names types
  | [], b, j, names, types, h => absurd rfl h
  | s :: a, b, j, names, types, h => by
    rw [List.cons_append]
    cases hf : smFits s names types with
    | false => rw [prT_cons_no hf, prT_cons_no hf]
    | true =>
      rw [prT_cons_yes hf] at h ⊢
      rw [prT_cons_yes hf, prT_app_no a b _ _ _ h]
/-- counted from the next line on -/
theorem prT_shift : ∀ (l : List Sm) (j : Nat) (names types : List Bytes), (prT l j names types = -1 ∧ prT l (j + 1) names types = -1) ∨ (0 ≤ prT l j names types ∧ prT l (j + 1) names types = prT l j names types + 1)
  | [], j, names, types => .inl ⟨rfl, rfl⟩
  | s :: r, j, names, types => by
    cases h : smFits s names types with
    | false => rw [prT_cons_no h, prT_cons_no h]; right; omega
    | true => rw [prT_cons_yes h, prT_cons_yes h]; exact prT_shift r (j + 1) _ _
/-- what is ahead of the first line that is not right is right -/
theorem prT_take (l : List Sm) (j : Nat) (names types : List Bytes) (k : Nat) (h : prT l j names types = -1 ∨ (j + k : Int) ≤ prT l j names types) : prT (l.take k) j names types = -1 := by
  rcases prT_range (l.take k) j names types with h1 | h1
  · exact h1
  · exfalso
    have h2 := prT_app_no (l.take k) (l.drop k) j names types (by omega)
    rw [List.take_append_drop] at h2
    have h3 : (l.take k).length ≤ k := by rw [List.length_take]; omega
    omega

/-! ### names -/
def lkV (names : List Bytes) (nums : List Int) (s : Bytes) : Option Int := match lastF s names 0 with | some i => some ((nums[i]?).getD 0) | none => none
def lkT (names types : List Bytes) (s : Bytes) : Option Bytes := match lastF s names 0 with | some i => some ((types[i]?).getD []) | none => none
theorem lastF_snoc (s x : Bytes) : ∀ (l : List Bytes) (i : Nat), lastF s (l ++ [x]) i = if x = s then some (i + l.length) else lastF s l i
  | [], i => by
    by_cases e : x = s
    · simp [lastF, e]
    · simp [lastF, e]
  | y :: l, i => by
    rw [List.cons_append, lastF, lastF_snoc s x l (i + 1)]
    by_cases e : x = s
    · rw [if_pos e, if_pos e, List.length_cons]
      simp only [Option.some.injEq]
      omega
    · rw [if_neg e, if_neg e, lastF]
theorem lkV_snoc {names : List Bytes} {nums : List Int} (h : names.length = nums.length) (x s : Bytes) (n : Int) : lkV (names ++ [x]) (nums ++ [n]) s = if x = s then some n else lkV names nums s := by
  unfold lkV
  rw [lastF_snoc]
  by_cases e : x = s
  · rw [if_pos e, if_pos e]
    simp [h]
  · rw [if_neg e, if_neg e]
    cases hl : lastF s names 0 with
    | none => rfl
    | some i =>
      have := lastF_lt hl
      simp only
      rw [List.getElem?_append_left (by omega)]
theorem lkT_snoc {names types : List Bytes} (h : names.length = types.length) (x s n : Bytes) : lkT (names ++ [x]) (types ++ [n]) s = if x = s then some n else lkT names types s := by
  unfold lkT
  rw [lastF_snoc]
  by_cases e : x = s
  · rw [if_pos e, if_pos e]
    simp [h]
  · rw [if_neg e, if_neg e]
    cases hl : lastF s names 0 with
    | none => rfl
    | some i =>
      have := lastF_lt hl
      simp only
      rw [List.getElem?_append_left (by omega)]
theorem lastF_out {s : Bytes} {l : List Bytes} (h : s ∉ l) : lastF s l 0 = none := lastF_none (fun x hx e => h (e ▸ hx))
namespace E
theorem va_nam (names : List Bytes) (nums : List Int) (s : Bytes) : (nam s).va names nums = (lkV names nums s).map clampI := by
  simp only [va, lkV]
  cases lastF s names 0 <;> rfl
theorem ty_nam (names types : List Bytes) (s : Bytes) : (nam s).ty names types = (lkT names types s).getD [] := by
  simp only [ty, lkT]
  cases lastF s names 0 <;> rfl
theorem va_congr {n1 n2 : List Bytes} {m1 m2 : List Int} (h : ∀ s, lkV n1 m1 s = lkV n2 m2 s) : ∀ e : E, e.va n1 m1 = e.va n2 m2
  | num n => rfl
  | nam s => by rw [va_nam, va_nam, h]
  | cast _ a => va_congr h a
  | two o a b => by simp only [va]; rw [va_congr h a, va_congr h b]
theorem ty_congr {n1 n2 t1 t2 : List Bytes} (h : ∀ s, lkT n1 t1 s = lkT n2 t2 s) : ∀ e : E, e.ty n1 t1 = e.ty n2 t2
  | num n => rfl
  | nam s => by rw [ty_nam, ty_nam, h]
  | cast _ a => by simp only [ty]; rw [ty_congr h a]
  | two o a b => by simp only [ty]; rw [ty_congr h a, ty_congr h b]
/-- what has a type has a value -/
theorem va_of_ty {names types : List Bytes} {nums : List Int} : ∀ {e : E}, e.ty names types ≠ [] → ∃ n, e.va names nums = some n
  | num n, _ => ⟨n, rfl⟩
  | nam s, h => by
    simp only [ty] at h
    simp only [va]
    cases hl : lastF s names 0 with
    | none => rw [hl] at h; exact absurd rfl h
    | some i => exact ⟨_, rfl⟩
  | cast _ a, h => by
    simp only [ty] at h
    refine va_of_ty (names := names) (types := types) (e := a) (fun e => ?_)
    rw [if_pos e] at h
    exact h rfl
  | two o a b, h => by
    simp only [ty] at h
    split at h
    · rename_i hc
      obtain ⟨x, hx⟩ := va_of_ty (nums := nums) (e := a) (by rw [hc.1]; simp [cInt])
      obtain ⟨y, hy⟩ := va_of_ty (nums := nums) (e := b) (by rw [hc.2]; simp [cInt])
      exact ⟨op2 o x y, by simp only [va, hx, hy]⟩
    · exact absurd rfl h
end E
theorem tyB_ne (t : Bool) : tyB t ≠ [] := by cases t <;> simp [tyB, cInt, cBool]
theorem valsE_of_fits {names types : List Bytes} {nums : List Int} {t : SE} (h : fitsE names types t = true) : ∃ p, valsE names nums t = some p := by
  cases t with
  | none => exact ⟨_, rfl⟩
  | slet nm t e =>
    simp only [fitsE, beq_iff_eq] at h
    obtain ⟨n, hn⟩ := E.va_of_ty (nums := nums) (e := e) (names := names) (types := types) (by rw [h]; exact tyB_ne t)
    exact ⟨(n, 0), by simp only [valsE, hn]; rfl⟩
  | say e =>
    simp only [fitsE, Bool.not_eq_true', beq_eq_false_iff_ne] at h
    obtain ⟨n, hn⟩ := E.va_of_ty (nums := nums) h
    exact ⟨(n, 0), by simp only [valsE, hn]; rfl⟩
  | when a b =>
    simp only [fitsE, Bool.and_eq_true, beq_iff_eq, Bool.not_eq_true', beq_eq_false_iff_ne] at h
    obtain ⟨x, hx⟩ := E.va_of_ty (nums := nums) (e := a) (names := names) (types := types) (by rw [h.1]; simp [cBool])
    obtain ⟨y, hy⟩ := E.va_of_ty (nums := nums) h.2
    exact ⟨(x, y), by simp only [valsE, hx, hy]⟩
theorem vals_of_fits {s : Sm} {names types : List Bytes} {nums : List Int} (hs : formSB s = true) (h : smFits s names types = true) : ∃ p, smVals s names nums = some p := by
  obtain ⟨t, rfl, hf⟩ := formSB_iff.1 hs
  rw [smFits_se hf] at h
  rw [smVals_se hf]
  exact valsE_of_fits h
/-- a program whose types are right does not get stuck -/
theorem prR_of_prT : ∀ (l : List Sm) (j : Nat) (names types : List Bytes) (nums : List Int), (∀ s ∈ l, formSB s = true) → prT l j names types = -1 → (prR l names nums).2 = true
  | [], j, names, types, nums, hl, h => rfl
  | s :: r, j, names, types, nums, hl, h => by
    cases hf : smFits s names types with
    | false => rw [prT_cons_no hf] at h; omega
    | true =>
      rw [prT_cons_yes hf] at h
      obtain ⟨p, hp⟩ := vals_of_fits (nums := nums) (hl s (by simp)) hf
      rw [prR_cons hp]
      exact prR_of_prT r _ _ _ _ (fun s hs => hl s (by simp [hs])) h
theorem formSB_of_ok {s : Sm} (h : smOkB s = true) : formSB s = true := by rw [smOkB_form, Bool.and_eq_true] at h; exact h.1
theorem prog_form {l : List Sm} (h : progOkB l = true) : ∀ s ∈ l, formSB s = true := fun s hs => formSB_of_ok ((progOkB_iff.1 h).1 s hs)
theorem prRun_of_prTyp {l : List Sm} (hp : progOkB l = true) (h : prTyp l = -1) : (prRun l).2 = true := by
  unfold prTyp at h
  unfold prRun
  rw [hp] at h ⊢
  exact prR_of_prT l 0 [] [] [] (prog_form hp) h
theorem prTyp_ok {l : List Sm} (h : progOkB l = true) : prTyp l = prT l 0 [] [] := by unfold prTyp; rw [h]; rfl
theorem prTyp_bad {l : List Sm} (h : progOkB l = false) : prTyp l = -2 := by unfold prTyp; rw [h]; rfl
theorem prRun_ok {l : List Sm} (h : progOkB l = true) : prRun l = prR l [] [] := by unfold prRun; rw [h]; rfl
theorem prRun_bad {l : List Sm} (h : progOkB l = false) : prRun l = ([], false) := by unfold prRun; rw [h]; rfl
theorem prTyp_range {l : List Sm} (h : progOkB l = true) : prTyp l = -1 ∨ (0 ≤ prTyp l ∧ prTyp l < l.length) := by
  rw [prTyp_ok h]
  have := prT_range l 0 [] []
  omega
theorem prTyp_take {l : List Sm} (h : progOkB l = true) {k : Nat} (hk : prTyp l = k) (h0 : 0 < k) : prTyp (l.take k) = -1 := by
  rw [prTyp_ok (progOkB_take h h0)]
  rw [prTyp_ok h] at hk
  exact prT_take l 0 [] [] k (by omega)

/-! ### congruence -/
theorem valsE_congr {n1 n2 : List Bytes} {m1 m2 : List Int} (h : ∀ s, lkV n1 m1 s = lkV n2 m2 s) (t : SE) : valsE n1 m1 t = valsE n2 m2 t := by
  cases t with
  | none => rfl
  | slet nm t e => simp only [valsE, E.va_congr h e]
  | say e => simp only [valsE, E.va_congr h e]
  | when a b => simp only [valsE, E.va_congr h a, E.va_congr h b]
theorem fitsE_congr {n1 n2 t1 t2 : List Bytes} (h : ∀ s, lkT n1 t1 s = lkT n2 t2 s) (t : SE) : fitsE n1 t1 t = fitsE n2 t2 t := by
  cases t with
  | none => rfl
  | slet nm t e => simp only [fitsE, E.ty_congr h e]
  | say e => simp only [fitsE, E.ty_congr h e]
  | when a b => simp only [fitsE, E.ty_congr h a, E.ty_congr h b]
theorem lkV_more {n1 n2 : List Bytes} {m1 m2 : List Int} (h : ∀ s, lkV n1 m1 s = lkV n2 m2 s) (h1 : n1.length = m1.length) (h2 : n2.length = m2.length) (s : Sm) (p : Int × Int) : ∀ x, lkV (n1 ++ letN s) (m1 ++ letV s p) x = lkV (n2 ++ letN s) (m2 ++ letV s p) x := by
  intro x
  by_cases hk : s.kind = 1
  · have e1 : letN s = [s.name] := if_pos hk
    have e2 : letV s p = [p.1] := if_pos hk
    rw [e1, e2, lkV_snoc h1, lkV_snoc h2, h]
  · rw [letN_no hk, letV_no hk, List.append_nil, List.append_nil, List.append_nil, List.append_nil, h]
theorem lkT_more {n1 n2 t1 t2 : List Bytes} (h : ∀ s, lkT n1 t1 s = lkT n2 t2 s) (h1 : n1.length = t1.length) (h2 : n2.length = t2.length) (s : Sm) : ∀ x, lkT (n1 ++ letN s) (t1 ++ letT s) x = lkT (n2 ++ letN s) (t2 ++ letT s) x := by
  intro x
  by_cases hk : s.kind = 1
  · have e1 : letN s = [s.name] := if_pos hk
    have e2 : letT s = [s.typ] := if_pos hk
    rw [e1, e2, lkT_snoc h1, lkT_snoc h2, h]
  · have e2 : letT s = [] := if_neg hk
    rw [letN_no hk, e2, List.append_nil, List.append_nil, List.append_nil, List.append_nil, h]
theorem smVals_congr {n1 n2 : List Bytes} {m1 m2 : List Int} (h : ∀ s, lkV n1 m1 s = lkV n2 m2 s) {s : Sm} (hs : formSB s = true) : smVals s n1 m1 = smVals s n2 m2 := by
  obtain ⟨t, rfl, hf⟩ := formSB_iff.1 hs
  rw [smVals_se hf, smVals_se hf, valsE_congr h]
theorem smFits_congr {n1 n2 t1 t2 : List Bytes} (h : ∀ s, lkT n1 t1 s = lkT n2 t2 s) {s : Sm} (hs : formSB s = true) : smFits s n1 t1 = smFits s n2 t2 := by
  obtain ⟨t, rfl, hf⟩ := formSB_iff.1 hs
  rw [smFits_se hf, smFits_se hf, fitsE_congr h]
theorem len_letV {names : List Bytes} {nums : List Int} (h : names.length = nums.length) (s : Sm) (p : Int × Int) : (names ++ letN s).length = (nums ++ letV s p).length := by rw [List.length_append, List.length_append, letV_len, h]
theorem len_letT {names types : List Bytes} (h : names.length = types.length) (s : Sm) : (names ++ letN s).length = (types ++ letT s).length := by rw [List.length_append, List.length_append, letT_len, h]
theorem prR_congr : ∀ (l : List Sm) (n1 n2 : List Bytes) (m1 m2 : List Int), (∀ s ∈ l, formSB s = true) → (∀ s, lkV n1 m1 s = lkV n2 m2 s) → n1.length = m1.length → n2.length = m2.length → prR l n1 m1 = prR l n2 m2
  | [], _, _, _, _, _, _, _, _ => rfl
  | s :: r, n1, n2, m1, m2, hl, h, h1, h2 => by
    have e := smVals_congr h (hl s (by simp))
    cases hv : smVals s n2 m2 with
    | none => rw [hv] at e; rw [prR_cons_no hv, prR_cons_no e]
    | some p =>
      rw [hv] at e
      rw [prR_cons hv, prR_cons e, prR_congr r _ _ _ _ (fun s hs => hl s (by simp [hs])) (lkV_more h h1 h2 s p) (len_letV h1 s p) (len_letV h2 s p)]
theorem prT_congr : ∀ (l : List Sm) (j : Nat) (n1 n2 t1 t2 : List Bytes), (∀ s ∈ l, formSB s = true) → (∀ s, lkT n1 t1 s = lkT n2 t2 s) → n1.length = t1.length → n2.length = t2.length → prT l j n1 t1 = prT l j n2 t2
  | [], _, _, _, _, _, _, _, _, _ => rfl
  | s :: r, j, n1, n2, t1, t2, hl, h, h1, h2 => by
    have e := smFits_congr h (hl s (by simp))
    cases hv : smFits s n2 t2 with
    | false => rw [hv] at e; rw [prT_cons_no hv, prT_cons_no e]
    | true =>
      rw [hv] at e
      rw [prT_cons_yes hv, prT_cons_yes e, prT_congr r _ _ _ _ _ (fun s hs => hl s (by simp [hs])) (lkT_more h h1 h2 s) (len_letT h1 s) (len_letT h2 s)]
end Go.Proofs.YtgakjhaepdigpaaGreatDoor


/- What the laws of programs say, in plain Lean. No program in sight, no condition. -/
namespace Go.Proofs.YtgakjhaepdigpaaGreatDoor
set_option maxRecDepth 100000
set_option linter.unusedSimpArgs false
set_option linter.unusedVariables false

/-! ### lines that are bent -/
theorem formSB_let (s : Sm) : formSB { s with name := cLet } = false := by
  have h1 : nameB cLet = false := by decide
  have h2 : (cLet == ([] : Bytes)) = false := by decide
  unfold formSB
  simp only [h1, h2, Bool.false_and, ite_self]
theorem formSB_text {s : Sm} {t : Bytes} (h1 : typeB t = false) (h2 : (t == ([] : Bytes)) = false) : formSB { s with typ := t } = false := by
  unfold formSB
  simp only [h1, h2, Bool.false_and, Bool.and_false, ite_self]
theorem formSB_kind {s : Sm} {k : Int} (h : 4 ≤ k) : formSB { s with kind := k } = false := by
  unfold formSB
  simp only
  rw [if_neg (by omega), if_neg (by omega), if_neg (by omega), if_neg (by omega)]
theorem formSB_then {s : Sm} {e : Ex} (h1 : noneB e = false) (h2 : exOkB e = false) : formSB { s with th := e } = false := by
  unfold formSB
  simp only [h1, h2, Bool.and_false, ite_self]
theorem smOkB_of_form {s : Sm} (h : formSB s = false) : smOkB s = false := by rw [smOkB_form, h]; rfl
theorem noneB_no {e : Ex} (h : e ≠ Ex.none) : noneB e = false := by unfold noneB; simpa using h
theorem exOkB_neg : exOkB (.mk 1 (-1) [] []) = false := by
  rw [Bool.eq_false_iff]
  intro h
  obtain ⟨e, he, _⟩ := E.ok_iff.1 h
  cases e <;> simp [E.ex] at he
theorem exOkB_none : exOkB Ex.none = false := by
  rw [Bool.eq_false_iff]
  intro h
  obtain ⟨e, he, _⟩ := E.ok_iff.1 h
  exact E.ex_ne e he.symm
theorem sm_then_neg (s : Sm) : smOkB { s with th := .mk 1 (-1) [] [] } = false := smOkB_of_form (formSB_then (noneB_no (by simp [Ex.none])) exOkB_neg)
def sayNone : Sm := ⟨2, [], [], Ex.none, Ex.none⟩
theorem sayNone_bad : smOkB sayNone = false := smOkB_of_form (by unfold formSB; simp [sayNone, exOkB_none])
def noSm : Sm := ⟨0, [], [], Ex.none, Ex.none⟩
theorem noSm_se : noSm = SE.none.sm := rfl
theorem noSm_ok : smOkB noSm = true := smOkB_yes (s := .none) ⟨trivial, by simp [SE.text, SE.words, joinL]⟩
theorem progOkB_bad {a b : List Sm} {s : Sm} (h : smOkB s = false) : progOkB (a ++ s :: b) = false := by
  rw [Bool.eq_false_iff]
  intro e
  have := (progOkB_iff.1 e).1 s (by simp)
  rw [h] at this
  cases this
theorem progOkB_many {l : List Sm} (h : 16 < l.length) : progOkB l = false := by
  rw [Bool.eq_false_iff]
  intro e
  have := (progOkB_iff.1 e).2
  omega
theorem progOkB_nil : progOkB [] = false := by
  rw [Bool.eq_false_iff]
  intro e
  have := (progOkB_iff.1 e).2
  simp at this
theorem progOkB_cons_no {l : List Sm} (h : progOkB l = true) : progOkB (noSm :: l) = decide (l.length < 16) := by
  obtain ⟨h1, h2, h3⟩ := progOkB_iff.1 h
  by_cases hl : l.length < 16
  · rw [decide_eq_true hl]
    refine progOkB_iff.2 ⟨fun s hs => ?_, by simp, by rw [List.length_cons]; omega⟩
    rcases List.mem_cons.1 hs with rfl | hs
    · exact noSm_ok
    · exact h1 s hs
  · rw [decide_eq_false hl]
    exact progOkB_many (by rw [List.length_cons]; omega)
theorem noSm_vals (names : List Bytes) (nums : List Int) : smVals noSm names nums = some (0, 0) := by rw [noSm_se, smVals_se (show SE.none.form from trivial)]; rfl
theorem noSm_fits (names types : List Bytes) : smFits noSm names types = true := by rw [noSm_se, smFits_se (show SE.none.form from trivial)]; rfl
theorem prRun_cons_no {l : List Sm} (h : progOkB l = true) (hl : l.length < 16) : prRun (noSm :: l) = prRun l := by
  have h2 := progOkB_cons_no h
  rw [decide_eq_true hl] at h2
  rw [prRun_ok h2, prRun_ok h, prR_cons (noSm_vals [] [])]
  rfl
theorem prTyp_cons_no {l : List Sm} (h : progOkB l = true) (hl : l.length < 16) : (prTyp l = -1 ∧ prTyp (noSm :: l) = -1) ∨ (0 ≤ prTyp l ∧ prTyp (noSm :: l) = prTyp l + 1) := by
  have h2 := progOkB_cons_no h
  rw [decide_eq_true hl] at h2
  rw [prTyp_ok h2, prTyp_ok h, prT_cons_yes (noSm_fits [] [])]
  exact prT_shift l 0 [] []

/-! ### lines behind -/
theorem progOkB_snoc {l : List Sm} {t : SE} (h : progOkB l = true) (ht : t.ok) (hl : l.length < 16) : progOkB (l ++ [t.sm]) = true :=
  progOkB_app h (fun s hs => by simp at hs; subst hs; exact smOkB_yes ht) (by simp only [List.length_singleton]; omega)
theorem prRun_when {l : List Sm} {a b : Nat} (h : progOkB l = true) (hr : (prRun l).2 = true) (hl : l.length < 16) (ha : a < 10) (hb : b < 10) : prRun (l ++ [(sWhen a b).sm]) = ((prRun l).1 ++ (if a = 0 then [] else [(b : Int)]), true) := by
  have hok := sWhen_ok ha hb
  rw [prRun_ok h] at hr
  rw [prRun_ok (progOkB_snoc h hok hl), prRun_ok h]
  obtain ⟨m2, _, h2⟩ := prR_app_ok l [] [] rfl hr
  rw [h2]
  have hv : smVals (sWhen a b).sm ([] ++ l.flatMap letN) m2 = some ((a : Int), (b : Int)) := by rw [smVals_se hok.1]; rfl
  rw [prR_cons hv]
  by_cases h0 : a = 0
  · subst h0
    rw [if_pos rfl]
    simp [prR, saidL, sWhen, SE.sm]
  · rw [if_neg h0]
    simp [prR, saidL, sWhen, SE.sm, h0]
def sNew : SE := .slet cNew true (.num 7)
def sSay : SE := .say (.nam cNew)
theorem sNew_ok : sNew.ok := ⟨⟨by decide, num_Ok (by omega)⟩, by
  simp [sNew, SE.text, SE.words, E.words, joinL, decL_lt, cLet, cNew, tyB, cInt]⟩
theorem sSay_ok : sSay.ok := ⟨⟨(show nameB cNew = true by decide), by simp [E.ht], by simp [E.cnt]⟩, by
  simp [sSay, SE.text, SE.words, E.words, joinL, cSay, cNew]⟩
theorem len_lets : ∀ l : List Sm, (l.flatMap letN).length = (l.flatMap letT).length
  | [] => rfl
  | s :: l => by rw [List.flatMap_cons, List.flatMap_cons, List.length_append, List.length_append, len_lets l, letT_len]
theorem new_out {l : List Sm} (h : ∀ s ∈ l, s.name ≠ cNew) : cNew ∉ l.flatMap letN := by
  intro hm
  obtain ⟨s, hs, hx⟩ := List.mem_flatMap.1 hm
  unfold letN at hx
  split at hx
  · simp at hx
    exact h s hs hx.symm
  · simp at hx
theorem clamp7 : clampI 7 = 7 := by unfold clampI; omega
theorem prog_let2 {l : List Sm} (h : progOkB l = true) (hl : l.length ≤ 14) : progOkB (l ++ [sNew.sm, sSay.sm]) = true :=
  progOkB_app h (fun s hs => by
    simp at hs
    rcases hs with rfl | rfl
    · exact smOkB_yes sNew_ok
    · exact smOkB_yes sSay_ok) (by simp only [List.length_cons, List.length_nil]; omega)
theorem prRun_let2 {l : List Sm} (h : progOkB l = true) (hr : (prRun l).2 = true) (hl : l.length ≤ 14) : prRun (l ++ [sNew.sm, sSay.sm]) = ((prRun l).1 ++ [7], true) := by
  rw [prRun_ok h] at hr
  rw [prRun_ok (prog_let2 h hl), prRun_ok h]
  obtain ⟨m2, hm, h2⟩ := prR_app_ok l [] [] rfl hr
  rw [h2]
  have hv : smVals sNew.sm ([] ++ l.flatMap letN) m2 = some (7, 0) := by rw [smVals_se sNew_ok.1]; rfl
  rw [prR_cons hv]
  have e1 : letN sNew.sm = [cNew] := rfl
  have e2 : letV sNew.sm (7, 0) = [7] := rfl
  have e3 : saidL sNew.sm (7, 0) = [] := rfl
  rw [e1, e2, e3]
  have hv2 : smVals sSay.sm ([] ++ l.flatMap letN ++ [cNew]) (m2 ++ [7]) = some (7, 0) := by
    rw [smVals_se sSay_ok.1]
    show ((E.nam cNew).va _ _).map _ = _
    rw [E.va_nam, lkV_snoc hm, if_pos rfl]
    simp [clamp7]
  rw [prR_cons hv2]
  simp [prR, saidL, sSay, SE.sm]
theorem prRun_let1 {l : List Sm} (h : progOkB l = true) (hr : (prRun l).2 = true) (hl : l.length ≤ 14) (hn : ∀ s ∈ l, s.name ≠ cNew) : prRun (l ++ [sSay.sm]) = ((prRun l).1, false) := by
  rw [prRun_ok h] at hr
  rw [prRun_ok (progOkB_snoc h sSay_ok (by omega)), prRun_ok h]
  obtain ⟨m2, hm, h2⟩ := prR_app_ok l [] [] rfl hr
  rw [h2]
  have hv2 : smVals sSay.sm ([] ++ l.flatMap letN) m2 = none := by
    rw [smVals_se sSay_ok.1]
    show ((E.nam cNew).va _ _).map _ = _
    rw [E.va_nam, List.nil_append]
    unfold lkV
    rw [lastF_out (new_out hn)]
    rfl
  rw [prR_cons_no hv2, List.append_nil]
theorem prTyp_let2 {l : List Sm} (h : progOkB l = true) (ht : prTyp l = -1) (hl : l.length ≤ 14) : prTyp (l ++ [sNew.sm, sSay.sm]) = -1 := by
  rw [prTyp_ok h] at ht
  rw [prTyp_ok (prog_let2 h hl), prT_app_yes _ _ _ _ _ ht]
  rw [prT_cons_yes (by rw [smFits_se sNew_ok.1]; rfl)]
  have e1 : letN sNew.sm = [cNew] := rfl
  have e2 : letT sNew.sm = [cInt] := rfl
  rw [e1, e2, prT_cons_yes]
  · rfl
  · rw [smFits_se sSay_ok.1]
    show (!(((E.nam cNew).ty _ _) == [])) = true
    rw [E.ty_nam, lkT_snoc (by simpa using len_lets l), if_pos rfl]
    rfl
theorem prTyp_let1 {l : List Sm} (h : progOkB l = true) (ht : prTyp l = -1) (hl : l.length ≤ 14) (hn : ∀ s ∈ l, s.name ≠ cNew) : prTyp (l ++ [sSay.sm]) = l.length := by
  rw [prTyp_ok h] at ht
  rw [prTyp_ok (progOkB_snoc h sSay_ok (by omega)), prT_app_yes _ _ _ _ _ ht, prT_cons_no]
  · simp
  · rw [smFits_se sSay_ok.1]
    show (!(((E.nam cNew).ty _ _) == [])) = false
    rw [E.ty_nam, List.nil_append]
    unfold lkT
    rw [lastF_out (new_out hn)]
    rfl

/-! ### casts -/
def castS (s : Sm) : Sm := if s.kind = 2 then { s with ex := .mk 4 0 cBool [s.ex] } else s
theorem castS_kind (s : Sm) : (castS s).kind = s.kind := by unfold castS; split <;> rfl
theorem castS_name (s : Sm) : (castS s).name = s.name := by unfold castS; split <;> rfl
theorem castS_typ (s : Sm) : (castS s).typ = s.typ := by unfold castS; split <;> rfl
theorem castS_letN (s : Sm) : letN (castS s) = letN s := by unfold letN; rw [castS_kind, castS_name]
theorem castS_letT (s : Sm) : letT (castS s) = letT s := by unfold letT; rw [castS_kind, castS_typ]
theorem castS_letV (s : Sm) (p : Int × Int) : letV (castS s) p = letV s p := by unfold letV; rw [castS_kind]
theorem castS_saidL (s : Sm) (p : Int × Int) : saidL (castS s) p = saidL s p := by unfold saidL; rw [castS_kind]
theorem castS_both {s : Sm} (h1 : formSB s = true) (h2 : formSB (castS s) = true) : (∀ names nums, smVals (castS s) names nums = smVals s names nums) ∧ ∀ names types, smFits (castS s) names types = smFits s names types := by
  by_cases hk : s.kind = 2
  · obtain ⟨t, rfl, hf⟩ := formSB_iff.1 h1
    obtain ⟨u, hu, hfu⟩ := formSB_iff.1 h2
    cases t with
    | none => simp [SE.sm] at hk
    | slet nm t e => simp [SE.sm] at hk
    | when a b => simp [SE.sm] at hk
    | say e =>
      have e1 : castS (SE.say e).sm = (SE.say (.cast false e)).sm := by simp [castS, SE.sm, E.ex, tyB]
      rw [e1] at hu
      obtain rfl := SE.sm_inj hu
      rw [e1]
      refine ⟨fun names nums => by rw [smVals_se hf, smVals_se hfu]; rfl, fun names types => ?_⟩
      rw [smFits_se hf, smFits_se hfu]
      simp only [fitsE, E.ty]
      by_cases h0 : e.ty names types = []
      · rw [if_pos h0, h0]
      · rw [if_neg h0]
        have e3 : (e.ty names types == []) = false := by simpa using h0
        rw [e3]
        rfl
  · have e1 : castS s = s := if_neg hk
    rw [e1]
    exact ⟨fun _ _ => rfl, fun _ _ => rfl⟩
theorem prR_cast : ∀ (l : List Sm) (names : List Bytes) (nums : List Int), (∀ s ∈ l, formSB s = true) → (∀ s ∈ l, formSB (castS s) = true) → prR (l.map castS) names nums = prR l names nums
  | [], _, _, _, _ => rfl
  | s :: r, names, nums, h1, h2 => by
    rw [List.map_cons]
    have e := (castS_both (h1 s (by simp)) (h2 s (by simp))).1 names nums
    cases hv : smVals s names nums with
    | none => rw [hv] at e; rw [prR_cons_no hv, prR_cons_no e]
    | some p =>
      rw [hv] at e
      rw [prR_cons hv, prR_cons e, castS_letN, castS_letV, castS_saidL, prR_cast r _ _ (fun s hs => h1 s (by simp [hs])) (fun s hs => h2 s (by simp [hs]))]
theorem prT_cast : ∀ (l : List Sm) (j : Nat) (names types : List Bytes), (∀ s ∈ l, formSB s = true) → (∀ s ∈ l, formSB (castS s) = true) → prT (l.map castS) j names types = prT l j names types
  | [], _, _, _, _, _ => rfl
  | s :: r, j, names, types, h1, h2 => by
    rw [List.map_cons]
    have e := (castS_both (h1 s (by simp)) (h2 s (by simp))).2 names types
    cases hv : smFits s names types with
    | false => rw [hv] at e; rw [prT_cons_no hv, prT_cons_no e]
    | true =>
      rw [hv] at e
      rw [prT_cons_yes hv, prT_cons_yes e, castS_letN, castS_letT, prT_cast r _ _ _ (fun s hs => h1 s (by simp [hs])) (fun s hs => h2 s (by simp [hs]))]
theorem cast_form {l : List Sm} (h : progOkB (l.map castS) = true) : ∀ s ∈ l, formSB (castS s) = true := fun s hs => prog_form h _ (List.mem_map_of_mem hs)
theorem prRun_cast {l : List Sm} (h : progOkB l = true) (h2 : progOkB (l.map castS) = true) : prRun (l.map castS) = prRun l := by
  rw [prRun_ok h, prRun_ok h2, prR_cast l [] [] (prog_form h) (cast_form h2)]
theorem prTyp_cast {l : List Sm} (h : progOkB l = true) (h2 : progOkB (l.map castS) = true) : prTyp (l.map castS) = prTyp l := by
  rw [prTyp_ok h, prTyp_ok h2, prT_cast l 0 [] [] (prog_form h) (cast_form h2)]

/-! ### a line twice -/
theorem take_drop_get {α : Type} {l : List α} {k : Nat} {s : α} (h : l[k]? = some s) : l = l.take k ++ s :: l.drop (k + 1) := by
  have hk := (List.getElem?_eq_some_iff.1 h).1
  have he : l[k] = s := by rw [List.getElem?_eq_getElem hk] at h; exact Option.some.inj h
  rw [← he, ← List.drop_eq_getElem_cons hk, List.take_append_drop]
theorem take_succ_get {α : Type} {l : List α} {k : Nat} {s : α} (h : l[k]? = some s) : l.take (k + 1) = l.take k ++ [s] := by
  rw [List.take_add_one, h]; rfl
def dup (l : List Sm) (k : Nat) (s : Sm) : List Sm := (l.take (k + 1) ++ [s]) ++ l.drop (k + 1)
theorem dup_eq {l : List Sm} {k : Nat} {s : Sm} (h : l[k]? = some s) : dup l k s = l.take k ++ s :: s :: l.drop (k + 1) := by
  unfold dup; rw [take_succ_get h]; simp
theorem dup_ok {l : List Sm} {k : Nat} {s : Sm} (h : progOkB l = true) (hk : l[k]? = some s) (hl : l.length < 16) : progOkB (dup l k s) = true := by
  obtain ⟨h1, h2, h3⟩ := progOkB_iff.1 h
  have hlen := congrArg List.length (take_drop_get hk)
  rw [List.length_append, List.length_cons] at hlen
  rw [dup_eq hk]
  refine progOkB_iff.2 ⟨fun x hx => ?_, by rw [List.length_append, List.length_cons, List.length_cons]; omega, by rw [List.length_append, List.length_cons, List.length_cons]; omega⟩
  simp only [List.mem_append, List.mem_cons] at hx
  rcases hx with hx | rfl | rfl | hx
  · exact h1 x (List.mem_of_mem_take hx)
  · exact h1 x (List.mem_of_getElem? hk)
  · exact h1 x (List.mem_of_getElem? hk)
  · exact h1 x (List.mem_of_mem_drop hx)
/-- a line that lets a number be a name -/
def LetNum (s : Sm) : Prop := formSB s = true ∧ s.kind = 1 ∧ s.ex.kind = 1
theorem LetNum.se {s : Sm} (h : LetNum s) : ∃ nm t n, s = (SE.slet nm t (.num n)).sm ∧ (SE.slet nm t (.num n)).form := by
  obtain ⟨h1, h2, h3⟩ := h
  obtain ⟨t, rfl, hf⟩ := formSB_iff.1 h1
  cases t with
  | none => simp [SE.sm] at h2
  | say e => simp [SE.sm] at h2
  | when a b => simp [SE.sm] at h2
  | slet nm t e =>
    cases e with
    | num n => exact ⟨nm, t, n, rfl, hf⟩
    | nam s => simp [SE.sm, E.ex, Ex.kind] at h3
    | two o a b => simp [SE.sm, E.ex, Ex.kind] at h3
    | cast t a => simp [SE.sm, E.ex, Ex.kind] at h3
theorem LetNum.vals {s : Sm} (h : LetNum s) : ∃ n : Int, (∀ names nums, smVals s names nums = some (n, 0)) ∧ letN s = [s.name] ∧ letV s (n, 0) = [n] ∧ saidL s (n, 0) = [] := by
  obtain ⟨nm, t, n, rfl, hf⟩ := h.se
  exact ⟨n, fun names nums => by rw [smVals_se hf]; rfl, rfl, rfl, rfl⟩
theorem LetNum.fits {s : Sm} (h : LetNum s) : (∀ names types names' types', smFits s names types = smFits s names' types') ∧ letT s = [s.typ] := by
  obtain ⟨nm, t, n, rfl, hf⟩ := h.se
  exact ⟨fun names types names' types' => by rw [smFits_se hf, smFits_se hf]; rfl, rfl⟩
theorem prRun_dup {l : List Sm} {k : Nat} {s : Sm} (h : progOkB l = true) (hk : l[k]? = some s) (hl : l.length < 16) (hs : LetNum s) : prRun (dup l k s) = prRun l := by
  rw [prRun_ok (dup_ok h hk hl), prRun_ok h, dup_eq hk]
  have hl2 := take_drop_get hk
  have hrest : ∀ x ∈ l.drop (k + 1), formSB x = true := fun x hx => prog_form h x (List.mem_of_mem_drop hx)
  generalize l.take k = a at *
  generalize l.drop (k + 1) = r at *
  subst hl2
  cases hb : (prR a [] []).2 with
  | false => rw [prR_app_no a _ [] [] hb, prR_app_no a _ [] [] hb]
  | true =>
    obtain ⟨m2, hm, h0⟩ := prR_app_ok a [] [] rfl hb
    obtain ⟨n, hv, e1, e2, e3⟩ := hs.vals
    have hlen2 : ([] ++ a.flatMap letN ++ [s.name]).length = (m2 ++ [n]).length := by have := hm; simp only [List.length_append, List.length_singleton] at this ⊢; omega
    rw [h0, h0, prR_cons (hv _ _), prR_cons (hv _ _), prR_cons (hv _ _), e1, e2, e3]
    rw [prR_congr r ([] ++ a.flatMap letN ++ [s.name] ++ [s.name]) ([] ++ a.flatMap letN ++ [s.name]) (m2 ++ [n] ++ [n]) (m2 ++ [n]) hrest (fun x => by
      rw [lkV_snoc hlen2, lkV_snoc hm]
      by_cases e : s.name = x
      · rw [if_pos e]; simp [e]
      · rw [if_neg e]) (by have := hlen2; simp only [List.length_append, List.length_singleton] at this ⊢; omega) hlen2]
    simp
theorem prTyp_dup {l : List Sm} {k : Nat} {s : Sm} (h : progOkB l = true) (hk : l[k]? = some s) (hl : l.length < 16) (hs : LetNum s) :
    (prTyp l = -1 ∧ prTyp (dup l k s) = -1) ∨ (0 ≤ prTyp l ∧ prTyp l ≤ k ∧ prTyp (dup l k s) = prTyp l) ∨ ((k : Int) < prTyp l ∧ prTyp (dup l k s) = prTyp l + 1) := by
  rw [prTyp_ok (dup_ok h hk hl), prTyp_ok h, dup_eq hk]
  have hl2 := take_drop_get hk
  have hrest : ∀ x ∈ l.drop (k + 1), formSB x = true := fun x hx => prog_form h x (List.mem_of_mem_drop hx)
  have hka : (l.take k).length = k := by rw [List.length_take]; have := (List.getElem?_eq_some_iff.1 hk).1; omega
  generalize l.take k = a at *
  generalize l.drop (k + 1) = r at *
  subst hl2
  by_cases hb : prT a 0 [] [] = -1
  · rw [prT_app_yes a _ 0 [] [] hb, prT_app_yes a _ 0 [] [] hb, hka, Nat.zero_add]
    have hlen : ([] ++ a.flatMap letN).length = ([] ++ a.flatMap letT).length := by simpa using len_lets a
    generalize [] ++ a.flatMap letN = N at *
    generalize [] ++ a.flatMap letT = T at *
    obtain ⟨hf, e2⟩ := hs.fits
    obtain ⟨n, hv, e1, _, _⟩ := hs.vals
    cases hy : smFits s N T with
    | false =>
      rw [prT_cons_no hy, prT_cons_no hy]
      right; left; omega
    | true =>
      have hlen2 : (N ++ [s.name]).length = (T ++ [s.typ]).length := by rw [List.length_append, List.length_append, hlen]; rfl
      rw [prT_cons_yes hy, prT_cons_yes hy, prT_cons_yes (by rw [hf _ _ N T]; exact hy), e1, e2]
      rw [prT_congr r (k + 1 + 1) (N ++ [s.name] ++ [s.name]) (N ++ [s.name]) (T ++ [s.typ] ++ [s.typ]) (T ++ [s.typ]) hrest (fun x => by
        rw [lkT_snoc hlen2, lkT_snoc hlen]
        by_cases e : s.name = x
        · rw [if_pos e]; simp [e]
        · rw [if_neg e]) (by have := hlen2; simp only [List.length_append, List.length_singleton] at this ⊢; omega) hlen2]
      have h1 := prT_shift r (k + 1) (N ++ [s.name]) (T ++ [s.typ])
      have h2 := prT_range r (k + 1) (N ++ [s.name]) (T ++ [s.typ])
      omega
  · rw [prT_app_no a _ 0 [] [] hb, prT_app_no a _ 0 [] [] hb]
    have h2 := prT_range a 0 [] []
    right; left
    omega
end Go.Proofs.YtgakjhaepdigpaaGreatDoor


/- What a program says: the reference's ProgRun. -/
namespace Go.Proofs.YtgakjhaepdigpaaGreatDoor
set_option maxRecDepth 100000
set_option linter.unusedSimpArgs false
set_option linter.unusedVariables false
open Go.RowKit
attribute [local go_sem] bs_toList bs_get bs_size

theorem DJ.symm {n t : Value} (h : DJ n t) : DJ t n := fun b hb e => h b e hb
theorem DJ.ne {n t : Value} (h : DJ n t) : t.ownBlock = none ∨ t.ownBlock ≠ n.ownBlock := by
  rcases hq : t.ownBlock with _ | q
  · exact .inl rfl
  · exact .inr (fun e => h q e.symm hq)
theorem ret2_bool {u : Value} {b c : Bool} (h : b = c) : Ending.returned (.tuple #[u, .bool b]) = .returned (.tuple #[u, .bool c]) := by rw [h]
theorem GtN.cells1 (x : Int) (w : World) : ∀ (j : Nat) (u : Value), ([x].flatMap intRow)[j]? = some u → (w.alloc (.cells #[.int .i64 x] 3)).cell? ((⟨w.heap.size, 0, none⟩ : Addr).add j) = some u :=
  World.news_of_block (heap_alloc_new w _)
end Go.Proofs.YtgakjhaepdigpaaGreatDoor


/- The type of a program: the program's. -/
namespace Go.Proofs.YtgakjhaepdigpaaGreatDoor
set_option maxRecDepth 100000
set_option linter.unusedSimpArgs false
set_option linter.unusedVariables false
open Go.RowKit
attribute [local go_sem] bs_toList bs_get bs_size

/-- what the types of a line's two parts say of whether it fits -/
noncomputable def fitB (s : Sm) (r1 r2 : Bytes) : Bool := if s.kind = 0 then true else if s.kind = 1 then r1 == s.typ else if s.kind = 2 then !(r1 == []) else (r1 == cBool && !(r2 == []))
theorem own_ne {n t : Value} (h : DJ n t) : t.ownBlock = none ∨ t.ownBlock ≠ n.ownBlock := by
  rcases hq : t.ownBlock with _ | q
  · exact .inl rfl
  · exact .inr (fun e => h q e.symm hq)
theorem own_lt {α : Type} {row : α → List Value} {k B : Nat} {ty : TypeId} {w : World} {u : Value} {m : List α} (h : Gt row k ty B w u m) {b : Nat} (hb : w.heap.size ≤ b) : some b ≠ u.ownBlock := fun e => by
  have := (h.lt e.symm).2
  omega
theorem sm_parts {w : World} {B : Nat} {s : Sm} {A1 A2 : Option Addr} {c1 c2 : Nat} (h : SmV w B (.agg #[.int .i64 s.kind, .string (bs s.name), .string (bs s.typ), .int .i64 s.ex.kind, .int .i64 s.ex.n, .string (bs s.ex.s), .slice A1 s.ex.kids.length c1, .int .i64 s.th.kind, .int .i64 s.th.n, .string (bs s.th.s), .slice A2 s.th.kids.length c2]) s) :
    ExV w B (.agg #[.int .i64 s.ex.kind, .int .i64 s.ex.n, .string (bs s.ex.s), .slice A1 s.ex.kids.length c1]) s.ex ∧ ExV w B (.agg #[.int .i64 s.th.kind, .int .i64 s.th.n, .string (bs s.th.s), .slice A2 s.th.kids.length c2]) s.th := by
  obtain ⟨B1, B2, d1, d2, he, _, _, h1, h2⟩ := h.form2
  simp only [Value.agg.injEq, Array.mk.injEq, List.cons.injEq, Value.slice.injEq, true_and, and_true] at he
  obtain ⟨⟨rfl, rfl⟩, rfl, rfl⟩ := he
  exact ⟨h1, h2⟩
end Go.Proofs.YtgakjhaepdigpaaGreatDoor
