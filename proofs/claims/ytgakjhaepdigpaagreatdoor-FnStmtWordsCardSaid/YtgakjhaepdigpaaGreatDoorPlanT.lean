
/- Laws of types and of what is looked up, in plain Lean. No program in sight, no condition. -/
import Derived.Test.YtgakjhaepdigpaaGreatDoorZm18
namespace Go.Proofs.YtgakjhaepdigpaaGreatDoor
set_option maxRecDepth 100000
set_option linter.unusedSimpArgs false
set_option linter.unusedVariables false

/-! ### types -/
theorem prT_cons_yes {s : Sm} {r : List Sm} {j : Nat} {names types : List Bytes} (h : smFits s names types = true) : prT (s :: r) j names types = prT r (j + 1) (names ++ letN s) (types ++ letT s) := by rw [prT, h]; rfl
theorem prT_cons_no {s : Sm} {r : List Sm} {j : Nat} {names types : List Bytes} (h : smFits s names types = false) : prT (s :: r) j names types = j := by rw [prT, h]; rfl
theorem letT_len (s : Sm) : (letT s).length = (letN s).length := by unfold letT letN; split <;> rfl
theorem prT_range : ∀ (l : List Sm) (j : Nat) (names types : List Bytes), prT l j names types = -1 ∨ ((j : Int) ≤ prT l j names types ∧ prT l j names types < j + l.length)
  | [], j, names, types => .inl rfl
  | s :: r, j, names, types => by
    cases h : smFits s names types with
    | false => rw [prT_cons_no h, List.length_cons]; right; omega
    | true =>
      rw [prT_cons_yes h, List.length_cons]
      rcases prT_range r (j + 1) (names ++ letN s) (types ++ letT s) with h1 | h1
      · exact .inl h1
      · right; omega
theorem prT_app_yes : ∀ (a b : List Sm) (j : Nat) (names types : List Bytes), prT a j names types = -1 → prT (a ++ b) j names types = prT b (j + a.length) (names ++ a.flatMap letN) (types ++ a.flatMap letT)
  | [], b, j, names, types, h => by simp
  | s :: a, b, j, names, types, h => by
    rw [List.cons_append]
    cases hf : smFits s names types with
    | false => rw [prT_cons_no hf] at h; omega
    | true =>
      rw [prT_cons_yes hf] at h ⊢
      rw [prT_app_yes a b _ _ _ h, List.length_cons, List.flatMap_cons, List.flatMap_cons, ← List.append_assoc, ← List.append_assoc, show j + 1 + a.length = j + (a.length + 1) by omega]
theorem prT_app_no : ∀ (a b : List Sm) (j : Nat) (names types : List Bytes), prT a j names types ≠ -1 → prT (a ++ b) j names types = prT a j names types
  | [], b, j, names, types, h => absurd rfl h
  | s :: a, b, j, names, types, h => by
    rw [List.cons_append]
    cases hf : smFits s names types with
    | false => rw [prT_cons_no hf, prT_cons_no hf]
    | true =>
      rw [prT_cons_yes hf] at h ⊢
      rw [prT_cons_yes hf, prT_app_no a b _ _ _ h]
/-- counted from the next line on -/
theorem prT_shift : ∀ (l : List Sm) (j : Nat) (names types : List Bytes), (prT l j names types = -1 ∧ prT l (j + 1) names types = -1) ∨ (0 ≤ prT l j names types ∧ prT l (j + 1) names types = prT l j names types + 1)
  | [], j, names, types => .inl ⟨rfl, rfl⟩
  | s :: r, j, names, types => by
    cases h : smFits s names types with
    | false => rw [prT_cons_no h, prT_cons_no h]; right; omega
    | true => rw [prT_cons_yes h, prT_cons_yes h]; exact prT_shift r (j + 1) _ _
/-- what is ahead of the first line that is not right is right -/
theorem prT_take (l : List Sm) (j : Nat) (names types : List Bytes) (k : Nat) (h : prT l j names types = -1 ∨ (j + k : Int) ≤ prT l j names types) : prT (l.take k) j names types = -1 := by
  rcases prT_range (l.take k) j names types with h1 | h1
  · exact h1
  · exfalso
    have h2 := prT_app_no (l.take k) (l.drop k) j names types (by omega)
    rw [List.take_append_drop] at h2
    have h3 : (l.take k).length ≤ k := by rw [List.length_take]; omega
    omega

/-! ### names -/
def lkV (names : List Bytes) (nums : List Int) (s : Bytes) : Option Int := match lastF s names 0 with | some i => some ((nums[i]?).getD 0) | none => none
def lkT (names types : List Bytes) (s : Bytes) : Option Bytes := match lastF s names 0 with | some i => some ((types[i]?).getD []) | none => none
theorem lastF_snoc (s x : Bytes) : ∀ (l : List Bytes) (i : Nat), lastF s (l ++ [x]) i = if x = s then some (i + l.length) else lastF s l i
  | [], i => by
    by_cases e : x = s
    · simp [lastF, e]
    · simp [lastF, e]
  | y :: l, i => by
    rw [List.cons_append, lastF, lastF_snoc s x l (i + 1)]
    by_cases e : x = s
    · rw [if_pos e, if_pos e, List.length_cons]
      simp only [Option.some.injEq]
      omega
    · rw [if_neg e, if_neg e, lastF]
theorem lkV_snoc {names : List Bytes} {nums : List Int} (h : names.length = nums.length) (x s : Bytes) (n : Int) : lkV (names ++ [x]) (nums ++ [n]) s = if x = s then some n else lkV names nums s := by
  unfold lkV
  rw [lastF_snoc]
  by_cases e : x = s
  · rw [if_pos e, if_pos e]
    simp [h]
  · rw [if_neg e, if_neg e]
    cases hl : lastF s names 0 with
    | none => rfl
    | some i =>
      have := lastF_lt hl
      simp only
      rw [List.getElem?_append_left (by omega)]
theorem lkT_snoc {names types : List Bytes} (h : names.length = types.length) (x s n : Bytes) : lkT (names ++ [x]) (types ++ [n]) s = if x = s then some n else lkT names types s := by
  unfold lkT
  rw [lastF_snoc]
  by_cases e : x = s
  · rw [if_pos e, if_pos e]
    simp [h]
  · rw [if_neg e, if_neg e]
    cases hl : lastF s names 0 with
    | none => rfl
    | some i =>
      have := lastF_lt hl
      simp only
      rw [List.getElem?_append_left (by omega)]
theorem lastF_out {s : Bytes} {l : List Bytes} (h : s ∉ l) : lastF s l 0 = none := lastF_none (fun x hx e => h (e ▸ hx))
namespace E
theorem va_nam (names : List Bytes) (nums : List Int) (s : Bytes) : (nam s).va names nums = (lkV names nums s).map clampI := by
  simp only [va, lkV]
  cases lastF s names 0 <;> rfl
theorem ty_nam (names types : List Bytes) (s : Bytes) : (nam s).ty names types = (lkT names types s).getD [] := by
  simp only [ty, lkT]
  cases lastF s names 0 <;> rfl
theorem va_congr {n1 n2 : List Bytes} {m1 m2 : List Int} (h : ∀ s, lkV n1 m1 s = lkV n2 m2 s) : ∀ e : E, e.va n1 m1 = e.va n2 m2
  | num n => rfl
  | nam s => by rw [va_nam, va_nam, h]
  | cast _ a => va_congr h a
  | two o a b => by simp only [va]; rw [va_congr h a, va_congr h b]
theorem ty_congr {n1 n2 t1 t2 : List Bytes} (h : ∀ s, lkT n1 t1 s = lkT n2 t2 s) : ∀ e : E, e.ty n1 t1 = e.ty n2 t2
  | num n => rfl
  | nam s => by rw [ty_nam, ty_nam, h]
  | cast _ a => by simp only [ty]; rw [ty_congr h a]
  | two o a b => by simp only [ty]; rw [ty_congr h a, ty_congr h b]
/-- what has a type has a value -/
theorem va_of_ty {names types : List Bytes} {nums : List Int} : ∀ {e : E}, e.ty names types ≠ [] → ∃ n, e.va names nums = some n
  | num n, _ => ⟨n, rfl⟩
  | nam s, h => by
    simp only [ty] at h
    simp only [va]
    cases hl : lastF s names 0 with
    | none => rw [hl] at h; exact absurd rfl h
    | some i => exact ⟨_, rfl⟩
  | cast _ a, h => by
    simp only [ty] at h
    refine va_of_ty (names := names) (types := types) (e := a) (fun e => ?_)
    rw [if_pos e] at h
    exact h rfl
  | two o a b, h => by
    simp only [ty] at h
    split at h
    · rename_i hc
      obtain ⟨x, hx⟩ := va_of_ty (nums := nums) (e := a) (by rw [hc.1]; simp [cInt])
      obtain ⟨y, hy⟩ := va_of_ty (nums := nums) (e := b) (by rw [hc.2]; simp [cInt])
      exact ⟨op2 o x y, by simp only [va, hx, hy]⟩
    · exact absurd rfl h
end E
theorem tyB_ne (t : Bool) : tyB t ≠ [] := by cases t <;> simp [tyB, cInt, cBool]
theorem valsE_of_fits {names types : List Bytes} {nums : List Int} {t : SE} (h : fitsE names types t = true) : ∃ p, valsE names nums t = some p := by
  cases t with
  | none => exact ⟨_, rfl⟩
  | slet nm t e =>
    simp only [fitsE, beq_iff_eq] at h
    obtain ⟨n, hn⟩ := E.va_of_ty (nums := nums) (e := e) (names := names) (types := types) (by rw [h]; exact tyB_ne t)
    exact ⟨(n, 0), by simp only [valsE, hn]; rfl⟩
  | say e =>
    simp only [fitsE, Bool.not_eq_true', beq_eq_false_iff_ne] at h
    obtain ⟨n, hn⟩ := E.va_of_ty (nums := nums) h
    exact ⟨(n, 0), by simp only [valsE, hn]; rfl⟩
  | when a b =>
    simp only [fitsE, Bool.and_eq_true, beq_iff_eq, Bool.not_eq_true', beq_eq_false_iff_ne] at h
    obtain ⟨x, hx⟩ := E.va_of_ty (nums := nums) (e := a) (names := names) (types := types) (by rw [h.1]; simp [cBool])
    obtain ⟨y, hy⟩ := E.va_of_ty (nums := nums) h.2
    exact ⟨(x, y), by simp only [valsE, hx, hy]⟩
theorem vals_of_fits {s : Sm} {names types : List Bytes} {nums : List Int} (hs : formSB s = true) (h : smFits s names types = true) : ∃ p, smVals s names nums = some p := by
  obtain ⟨t, rfl, hf⟩ := formSB_iff.1 hs
  rw [smFits_se hf] at h
  rw [smVals_se hf]
  exact valsE_of_fits h
/-- a program whose types are right does not get stuck -/
theorem prR_of_prT : ∀ (l : List Sm) (j : Nat) (names types : List Bytes) (nums : List Int), (∀ s ∈ l, formSB s = true) → prT l j names types = -1 → (prR l names nums).2 = true
  | [], j, names, types, nums, hl, h => rfl
  | s :: r, j, names, types, nums, hl, h => by
    cases hf : smFits s names types with
    | false => rw [prT_cons_no hf] at h; omega
    | true =>
      rw [prT_cons_yes hf] at h
      obtain ⟨p, hp⟩ := vals_of_fits (nums := nums) (hl s (by simp)) hf
      rw [prR_cons hp]
      exact prR_of_prT r _ _ _ _ (fun s hs => hl s (by simp [hs])) h
theorem formSB_of_ok {s : Sm} (h : smOkB s = true) : formSB s = true := by rw [smOkB_form, Bool.and_eq_true] at h; exact h.1
theorem prog_form {l : List Sm} (h : progOkB l = true) : ∀ s ∈ l, formSB s = true := fun s hs => formSB_of_ok ((progOkB_iff.1 h).1 s hs)
theorem prRun_of_prTyp {l : List Sm} (hp : progOkB l = true) (h : prTyp l = -1) : (prRun l).2 = true := by
  unfold prTyp at h
  unfold prRun
  rw [hp] at h ⊢
  exact prR_of_prT l 0 [] [] [] (prog_form hp) h
theorem prTyp_ok {l : List Sm} (h : progOkB l = true) : prTyp l = prT l 0 [] [] := by unfold prTyp; rw [h]; rfl
theorem prTyp_bad {l : List Sm} (h : progOkB l = false) : prTyp l = -2 := by unfold prTyp; rw [h]; rfl
theorem prRun_ok {l : List Sm} (h : progOkB l = true) : prRun l = prR l [] [] := by unfold prRun; rw [h]; rfl
theorem prRun_bad {l : List Sm} (h : progOkB l = false) : prRun l = ([], false) := by unfold prRun; rw [h]; rfl
theorem prTyp_range {l : List Sm} (h : progOkB l = true) : prTyp l = -1 ∨ (0 ≤ prTyp l ∧ prTyp l < l.length) := by
  rw [prTyp_ok h]
  have := prT_range l 0 [] []
  omega
theorem prTyp_take {l : List Sm} (h : progOkB l = true) {k : Nat} (hk : prTyp l = k) (h0 : 0 < k) : prTyp (l.take k) = -1 := by
  rw [prTyp_ok (progOkB_take h h0)]
  rw [prTyp_ok h] at hk
  exact prT_take l 0 [] [] k (by omega)

/-! ### congruence -/
theorem valsE_congr {n1 n2 : List Bytes} {m1 m2 : List Int} (h : ∀ s, lkV n1 m1 s = lkV n2 m2 s) (t : SE) : valsE n1 m1 t = valsE n2 m2 t := by
  cases t with
  | none => rfl
  | slet nm t e => simp only [valsE, E.va_congr h e]
  | say e => simp only [valsE, E.va_congr h e]
  | when a b => simp only [valsE, E.va_congr h a, E.va_congr h b]
theorem fitsE_congr {n1 n2 t1 t2 : List Bytes} (h : ∀ s, lkT n1 t1 s = lkT n2 t2 s) (t : SE) : fitsE n1 t1 t = fitsE n2 t2 t := by
  cases t with
  | none => rfl
  | slet nm t e => simp only [fitsE, E.ty_congr h e]
  | say e => simp only [fitsE, E.ty_congr h e]
  | when a b => simp only [fitsE, E.ty_congr h a, E.ty_congr h b]
theorem lkV_more {n1 n2 : List Bytes} {m1 m2 : List Int} (h : ∀ s, lkV n1 m1 s = lkV n2 m2 s) (h1 : n1.length = m1.length) (h2 : n2.length = m2.length) (s : Sm) (p : Int × Int) : ∀ x, lkV (n1 ++ letN s) (m1 ++ letV s p) x = lkV (n2 ++ letN s) (m2 ++ letV s p) x := by
  intro x
  by_cases hk : s.kind = 1
  · have e1 : letN s = [s.name] := if_pos hk
    have e2 : letV s p = [p.1] := if_pos hk
    rw [e1, e2, lkV_snoc h1, lkV_snoc h2, h]
  · rw [letN_no hk, letV_no hk, List.append_nil, List.append_nil, List.append_nil, List.append_nil, h]
theorem lkT_more {n1 n2 t1 t2 : List Bytes} (h : ∀ s, lkT n1 t1 s = lkT n2 t2 s) (h1 : n1.length = t1.length) (h2 : n2.length = t2.length) (s : Sm) : ∀ x, lkT (n1 ++ letN s) (t1 ++ letT s) x = lkT (n2 ++ letN s) (t2 ++ letT s) x := by
  intro x
  by_cases hk : s.kind = 1
  · have e1 : letN s = [s.name] := if_pos hk
    have e2 : letT s = [s.typ] := if_pos hk
    rw [e1, e2, lkT_snoc h1, lkT_snoc h2, h]
  · have e2 : letT s = [] := if_neg hk
    rw [letN_no hk, e2, List.append_nil, List.append_nil, List.append_nil, List.append_nil, h]
theorem smVals_congr {n1 n2 : List Bytes} {m1 m2 : List Int} (h : ∀ s, lkV n1 m1 s = lkV n2 m2 s) {s : Sm} (hs : formSB s = true) : smVals s n1 m1 = smVals s n2 m2 := by
  obtain ⟨t, rfl, hf⟩ := formSB_iff.1 hs
  rw [smVals_se hf, smVals_se hf, valsE_congr h]
theorem smFits_congr {n1 n2 t1 t2 : List Bytes} (h : ∀ s, lkT n1 t1 s = lkT n2 t2 s) {s : Sm} (hs : formSB s = true) : smFits s n1 t1 = smFits s n2 t2 := by
  obtain ⟨t, rfl, hf⟩ := formSB_iff.1 hs
  rw [smFits_se hf, smFits_se hf, fitsE_congr h]
theorem len_letV {names : List Bytes} {nums : List Int} (h : names.length = nums.length) (s : Sm) (p : Int × Int) : (names ++ letN s).length = (nums ++ letV s p).length := by rw [List.length_append, List.length_append, letV_len, h]
theorem len_letT {names types : List Bytes} (h : names.length = types.length) (s : Sm) : (names ++ letN s).length = (types ++ letT s).length := by rw [List.length_append, List.length_append, letT_len, h]
theorem prR_congr : ∀ (l : List Sm) (n1 n2 : List Bytes) (m1 m2 : List Int), (∀ s ∈ l, formSB s = true) → (∀ s, lkV n1 m1 s = lkV n2 m2 s) → n1.length = m1.length → n2.length = m2.length → prR l n1 m1 = prR l n2 m2
  | [], _, _, _, _, _, _, _, _ => rfl
  | s :: r, n1, n2, m1, m2, hl, h, h1, h2 => by
    have e := smVals_congr h (hl s (by simp))
    cases hv : smVals s n2 m2 with
    | none => rw [hv] at e; rw [prR_cons_no hv, prR_cons_no e]
    | some p =>
      rw [hv] at e
      rw [prR_cons hv, prR_cons e, prR_congr r _ _ _ _ (fun s hs => hl s (by simp [hs])) (lkV_more h h1 h2 s p) (len_letV h1 s p) (len_letV h2 s p)]
theorem prT_congr : ∀ (l : List Sm) (j : Nat) (n1 n2 t1 t2 : List Bytes), (∀ s ∈ l, formSB s = true) → (∀ s, lkT n1 t1 s = lkT n2 t2 s) → n1.length = t1.length → n2.length = t2.length → prT l j n1 t1 = prT l j n2 t2
  | [], _, _, _, _, _, _, _, _, _ => rfl
  | s :: r, j, n1, n2, t1, t2, hl, h, h1, h2 => by
    have e := smFits_congr h (hl s (by simp))
    cases hv : smFits s n2 t2 with
    | false => rw [hv] at e; rw [prT_cons_no hv, prT_cons_no e]
    | true =>
      rw [hv] at e
      rw [prT_cons_yes hv, prT_cons_yes e, prT_congr r _ _ _ _ _ (fun s hs => hl s (by simp [hs])) (lkT_more h h1 h2 s) (len_letT h1 s) (len_letT h2 s)]
end Go.Proofs.YtgakjhaepdigpaaGreatDoor
