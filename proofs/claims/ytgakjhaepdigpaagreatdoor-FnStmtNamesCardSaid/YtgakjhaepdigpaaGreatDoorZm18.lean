/- The type of a program: the reference's. -/
import Derived.Test.YtgakjhaepdigpaaGreatDoorZm21
import Derived.Test.YtgakjhaepdigpaaGreatDoorVal
import Derived.Test.YtgakjhaepdigpaaGreatDoorZm11
import Derived.Test.YtgakjhaepdigpaaGreatDoorZm8
namespace Go.Proofs.YtgakjhaepdigpaaGreatDoor
set_option maxRecDepth 100000
set_option linter.unusedSimpArgs false
set_option linter.unusedVariables false
open Go.RowKit
attribute [local go_sem] bs_toList bs_get bs_size

noncomputable def prTyp (l : List Sm) : Int := if progOkB l then prT l 0 [] [] else -2
/-- two rows that share no block -/
def DJ (n t : Value) : Prop := ∀ b, n.ownBlock = some b → t.ownBlock ≠ some b
theorem Gt.less_own {α : Type} {row : α → List Value} {k B : Nat} {t : TypeId} {w : World} {u : Value} {m : List α} (h : Gt row k t B w u m) : ∀ b, u.ownBlock = some b → B ≤ b := fun b hb => (h.lt hb).1
theorem DJ.first {α : Type} {row : α → List Value} {k B : Nat} {ty : TypeId} {w : World} {n t : Value} {m : List α} {g c q : Nat} (h : DJ n t) (ht : Gt row k ty B w t m) (hat : n.ownBlock = some g ∨ g = w.heap.size) : DJ (.slice (some ⟨g, 0, none⟩) q c) t := by
  intro b hb e
  have hb2 : g = b := by simpa [Value.ownBlock] using hb
  subst hb2
  rcases hat with h1 | h1
  · exact h g h1 e
  · have := (ht.lt e).2
    omega
theorem DJ.second {α : Type} {row : α → List Value} {k B : Nat} {ty : TypeId} {w : World} {t : Value} {m : List α} {g c q g2 c2 q2 : Nat} (h : DJ (.slice (some ⟨g, 0, none⟩) q c) t) (hn : Gt row k ty B w (.slice (some ⟨g, 0, none⟩) q c) m) (hat : t.ownBlock = some g2 ∨ g2 = w.heap.size) : DJ (.slice (some ⟨g, 0, none⟩) q c) (.slice (some ⟨g2, 0, none⟩) q2 c2) := by
  intro b hb e
  have hb2 : g = b := by simpa [Value.ownBlock] using hb
  have he : g2 = b := by simpa [Value.ownBlock] using e
  subst hb2
  rcases hat with h1 | h1
  · rw [he] at h1
    exact h g hb h1
  · have := (hn.lt (b := g) rfl).2
    omega
end Go.Proofs.YtgakjhaepdigpaaGreatDoor


/- What a program says: plain Lean; both parts of a line; the reference's ProgRun. -/
namespace Go.Proofs.YtgakjhaepdigpaaGreatDoor
set_option maxRecDepth 100000
set_option linter.unusedSimpArgs false
set_option linter.unusedVariables false
open Go.RowKit
attribute [local go_sem] bs_toList bs_get bs_size

abbrev GtN := Gt intRow 1 3
theorem infoInt : (Tryz.prog.info? 3).map (fun i => (i.zero, i.size, i.bytes)) = some (some (.int .i64 0), 1, 8) := by kernel_rfl
theorem rtInt : RowTy intRow 1 3 74 := .of_info (fun _ => rfl) (fun s u hu => by simp [intRow] at hu; subst hu; rfl) (by decide) Tryz.underlying74 infoInt (by decide) rfl
theorem Gt.fr {α : Type} {row : α → List Value} {k B : Nat} {t : TypeId} {w : World} {u : Value} {m : List α} (h : Gt row k t B w u m) (hk : ∀ s, (row s).length = k) : Fr row k t w B u m := Fr.of_owns hk h

def valsE (names : List Bytes) (nums : List Int) : SE → Option (Int × Int)
  | .none => some (0, 0)
  | .slet _ _ e => (e.va names nums).map (fun x => (x, 0))
  | .say e => (e.va names nums).map (fun x => (x, 0))
  | .when a b => match a.va names nums, b.va names nums with | some x, some y => some (x, y) | _, _ => none
open Classical in
noncomputable def smVals (s : Sm) (names : List Bytes) (nums : List Int) : Option (Int × Int) := if h : ∃ t : SE, s = t.sm ∧ t.form then valsE names nums h.choose else none
theorem smVals_se {t : SE} (h : t.form) (names : List Bytes) (nums : List Int) : smVals t.sm names nums = valsE names nums t := by
  have hx : ∃ u : SE, t.sm = u.sm ∧ u.form := ⟨t, rfl, h⟩
  unfold smVals
  rw [dif_pos hx]
  exact congrArg (valsE names nums) (SE.sm_inj hx.choose_spec.1).symm
def letV (s : Sm) (p : Int × Int) : List Int := if s.kind = 1 then [p.1] else []
def saidL (s : Sm) (p : Int × Int) : List Int := if s.kind = 2 then [p.1] else if s.kind = 3 ∧ p.1 ≠ 0 then [p.2] else []
/-- what a program says -/
noncomputable def prR : List Sm → List Bytes → List Int → List Int × Bool
  | [], _, _ => ([], true)
  | s :: r, names, nums => match smVals s names nums with
    | none => ([], false)
    | some p => (saidL s p ++ (prR r (names ++ letN s) (nums ++ letV s p)).1, (prR r (names ++ letN s) (nums ++ letV s p)).2)
noncomputable def prRun (l : List Sm) : List Int × Bool := if progOkB l then prR l [] [] else ([], false)
theorem prR_no {l : List Sm} {j : Nat} {s : Sm} {names : List Bytes} {nums : List Int} (h : l[j]? = some s) (hf : smVals s names nums = none) : prR (l.drop j) names nums = ([], false) := by
  have hi := (List.getElem?_eq_some_iff.1 h).1
  have he : l[j] = s := by rw [List.getElem?_eq_getElem hi] at h; exact Option.some.inj h
  rw [List.drop_eq_getElem_cons hi, he, prR, hf]
theorem prR_yes {l : List Sm} {j : Nat} {s : Sm} {names : List Bytes} {nums : List Int} {p : Int × Int} (h : l[j]? = some s) (hf : smVals s names nums = some p) :
    prR (l.drop j) names nums = (saidL s p ++ (prR (l.drop (j + 1)) (names ++ letN s) (nums ++ letV s p)).1, (prR (l.drop (j + 1)) (names ++ letN s) (nums ++ letV s p)).2) := by
  have hi := (List.getElem?_eq_some_iff.1 h).1
  have he : l[j] = s := by rw [List.getElem?_eq_getElem hi] at h; exact Option.some.inj h
  rw [List.drop_eq_getElem_cons hi, he, prR, hf]
/-- what has been said ahead of line j -/
def Ran (l : List Sm) (j : Nat) (names : List Bytes) (nums out : List Int) : Prop := prR l [] [] = (out ++ (prR (l.drop j) names nums).1, (prR (l.drop j) names nums).2)
theorem Ran.zero (l : List Sm) : Ran l 0 [] [] [] := rfl
theorem Ran.stuck {l : List Sm} {j : Nat} {s : Sm} {names : List Bytes} {nums out : List Int} (h : Ran l j names nums out) (hg : l[j]? = some s) (hf : smVals s names nums = none) : prR l [] [] = (out, false) := by
  rw [h, prR_no hg hf, List.append_nil]
theorem Ran.done {l : List Sm} {names : List Bytes} {nums out : List Int} (h : Ran l l.length names nums out) : prR l [] [] = (out, true) := by
  rw [h, List.drop_length]
  simp [prR]
theorem Ran.step {l : List Sm} {j : Nat} {s : Sm} {names : List Bytes} {nums out : List Int} {p : Int × Int} (h : Ran l j names nums out) (hg : l[j]? = some s) (hf : smVals s names nums = some p) : Ran l (j + 1) (names ++ letN s) (nums ++ letV s p) (out ++ saidL s p) := by
  unfold Ran
  rw [h, prR_yes hg hf, List.append_assoc]
theorem letN_len (s : Sm) : (letN s).length ≤ 1 := by unfold letN; split <;> simp
theorem letV_len (s : Sm) (p : Int × Int) : (letV s p).length = (letN s).length := by unfold letV letN; split <;> rfl
theorem saidL_len (s : Sm) (p : Int × Int) : (saidL s p).length ≤ 1 := by unfold saidL; repeat' split <;> simp
theorem letN_no {s : Sm} (h : s.kind ≠ 1) : letN s = [] := if_neg h
theorem letV_no {s : Sm} (h : s.kind ≠ 1) (p : Int × Int) : letV s p = [] := if_neg h
theorem smVals_zero {s : Sm} (h : formSB s = true) (h0 : s.kind = 0) (names : List Bytes) (nums : List Int) : smVals s names nums = some (0, 0) := by
  obtain ⟨t, rfl, hf⟩ := formSB_iff.1 h
  rw [smVals_se hf]
  cases t <;> simp [SE.sm] at h0
  rfl
/-- both of a line, as the reference tells them -/
def bothE (names : List Bytes) (nums : List Int) : SE → Int × Int × Bool
  | .none => (0, 0, true)
  | .slet _ _ e => match e.va names nums with | some x => (x, 0, true) | none => (0, 0, false)
  | .say e => match e.va names nums with | some x => (x, 0, true) | none => (0, 0, false)
  | .when a b => match a.va names nums with | none => (0, 0, false) | some x => match b.va names nums with | some y => (x, y, true) | none => (x, 0, false)
theorem bothE_vals (names : List Bytes) (nums : List Int) (t : SE) : valsE names nums t = if (bothE names nums t).2.2 = true then some ((bothE names nums t).1, (bothE names nums t).2.1) else none := by
  cases t with
  | none => rfl
  | slet n b e => cases h : e.va names nums <;> simp [valsE, bothE, h]
  | say e => cases h : e.va names nums <;> simp [valsE, bothE, h]
  | when a b => cases h : a.va names nums <;> cases h2 : b.va names nums <;> simp [valsE, bothE, h, h2]
def of3 (p : Int × Int × Bool) : Value := .tuple #[.int .i64 p.1, .int .i64 p.2.1, .bool p.2.2]
end Go.Proofs.YtgakjhaepdigpaaGreatDoor


/- Laws of what programs say, in plain Lean: parts, more lines. No program in sight, no condition. -/
namespace Go.Proofs.YtgakjhaepdigpaaGreatDoor
set_option maxRecDepth 100000
set_option linter.unusedSimpArgs false
set_option linter.unusedVariables false

theorem progOkB_iff {l : List Sm} : progOkB l = true ↔ (∀ s ∈ l, smOkB s = true) ∧ 1 ≤ l.length ∧ l.length ≤ 16 := by
  unfold progOkB
  simp only [Bool.and_eq_true, List.all_eq_true, decide_eq_true_eq]
  exact ⟨fun h => ⟨h.1.1, h.1.2, h.2⟩, fun h => ⟨⟨h.1, h.2.1⟩, h.2.2⟩⟩
theorem progOkB_app {a b : List Sm} (ha : progOkB a = true) (hb : ∀ s ∈ b, smOkB s = true) (hl : a.length + b.length ≤ 16) : progOkB (a ++ b) = true := by
  obtain ⟨h1, h2, h3⟩ := progOkB_iff.1 ha
  refine progOkB_iff.2 ⟨fun s hs => ?_, by rw [List.length_append]; omega, by rw [List.length_append]; omega⟩
  rcases List.mem_append.1 hs with h | h
  · exact h1 s h
  · exact hb s h
theorem progOkB_take {l : List Sm} {k : Nat} (h : progOkB l = true) (hk : 1 ≤ k) : progOkB (l.take k) = true := by
  obtain ⟨h1, h2, h3⟩ := progOkB_iff.1 h
  exact progOkB_iff.2 ⟨fun s hs => h1 s (List.mem_of_mem_take hs), by rw [List.length_take]; omega, by rw [List.length_take]; omega⟩
theorem prR_cons_no {s : Sm} {r : List Sm} {names : List Bytes} {nums : List Int} (h : smVals s names nums = none) : prR (s :: r) names nums = ([], false) := by rw [prR, h]
theorem prR_cons {s : Sm} {r : List Sm} {names : List Bytes} {nums : List Int} {p : Int × Int} (h : smVals s names nums = some p) : prR (s :: r) names nums = (saidL s p ++ (prR r (names ++ letN s) (nums ++ letV s p)).1, (prR r (names ++ letN s) (nums ++ letV s p)).2) := by rw [prR, h]
theorem prR_app_no : ∀ (a b : List Sm) (names : List Bytes) (nums : List Int), (prR a names nums).2 = false → prR (a ++ b) names nums = prR a names nums
  | [], b, names, nums, h => by simp [prR] at h
  | s :: a, b, names, nums, h => by
    rw [List.cons_append]
    cases hv : smVals s names nums with
    | none => rw [prR_cons_no hv, prR_cons_no hv]
    | some p =>
      rw [prR_cons hv] at h ⊢
      rw [prR_cons hv, prR_app_no a b _ _ h]
theorem prR_app_ok : ∀ (a : List Sm) (names : List Bytes) (nums : List Int), names.length = nums.length → (prR a names nums).2 = true → ∃ m2 : List Int, (names ++ a.flatMap letN).length = m2.length ∧ ∀ b : List Sm, prR (a ++ b) names nums = ((prR a names nums).1 ++ (prR b (names ++ a.flatMap letN) m2).1, (prR b (names ++ a.flatMap letN) m2).2)
  | [], names, nums, hl, h => ⟨nums, by simpa using hl, fun b => by simp [prR]⟩
  | s :: a, names, nums, hl, h => by
    cases hv : smVals s names nums with
    | none => rw [prR_cons_no hv] at h; cases h
    | some p =>
      rw [prR_cons hv] at h
      obtain ⟨m2, h1, h2⟩ := prR_app_ok a _ _ (by rw [List.length_append, List.length_append, letV_len, hl]) h
      refine ⟨m2, by rw [List.flatMap_cons, ← List.append_assoc]; exact h1, fun b => ?_⟩
      rw [List.cons_append, prR_cons hv, prR_cons hv, h2]
      simp only [List.flatMap_cons, List.append_assoc]
/-- what a part of a program says -/
theorem prRun_take {l : List Sm} {k : Nat} (h : progOkB l = true) (hk : 1 ≤ k) : ∃ t, (prRun l).1 = (prRun (l.take k)).1 ++ t ∧ ((prRun l).2 = true → (prRun (l.take k)).2 = true) ∧ ((prRun (l.take k)).2 = false → t = []) := by
  have e1 : prRun l = prR l [] [] := by unfold prRun; rw [h]; rfl
  have e2 : prRun (l.take k) = prR (l.take k) [] [] := by unfold prRun; rw [progOkB_take h hk]; rfl
  rw [e1, e2]
  cases hb : (prR (l.take k) [] []).2 with
  | false =>
    have h1 := prR_app_no (l.take k) (l.drop k) [] [] hb
    rw [List.take_append_drop] at h1
    exact ⟨[], by rw [h1, List.append_nil], fun h2 => (by rw [h1, hb] at h2; cases h2), fun _ => rfl⟩
  | true =>
    obtain ⟨m2, _, h0⟩ := prR_app_ok (l.take k) [] [] rfl hb
    have h1 := h0 (l.drop k)
    rw [List.take_append_drop] at h1
    rw [h1]
    exact ⟨_, rfl, fun _ => rfl, fun h2 => by cases h2⟩
/-! ### lines of the laws' own -/
theorem num_Ok {n : Nat} (h : n ≤ 1000000) : (E.num n).Ok := ⟨h, by simp [E.ht], by simp [E.cnt]⟩
def sWhen (a b : Nat) : SE := .when (.num a) (.num b)
theorem sWhen_ok {a b : Nat} (ha : a < 10) (hb : b < 10) : (sWhen a b).ok := by
  refine ⟨⟨num_Ok (by omega), num_Ok (by omega)⟩, ?_⟩
  simp [sWhen, SE.text, SE.words, E.words, joinL, decL_lt ha, decL_lt hb, cWhen, cSay]
end Go.Proofs.YtgakjhaepdigpaaGreatDoor
