
/- What a program says: plain Lean; both parts of a line; the reference's ProgRun. -/
import Derived.Test.YtgfbjpmbaibnoaaGreatDoorVal
import Derived.Test.YtgfbjpmbaibnoaaGreatDoorPtyS
import Derived.Test.YtgfbjpmbaibnoaaGreatDoorMark
import Derived.Test.YtgfbjpmbaibnoaaGreatDoorApp
namespace Go.Proofs.YtgfbjpmbaibnoaaGreatDoor
set_option maxRecDepth 100000
set_option linter.unusedSimpArgs false
set_option linter.unusedVariables false
open Go.RowKit
attribute [local go_sem] bs_toList bs_get bs_size

abbrev GtN := Gt intRow 1 3
theorem infoInt : (Tryz.prog.info? 3).map (fun i => (i.zero, i.size, i.bytes)) = some (some (.int .i64 0), 1, 8) := by kernel_rfl
theorem rtInt : RowTy intRow 1 3 136 := .of_info (fun _ => rfl) (fun s u hu => by simp [intRow] at hu; subst hu; rfl) (by decide) Tryz.underlying136 infoInt (by decide) rfl
theorem Gt.fr {α : Type} {row : α → List Value} {k B : Nat} {t : TypeId} {w : World} {u : Value} {m : List α} (h : Gt row k t B w u m) (hk : ∀ s, (row s).length = k) : Fr row k t w B u m := Fr.of_owns hk h

def valsE (names : List Bytes) (nums : List Int) : SE → Option (Int × Int)
  | .none => some (0, 0)
  | .slet _ _ e => (e.va names nums).map (fun x => (x, 0))
  | .say e => (e.va names nums).map (fun x => (x, 0))
  | .when a b => match a.va names nums, b.va names nums with | some x, some y => some (x, y) | _, _ => none
open Classical in
noncomputable def smVals (s : Sm) (names : List Bytes) (nums : List Int) : Option (Int × Int) := if h : ∃ t : SE, s = t.sm ∧ t.form then valsE names nums h.choose else none
theorem smVals_se {t : SE} (h : t.form) (names : List Bytes) (nums : List Int) : smVals t.sm names nums = valsE names nums t := by
  have hx : ∃ u : SE, t.sm = u.sm ∧ u.form := ⟨t, rfl, h⟩
  unfold smVals
  rw [dif_pos hx]
  exact congrArg (valsE names nums) (SE.sm_inj hx.choose_spec.1).symm
def letV (s : Sm) (p : Int × Int) : List Int := if s.kind = 1 then [p.1] else []
def saidL (s : Sm) (p : Int × Int) : List Int := if s.kind = 2 then [p.1] else if s.kind = 3 ∧ p.1 ≠ 0 then [p.2] else []
/-- what a program says -/
noncomputable def prR : List Sm → List Bytes → List Int → List Int × Bool
  | [], _, _ => ([], true)
  | s :: r, names, nums => match smVals s names nums with
    | none => ([], false)
    | some p => (saidL s p ++ (prR r (names ++ letN s) (nums ++ letV s p)).1, (prR r (names ++ letN s) (nums ++ letV s p)).2)
noncomputable def prRun (l : List Sm) : List Int × Bool := if progOkB l then prR l [] [] else ([], false)
theorem prR_no {l : List Sm} {j : Nat} {s : Sm} {names : List Bytes} {nums : List Int} (h : l[j]? = some s) (hf : smVals s names nums = none) : prR (l.drop j) names nums = ([], false) := by
  have hi := (List.getElem?_eq_some_iff.1 h).1
  have he : l[j] = s := by rw [List.getElem?_eq_getElem hi] at h; exact Option.some.inj h
  rw [List.drop_eq_getElem_cons hi, he, prR, hf]
theorem prR_yes {l : List Sm} {j : Nat} {s : Sm} {names : List Bytes} {nums : List Int} {p : Int × Int} (h : l[j]? = some s) (hf : smVals s names nums = some p) :
    prR (l.drop j) names nums = (saidL s p ++ (prR (l.drop (j + 1)) (names ++ letN s) (nums ++ letV s p)).1, (prR (l.drop (j + 1)) (names ++ letN s) (nums ++ letV s p)).2) := by
  have hi := (List.getElem?_eq_some_iff.1 h).1
  have he : l[j] = s := by rw [List.getElem?_eq_getElem hi] at h; exact Option.some.inj h
  rw [List.drop_eq_getElem_cons hi, he, prR, hf]
/-- what has been said ahead of line j -/
def Ran (l : List Sm) (j : Nat) (names : List Bytes) (nums out : List Int) : Prop := prR l [] [] = (out ++ (prR (l.drop j) names nums).1, (prR (l.drop j) names nums).2)
theorem Ran.zero (l : List Sm) : Ran l 0 [] [] [] := rfl
theorem Ran.stuck {l : List Sm} {j : Nat} {s : Sm} {names : List Bytes} {nums out : List Int} (h : Ran l j names nums out) (hg : l[j]? = some s) (hf : smVals s names nums = none) : prR l [] [] = (out, false) := by
  rw [h, prR_no hg hf, List.append_nil]
theorem Ran.done {l : List Sm} {names : List Bytes} {nums out : List Int} (h : Ran l l.length names nums out) : prR l [] [] = (out, true) := by
  rw [h, List.drop_length]
  simp [prR]
theorem Ran.step {l : List Sm} {j : Nat} {s : Sm} {names : List Bytes} {nums out : List Int} {p : Int × Int} (h : Ran l j names nums out) (hg : l[j]? = some s) (hf : smVals s names nums = some p) : Ran l (j + 1) (names ++ letN s) (nums ++ letV s p) (out ++ saidL s p) := by
  unfold Ran
  rw [h, prR_yes hg hf, List.append_assoc]
theorem letN_len (s : Sm) : (letN s).length ≤ 1 := by unfold letN; split <;> simp
theorem letV_len (s : Sm) (p : Int × Int) : (letV s p).length = (letN s).length := by unfold letV letN; split <;> rfl
theorem saidL_len (s : Sm) (p : Int × Int) : (saidL s p).length ≤ 1 := by unfold saidL; repeat' split <;> simp
theorem letN_no {s : Sm} (h : s.kind ≠ 1) : letN s = [] := if_neg h
theorem letV_no {s : Sm} (h : s.kind ≠ 1) (p : Int × Int) : letV s p = [] := if_neg h
theorem smVals_zero {s : Sm} (h : formSB s = true) (h0 : s.kind = 0) (names : List Bytes) (nums : List Int) : smVals s names nums = some (0, 0) := by
  obtain ⟨t, rfl, hf⟩ := formSB_iff.1 h
  rw [smVals_se hf]
  cases t <;> simp [SE.sm] at h0
  rfl
/-- both of a line, as the reference tells them -/
def bothE (names : List Bytes) (nums : List Int) : SE → Int × Int × Bool
  | .none => (0, 0, true)
  | .slet _ _ e => match e.va names nums with | some x => (x, 0, true) | none => (0, 0, false)
  | .say e => match e.va names nums with | some x => (x, 0, true) | none => (0, 0, false)
  | .when a b => match a.va names nums with | none => (0, 0, false) | some x => match b.va names nums with | some y => (x, y, true) | none => (x, 0, false)
theorem bothE_vals (names : List Bytes) (nums : List Int) (t : SE) : valsE names nums t = if (bothE names nums t).2.2 = true then some ((bothE names nums t).1, (bothE names nums t).2.1) else none := by
  cases t with
  | none => rfl
  | slet n b e => cases h : e.va names nums <;> simp [valsE, bothE, h]
  | say e => cases h : e.va names nums <;> simp [valsE, bothE, h]
  | when a b => cases h : a.va names nums <;> cases h2 : b.va names nums <;> simp [valsE, bothE, h, h2]
def of3 (p : Int × Int × Bool) : Value := .tuple #[.int .i64 p.1, .int .i64 p.2.1, .bool p.2.2]
end Go.Proofs.YtgfbjpmbaibnoaaGreatDoor
