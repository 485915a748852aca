
/- What a program says: plain Lean; both parts of a line; the reference's ProgRun. -/
import Derived.Test.YtgfneifejafddaaGreatDoorVal
import Derived.Test.YtgfneifejafddaaGreatDoorPtyS
import Derived.Test.YtgfneifejafddaaGreatDoorMark
import Derived.Test.YtgfneifejafddaaGreatDoorApp
namespace Go.Proofs.YtgfneifejafddaaGreatDoor
set_option maxRecDepth 100000
set_option linter.unusedSimpArgs false
set_option linter.unusedVariables false
open Go.RowKit
attribute [local go_sem] bs_toList bs_get bs_size

abbrev GtN := Gt intRow 1 3
theorem infoInt : (Tryz.prog.info? 3).map (fun i => (i.zero, i.size, i.bytes)) = some (some (.int .i64 0), 1, 8) := by kernel_rfl
theorem rtInt : RowTy intRow 1 3 24 := .of_info (fun _ => rfl) (fun s u hu => by simp [intRow] at hu; subst hu; rfl) (by decide) Tryz.underlying24 infoInt (by decide) rfl
theorem Gt.fr {α : Type} {row : α → List Value} {k B : Nat} {t : TypeId} {w : World} {u : Value} {m : List α} (h : Gt row k t B w u m) (hk : ∀ s, (row s).length = k) : Fr row k t w B u m := Fr.of_owns hk h

def valsE (names : List Bytes) (nums : List Int) : SE → Option (Int × Int)
  | .none => some (0, 0)
  | .slet _ _ e => (e.va names nums).map (fun x => (x, 0))
  | .say e => (e.va names nums).map (fun x => (x, 0))
  | .when a b => match a.va names nums, b.va names nums with | some x, some y => some (x, y) | _, _ => none
open Classical in
noncomputable def smVals (s : Sm) (names : List Bytes) (nums : List Int) : Option (Int × Int) := if h : ∃ t : SE, s = t.sm ∧ t.form then valsE names nums h.choose else none
theorem smVals_se {t : SE} (h : t.form) (names : List Bytes) (nums : List Int) : smVals t.sm names nums = valsE names nums t := by
  have hx : ∃ u : SE, t.sm = u.sm ∧ u.form := ⟨t, rfl, h⟩
  unfold smVals
  rw [dif_pos hx]
  exact congrArg (valsE names nums) (SE.sm_inj hx.choose_spec.1).symm
def letV (s : Sm) (p : Int × Int) : List Int := if s.kind = 1 then [p.1] else []
def saidL (s : Sm) (p : Int × Int) : List Int := if s.kind = 2 then [p.1] else if s.kind = 3 ∧ p.1 ≠ 0 then [p.2] else []
/-- what a program says -/
noncomputable def prR : List Sm → List Bytes → List Int → List Int × Bool
  | [], _, _ => ([], true)
  | s :: r, names, nums => match smVals s names nums with
    | none => ([], false)
    | some p => (saidL s p ++ (prR r (names ++ letN s) (nums ++ letV s p)).1, (prR r (names ++ letN s) (nums ++ letV s p)).2)
noncomputable def prRun (l : List Sm) : List Int × Bool := if progOkB l then prR l [] [] else ([], false)
theorem prR_no {l : List Sm} {j : Nat} {s : Sm} {names : List Bytes} {nums : List Int} (h : l[j]? = some s) (hf : smVals s names nums = none) : prR (l.drop j) names nums = ([], false) := by
  have hi := (List.getElem?_eq_some_iff.1 h).1
  have he : l[j] = s := by rw [List.getElem?_eq_getElem hi] at h; exact Option.some.inj h
  rw [List.drop_eq_getElem_cons hi, he, prR, hf]
theorem prR_yes {l : List Sm} {j : Nat} {s : Sm} {names : List Bytes} {nums : List Int} {p : Int × Int} (h : l[j]? = some s) (hf : smVals s names nums = some p) :
    prR (l.drop j) names nums = (saidL s p ++ (prR (l.drop (j + 1)) (names ++ letN s) (nums ++ letV s p)).1, (prR (l.drop (j + 1)) (names ++ letN s) (nums ++ letV s p)).2) := by
  have hi := (List.getElem?_eq_some_iff.1 h).1
  have he : l[j] = s := by rw [List.getElem?_eq_getElem hi] at h; exact Option.some.inj h
  rw [List.drop_eq_getElem_cons hi, he, prR, hf]
/-- what has been said ahead of line j -/
def Ran (l : List Sm) (j : Nat) (names : List Bytes) (nums out : List Int) : Prop := prR l [] [] = (out ++ (prR (l.drop j) names nums).1, (prR (l.drop j) names nums).2)
theorem Ran.zero (l : List Sm) : Ran l 0 [] [] [] := rfl
theorem Ran.stuck {l : List Sm} {j : Nat} {s : Sm} {names : List Bytes} {nums out : List Int} (h : Ran l j names nums out) (hg : l[j]? = some s) (hf : smVals s names nums = none) : prR l [] [] = (out, false) := by
  rw [h, prR_no hg hf, List.append_nil]
theorem Ran.done {l : List Sm} {names : List Bytes} {nums out : List Int} (h : Ran l l.length names nums out) : prR l [] [] = (out, true) := by
  rw [h, List.drop_length]
  simp [prR]
theorem Ran.step {l : List Sm} {j : Nat} {s : Sm} {names : List Bytes} {nums out : List Int} {p : Int × Int} (h : Ran l j names nums out) (hg : l[j]? = some s) (hf : smVals s names nums = some p) : Ran l (j + 1) (names ++ letN s) (nums ++ letV s p) (out ++ saidL s p) := by
  unfold Ran
  rw [h, prR_yes hg hf, List.append_assoc]
theorem letN_len (s : Sm) : (letN s).length ≤ 1 := by unfold letN; split <;> simp
theorem letV_len (s : Sm) (p : Int × Int) : (letV s p).length = (letN s).length := by unfold letV letN; split <;> rfl
theorem saidL_len (s : Sm) (p : Int × Int) : (saidL s p).length ≤ 1 := by unfold saidL; repeat' split <;> simp
theorem letN_no {s : Sm} (h : s.kind ≠ 1) : letN s = [] := if_neg h
theorem letV_no {s : Sm} (h : s.kind ≠ 1) (p : Int × Int) : letV s p = [] := if_neg h
theorem smVals_zero {s : Sm} (h : formSB s = true) (h0 : s.kind = 0) (names : List Bytes) (nums : List Int) : smVals s names nums = some (0, 0) := by
  obtain ⟨t, rfl, hf⟩ := formSB_iff.1 h
  rw [smVals_se hf]
  cases t <;> simp [SE.sm] at h0
  rfl
/-- both of a line, as the reference tells them -/
def bothE (names : List Bytes) (nums : List Int) : SE → Int × Int × Bool
  | .none => (0, 0, true)
  | .slet _ _ e => match e.va names nums with | some x => (x, 0, true) | none => (0, 0, false)
  | .say e => match e.va names nums with | some x => (x, 0, true) | none => (0, 0, false)
  | .when a b => match a.va names nums with | none => (0, 0, false) | some x => match b.va names nums with | some y => (x, y, true) | none => (x, 0, false)
theorem bothE_vals (names : List Bytes) (nums : List Int) (t : SE) : valsE names nums t = if (bothE names nums t).2.2 = true then some ((bothE names nums t).1, (bothE names nums t).2.1) else none := by
  cases t with
  | none => rfl
  | slet n b e => cases h : e.va names nums <;> simp [valsE, bothE, h]
  | say e => cases h : e.va names nums <;> simp [valsE, bothE, h]
  | when a b => cases h : a.va names nums <;> cases h2 : b.va names nums <;> simp [valsE, bothE, h, h2]
def of3 (p : Int × Int × Bool) : Value := .tuple #[.int .i64 p.1, .int .i64 p.2.1, .bool p.2.2]
theorem spBoth_let (nm : Bytes) (t : Bool) (e : E) (v nv tv : Value) (names : List Bytes) (nums : List Int) (w : World) (hl : names.length = nums.length) (hn0 : names.length ≤ 1000) (hok : e.ok) (hv : SmV w w.heap.size v (SE.slet nm t e).sm) (hnv : SlB w w.heap.size nv names) (htv : SlN w w.heap.size tv nums) :
    Calls Tryz.prog 46 #[v, nv, tv] w fun r w' => r = .returned (of3 (bothE names nums (.slet nm t e))) ∧ Below w.heap.size w w' := by
  obtain ⟨A1, A2, c1, c2, rfl, hn, ht, hE1, hE2⟩ := hv.form2
  simp only [SE.sm] at hn ht hE1 hE2 ⊢
  have TY := Lib.hid (fun (w' : World) (h : Below w.heap.size w w') => spVa_any e _ nv tv names nums w' hl hn0 hok ((hE1.keep h (Nat.le_refl _)).more h.size) (hnv.ext h) (htv.ext h))
  have HR := Lib.hid (show of3 (bothE names nums (.slet nm t e)) = of3 (match e.va names nums with | some x => (x, 0, true) | none => (0, 0, false)) from rfl)
  clear hE1 hE2 hl hnv htv hv hok
  generalize of3 (bothE names nums (.slet nm t e)) = res at *
  generalize e.va names nums = ra at *
  cases ra
  all_goals
    simp only [] at HR
    unfold ofVal at TY
    go_enter Tryz.func46, Tryz.ntmps46
    go_wp2_with fail
    refine (TY.out _ (by (repeat (first | with_reducible assumption | with_reducible exact Below.refl _ _ | with_reducible refine Below.setCell ?_ (by first | omega | (simp; done) | (simp; omega)) _ | with_reducible refine Below.alloc ?_ (by first | omega | (simp; done) | (simp; omega)) _ | with_reducible refine below_drewN ?_ _ | with_reducible refine Below.drew ?_)))).mono ?_
    rintro r w1 ⟨rfl, hb1⟩
    have hz1 := hb1.size
    (try simp at hz1)
    have k1_0 := fun o => hb1.cell (p := ⟨w.heap.size, o, none⟩) (by first | omega | (simp; done) | (simp; omega)); have k1f_0 := fun o => hb1.frozen (p := ⟨w.heap.size, o, none⟩) (by first | omega | (simp; done) | (simp; omega))
    go_wp2_with fail
    refine bodyPost_ret (v := res) (by rw [HR.out]; simp [results, Tryz.results46, go_sem, of3, *]) rfl ⟨rfl, by (repeat (first | with_reducible assumption | with_reducible exact Below.refl _ _ | with_reducible refine Below.setCell ?_ (by first | omega | (simp; done) | (simp; omega)) _ | with_reducible refine Below.alloc ?_ (by first | omega | (simp; done) | (simp; omega)) _ | with_reducible refine below_drewN ?_ _ | with_reducible refine Below.drew ?_ | with_reducible refine Below.trans ?_ (Below.mono hb1 (by first | omega | (simp; done) | (simp; omega)))))⟩
theorem spBoth_say (e : E) (v nv tv : Value) (names : List Bytes) (nums : List Int) (w : World) (hl : names.length = nums.length) (hn0 : names.length ≤ 1000) (hok : e.ok) (hv : SmV w w.heap.size v (SE.say e).sm) (hnv : SlB w w.heap.size nv names) (htv : SlN w w.heap.size tv nums) :
    Calls Tryz.prog 46 #[v, nv, tv] w fun r w' => r = .returned (of3 (bothE names nums (.say e))) ∧ Below w.heap.size w w' := by
  obtain ⟨A1, A2, c1, c2, rfl, hn, ht, hE1, hE2⟩ := hv.form2
  simp only [SE.sm] at hn ht hE1 hE2 ⊢
  have TY := Lib.hid (fun (w' : World) (h : Below w.heap.size w w') => spVa_any e _ nv tv names nums w' hl hn0 hok ((hE1.keep h (Nat.le_refl _)).more h.size) (hnv.ext h) (htv.ext h))
  have HR := Lib.hid (show of3 (bothE names nums (.say e)) = of3 (match e.va names nums with | some x => (x, 0, true) | none => (0, 0, false)) from rfl)
  clear hE1 hE2 hl hnv htv hv hok
  generalize of3 (bothE names nums (.say e)) = res at *
  generalize e.va names nums = ra at *
  cases ra
  all_goals
    simp only [] at HR
    unfold ofVal at TY
    go_enter Tryz.func46, Tryz.ntmps46
    go_wp2_with fail
    refine (TY.out _ (by (repeat (first | with_reducible assumption | with_reducible exact Below.refl _ _ | with_reducible refine Below.setCell ?_ (by first | omega | (simp; done) | (simp; omega)) _ | with_reducible refine Below.alloc ?_ (by first | omega | (simp; done) | (simp; omega)) _ | with_reducible refine below_drewN ?_ _ | with_reducible refine Below.drew ?_)))).mono ?_
    rintro r w1 ⟨rfl, hb1⟩
    have hz1 := hb1.size
    (try simp at hz1)
    have k1_0 := fun o => hb1.cell (p := ⟨w.heap.size, o, none⟩) (by first | omega | (simp; done) | (simp; omega)); have k1f_0 := fun o => hb1.frozen (p := ⟨w.heap.size, o, none⟩) (by first | omega | (simp; done) | (simp; omega))
    go_wp2_with fail
    refine bodyPost_ret (v := res) (by rw [HR.out]; simp [results, Tryz.results46, go_sem, of3, *]) rfl ⟨rfl, by (repeat (first | with_reducible assumption | with_reducible exact Below.refl _ _ | with_reducible refine Below.setCell ?_ (by first | omega | (simp; done) | (simp; omega)) _ | with_reducible refine Below.alloc ?_ (by first | omega | (simp; done) | (simp; omega)) _ | with_reducible refine below_drewN ?_ _ | with_reducible refine Below.drew ?_ | with_reducible refine Below.trans ?_ (Below.mono hb1 (by first | omega | (simp; done) | (simp; omega)))))⟩
theorem spBoth_when (e f : E) (v nv tv : Value) (names : List Bytes) (nums : List Int) (w : World) (hl : names.length = nums.length) (hn0 : names.length ≤ 1000) (hok : e.ok) (hok2 : f.ok) (hv : SmV w w.heap.size v (SE.when e f).sm) (hnv : SlB w w.heap.size nv names) (htv : SlN w w.heap.size tv nums) :
    Calls Tryz.prog 46 #[v, nv, tv] w fun r w' => r = .returned (of3 (bothE names nums (.when e f))) ∧ Below w.heap.size w w' := by
  obtain ⟨A1, A2, c1, c2, rfl, hn, ht, hE1, hE2⟩ := hv.form2
  simp only [SE.sm] at hn ht hE1 hE2 ⊢
  have TY := Lib.hid (fun (w' : World) (h : Below w.heap.size w w') => spVa_any e _ nv tv names nums w' hl hn0 hok ((hE1.keep h (Nat.le_refl _)).more h.size) (hnv.ext h) (htv.ext h))
  have TZ := Lib.hid (fun (w' : World) (h : Below w.heap.size w w') => spVa_any f _ nv tv names nums w' hl hn0 hok2 ((hE2.keep h (Nat.le_refl _)).more h.size) (hnv.ext h) (htv.ext h))
  have HR := Lib.hid (show of3 (bothE names nums (.when e f)) = of3 (match e.va names nums with | none => (0, 0, false) | some x => match f.va names nums with | some y => (x, y, true) | none => (x, 0, false)) from rfl)
  clear hE1 hE2 hl hnv htv hv hok hok2
  generalize of3 (bothE names nums (.when e f)) = res at *
  generalize e.va names nums = ra at *
  generalize f.va names nums = rb at *
  cases ra
  case none =>
    simp only [] at HR
    unfold ofVal at TY
    go_enter Tryz.func46, Tryz.ntmps46
    go_wp2_with fail
    refine (TY.out _ (by (repeat (first | with_reducible assumption | with_reducible exact Below.refl _ _ | with_reducible refine Below.setCell ?_ (by first | omega | (simp; done) | (simp; omega)) _ | with_reducible refine Below.alloc ?_ (by first | omega | (simp; done) | (simp; omega)) _ | with_reducible refine below_drewN ?_ _ | with_reducible refine Below.drew ?_)))).mono ?_
    rintro r w1 ⟨rfl, hb1⟩
    have hz1 := hb1.size
    (try simp at hz1)
    have k1_0 := fun o => hb1.cell (p := ⟨w.heap.size, o, none⟩) (by first | omega | (simp; done) | (simp; omega)); have k1f_0 := fun o => hb1.frozen (p := ⟨w.heap.size, o, none⟩) (by first | omega | (simp; done) | (simp; omega))
    go_wp2_with fail
    refine bodyPost_ret (v := res) (by rw [HR.out]; simp [results, Tryz.results46, go_sem, of3, *]) rfl ⟨rfl, by (repeat (first | with_reducible assumption | with_reducible exact Below.refl _ _ | with_reducible refine Below.setCell ?_ (by first | omega | (simp; done) | (simp; omega)) _ | with_reducible refine Below.alloc ?_ (by first | omega | (simp; done) | (simp; omega)) _ | with_reducible refine below_drewN ?_ _ | with_reducible refine Below.drew ?_ | with_reducible refine Below.trans ?_ (Below.mono hb1 (by first | omega | (simp; done) | (simp; omega)))))⟩
  case some x =>
    cases rb
    all_goals
      simp only [] at HR
      unfold ofVal at TY TZ
      go_enter Tryz.func46, Tryz.ntmps46
      go_wp2_with fail
      refine (TY.out _ (by (repeat (first | with_reducible assumption | with_reducible exact Below.refl _ _ | with_reducible refine Below.setCell ?_ (by first | omega | (simp; done) | (simp; omega)) _ | with_reducible refine Below.alloc ?_ (by first | omega | (simp; done) | (simp; omega)) _ | with_reducible refine below_drewN ?_ _ | with_reducible refine Below.drew ?_)))).mono ?_
      rintro r w1 ⟨rfl, hb1⟩
      have hz1 := hb1.size
      (try simp at hz1)
      have k1_0 := fun o => hb1.cell (p := ⟨w.heap.size, o, none⟩) (by first | omega | (simp; done) | (simp; omega)); have k1f_0 := fun o => hb1.frozen (p := ⟨w.heap.size, o, none⟩) (by first | omega | (simp; done) | (simp; omega))
      go_wp2_with fail
      refine (TZ.out _ (by (repeat (first | with_reducible assumption | with_reducible exact Below.refl _ _ | with_reducible refine Below.setCell ?_ (by first | omega | (simp; done) | (simp; omega)) _ | with_reducible refine Below.alloc ?_ (by first | omega | (simp; done) | (simp; omega)) _ | with_reducible refine below_drewN ?_ _ | with_reducible refine Below.drew ?_ | with_reducible refine Below.trans ?_ (Below.mono hb1 (by first | omega | (simp; done) | (simp; omega))))))).mono ?_
      rintro r w2 ⟨rfl, hb2⟩
      go_wp2_with fail
      refine bodyPost_ret (v := res) (by rw [HR.out]; simp [results, Tryz.results46, go_sem, of3, *]) rfl ⟨rfl, by (repeat (first | with_reducible assumption | with_reducible exact Below.refl _ _ | with_reducible refine Below.setCell ?_ (by first | omega | (simp; done) | (simp; omega)) _ | with_reducible refine Below.alloc ?_ (by first | omega | (simp; done) | (simp; omega)) _ | with_reducible refine below_drewN ?_ _ | with_reducible refine Below.drew ?_ | with_reducible refine Below.trans ?_ (Below.mono hb2 (by first | omega | (simp; done) | (simp; omega))) | with_reducible refine Below.trans ?_ (Below.mono hb1 (by first | omega | (simp; done) | (simp; omega)))))⟩
theorem spBoth_any (s : Sm) (v nv tv : Value) (names : List Bytes) (nums : List Int) (w : World) (hf : formSB s = true) (hk0 : s.kind ≠ 0) (hl : names.length = nums.length) (hn0 : names.length ≤ 1000) (hv : SmV w w.heap.size v s) (hnv : SlB w w.heap.size nv names) (htv : SlN w w.heap.size tv nums) :
    ∃ a b ok, (Calls Tryz.prog 46 #[v, nv, tv] w fun r w' => r = .returned (.tuple #[.int .i64 a, .int .i64 b, .bool ok]) ∧ Below w.heap.size w w') ∧ smVals s names nums = if ok = true then some (a, b) else none := by
  obtain ⟨t, rfl, h⟩ := formSB_iff.1 hf
  rw [smVals_se h]
  refine ⟨(bothE names nums t).1, (bothE names nums t).2.1, (bothE names nums t).2.2, ?_, bothE_vals names nums t⟩
  cases t with
  | none => exact absurd rfl hk0
  | slet n b e => exact spBoth_let n b e v nv tv names nums w hl hn0 h.2.1 hv hnv htv
  | say e => exact spBoth_say e v nv tv names nums w hl hn0 h.1 hv hnv htv
  | when a b => exact spBoth_when a b v nv tv names nums w hl hn0 h.1.1 h.2.1 hv hnv htv
end Go.Proofs.YtgfneifejafddaaGreatDoor
