
/- Whether a line has the types that it must have: plain Lean, and the reference's and the program's. -/
import Derived.Test.YtdobcfekjmobhaaGreatDoorLasts
import Derived.Test.YtdobcfekjmobhaaGreatDoorImSOk
namespace Go.Proofs.YtdobcfekjmobhaaGreatDoor
set_option maxRecDepth 100000
set_option linter.unusedSimpArgs false
set_option linter.unusedVariables false
open Go.RowKit
attribute [local go_sem] bs_toList bs_get bs_size

def fitsE (names types : List Bytes) : SE → Bool
  | .none => true
  | .slet _ t e => e.ty names types == tyB t
  | .say e => !(e.ty names types == [])
  | .when a b => a.ty names types == cBool && !(b.ty names types == [])
open Classical in
noncomputable def smFits (s : Sm) (names types : List Bytes) : Bool := if h : ∃ t : SE, s = t.sm ∧ t.form then fitsE names types h.choose else false
theorem smFits_se {t : SE} (h : t.form) (names types : List Bytes) : smFits t.sm names types = fitsE names types t := by
  have hx : ∃ u : SE, t.sm = u.sm ∧ u.form := ⟨t, rfl, h⟩
  unfold smFits
  rw [dif_pos hx]
  exact congrArg (fitsE names types) (SE.sm_inj hx.choose_spec.1).symm
def letN (s : Sm) : List Bytes := if s.kind = 1 then [s.name] else []
def letT (s : Sm) : List Bytes := if s.kind = 1 then [s.typ] else []
/-- the first line that is not as it must be -/
noncomputable def prT : List Sm → Nat → List Bytes → List Bytes → Int
  | [], _, _, _ => -1
  | s :: r, i, names, types => if smFits s names types then prT r (i + 1) (names ++ letN s) (types ++ letT s) else i
theorem prT_no {l : List Sm} {j : Nat} {s : Sm} {names types : List Bytes} (h : l[j]? = some s) (hf : smFits s names types = false) : prT (l.drop j) j names types = j := by
  have hi := (List.getElem?_eq_some_iff.1 h).1
  have he : l[j] = s := by rw [List.getElem?_eq_getElem hi] at h; exact Option.some.inj h
  rw [List.drop_eq_getElem_cons hi, he, prT, hf]
  rfl
theorem prT_yes {l : List Sm} {j : Nat} {s : Sm} {names types : List Bytes} (h : l[j]? = some s) (hf : smFits s names types = true) : prT (l.drop j) j names types = prT (l.drop (j + 1)) (j + 1) (names ++ letN s) (types ++ letT s) := by
  have hi := (List.getElem?_eq_some_iff.1 h).1
  have he : l[j] = s := by rw [List.getElem?_eq_getElem hi] at h; exact Option.some.inj h
  rw [List.drop_eq_getElem_cons hi, he, prT, hf]
  rfl
theorem spFits_none (v nv tv : Value) (names types : List Bytes) (w : World) (hv : SmV w w.heap.size v SE.none.sm) :
    Calls Tryz.prog 69 #[v, nv, tv] w fun r w' => r = .returned (.bool true) ∧ Below w.heap.size w w' := by
  obtain ⟨A1, A2, c1, c2, rfl, hn, ht, hE1, hE2⟩ := hv.form2
  simp only [SE.sm] at hn ht hE1 hE2 ⊢
  clear hE1 hE2
  go_enter Tryz.func69, Tryz.ntmps69
  go_wp2_with fail
  go_ret
  exact ⟨rfl, by (repeat (first | with_reducible assumption | with_reducible exact Below.refl _ _ | with_reducible refine Below.setCell ?_ (by first | omega | (simp; done) | (simp; omega)) _ | with_reducible refine Below.alloc ?_ (by first | omega | (simp; done) | (simp; omega)) _ | with_reducible refine below_drewN ?_ _ | with_reducible refine Below.drew ?_))⟩
theorem spFits_let (nm : Bytes) (t : Bool) (e : E) (v nv tv : Value) (names types : List Bytes) (w : World) (hl : names.length = types.length) (hn0 : names.length ≤ 1000) (hv : SmV w w.heap.size v (SE.slet nm t e).sm) (hnv : SlB w w.heap.size nv names) (htv : SlB w w.heap.size tv types) :
    Calls Tryz.prog 69 #[v, nv, tv] w fun r w' => r = .returned (.bool (fitsE names types (.slet nm t e))) ∧ Below w.heap.size w w' := by
  obtain ⟨A1, A2, c1, c2, rfl, hn, ht, hE1, hE2⟩ := hv.form2
  simp only [SE.sm] at hn ht hE1 hE2 ⊢
  have TY := Lib.hid (fun (w' : World) (h : Below w.heap.size w w') => spTy_any e _ nv tv names types w' hl hn0 ((hE1.keep h (Nat.le_refl _)).more h.size) (hnv.ext h) (htv.ext h))
  have HR := Lib.hid (show fitsE names types (.slet nm t e) = (e.ty names types == tyB t) from rfl)
  clear hE1 hE2 hl hnv htv hv
  generalize fitsE names types (.slet nm t e) = res at *
  generalize e.ty names types = ra at *
  generalize tyB t = tb at *
  by_cases hq : ra = tb
  · subst hq
    go_enter Tryz.func69, Tryz.ntmps69
    go_wp2_with fail
    refine (TY.out _ (by (repeat (first | with_reducible assumption | with_reducible exact Below.refl _ _ | with_reducible refine Below.setCell ?_ (by first | omega | (simp; done) | (simp; omega)) _ | with_reducible refine Below.alloc ?_ (by first | omega | (simp; done) | (simp; omega)) _ | with_reducible refine below_drewN ?_ _ | with_reducible refine Below.drew ?_)))).mono ?_
    rintro r w1 ⟨rfl, hb1⟩
    have hz1 := hb1.size
    (try simp at hz1)
    have k1_0 := fun o => hb1.cell (p := ⟨w.heap.size, o, none⟩) (by first | omega | (simp; done) | (simp; omega)); have k1f_0 := fun o => hb1.frozen (p := ⟨w.heap.size, o, none⟩) (by first | omega | (simp; done) | (simp; omega))
    go_wp2_with fail
    go_ret
    exact ⟨ret_bool (by rw [HR.out]; simp), by (repeat (first | with_reducible assumption | with_reducible exact Below.refl _ _ | with_reducible refine Below.setCell ?_ (by first | omega | (simp; done) | (simp; omega)) _ | with_reducible refine Below.alloc ?_ (by first | omega | (simp; done) | (simp; omega)) _ | with_reducible refine below_drewN ?_ _ | with_reducible refine Below.drew ?_ | with_reducible refine Below.trans ?_ (Below.mono hb1 (by first | omega | (simp; done) | (simp; omega)))))⟩
  · have d1 : (ra == tb) = false := by simpa using hq
    rw [d1] at HR
    have HQ := Lib.hid hq
    clear hq
    go_enter Tryz.func69, Tryz.ntmps69
    go_wp2_with fail
    refine (TY.out _ (by (repeat (first | with_reducible assumption | with_reducible exact Below.refl _ _ | with_reducible refine Below.setCell ?_ (by first | omega | (simp; done) | (simp; omega)) _ | with_reducible refine Below.alloc ?_ (by first | omega | (simp; done) | (simp; omega)) _ | with_reducible refine below_drewN ?_ _ | with_reducible refine Below.drew ?_)))).mono ?_
    rintro r w1 ⟨rfl, hb1⟩
    have hz1 := hb1.size
    (try simp at hz1)
    have k1_0 := fun o => hb1.cell (p := ⟨w.heap.size, o, none⟩) (by first | omega | (simp; done) | (simp; omega)); have k1f_0 := fun o => hb1.frozen (p := ⟨w.heap.size, o, none⟩) (by first | omega | (simp; done) | (simp; omega))
    go_wp2_with fail
    go_ret
    exact ⟨ret_bool (by rw [HR.out]), by (repeat (first | with_reducible assumption | with_reducible exact Below.refl _ _ | with_reducible refine Below.setCell ?_ (by first | omega | (simp; done) | (simp; omega)) _ | with_reducible refine Below.alloc ?_ (by first | omega | (simp; done) | (simp; omega)) _ | with_reducible refine below_drewN ?_ _ | with_reducible refine Below.drew ?_ | with_reducible refine Below.trans ?_ (Below.mono hb1 (by first | omega | (simp; done) | (simp; omega)))))⟩
theorem spFits_say (e : E) (v nv tv : Value) (names types : List Bytes) (w : World) (hl : names.length = types.length) (hn0 : names.length ≤ 1000) (hv : SmV w w.heap.size v (SE.say e).sm) (hnv : SlB w w.heap.size nv names) (htv : SlB w w.heap.size tv types) :
    Calls Tryz.prog 69 #[v, nv, tv] w fun r w' => r = .returned (.bool (fitsE names types (.say e))) ∧ Below w.heap.size w w' := by
  obtain ⟨A1, A2, c1, c2, rfl, hn, ht, hE1, hE2⟩ := hv.form2
  simp only [SE.sm] at hn ht hE1 hE2 ⊢
  have TY := Lib.hid (fun (w' : World) (h : Below w.heap.size w w') => spTy_any e _ nv tv names types w' hl hn0 ((hE1.keep h (Nat.le_refl _)).more h.size) (hnv.ext h) (htv.ext h))
  have HR := Lib.hid (show fitsE names types (.say e) = !(e.ty names types == []) from rfl)
  clear hE1 hE2 hl hnv htv hv
  generalize fitsE names types (.say e) = res at *
  generalize e.ty names types = ra at *
  by_cases hq : ra = []
  · subst hq
    go_enter Tryz.func69, Tryz.ntmps69
    go_wp2_with fail
    refine (TY.out _ (by (repeat (first | with_reducible assumption | with_reducible exact Below.refl _ _ | with_reducible refine Below.setCell ?_ (by first | omega | (simp; done) | (simp; omega)) _ | with_reducible refine Below.alloc ?_ (by first | omega | (simp; done) | (simp; omega)) _ | with_reducible refine below_drewN ?_ _ | with_reducible refine Below.drew ?_)))).mono ?_
    rintro r w1 ⟨rfl, hb1⟩
    have hz1 := hb1.size
    (try simp at hz1)
    have k1_0 := fun o => hb1.cell (p := ⟨w.heap.size, o, none⟩) (by first | omega | (simp; done) | (simp; omega)); have k1f_0 := fun o => hb1.frozen (p := ⟨w.heap.size, o, none⟩) (by first | omega | (simp; done) | (simp; omega))
    go_wp2_with fail
    go_ret
    exact ⟨ret_bool (by rw [HR.out]; rfl), by (repeat (first | with_reducible assumption | with_reducible exact Below.refl _ _ | with_reducible refine Below.setCell ?_ (by first | omega | (simp; done) | (simp; omega)) _ | with_reducible refine Below.alloc ?_ (by first | omega | (simp; done) | (simp; omega)) _ | with_reducible refine below_drewN ?_ _ | with_reducible refine Below.drew ?_ | with_reducible refine Below.trans ?_ (Below.mono hb1 (by first | omega | (simp; done) | (simp; omega)))))⟩
  · have d1 : (ra == []) = false := by simpa using hq
    rw [d1] at HR
    have HQ := Lib.hid hq
    clear hq
    go_enter Tryz.func69, Tryz.ntmps69
    go_wp2_with fail
    refine (TY.out _ (by (repeat (first | with_reducible assumption | with_reducible exact Below.refl _ _ | with_reducible refine Below.setCell ?_ (by first | omega | (simp; done) | (simp; omega)) _ | with_reducible refine Below.alloc ?_ (by first | omega | (simp; done) | (simp; omega)) _ | with_reducible refine below_drewN ?_ _ | with_reducible refine Below.drew ?_)))).mono ?_
    rintro r w1 ⟨rfl, hb1⟩
    have hz1 := hb1.size
    (try simp at hz1)
    have k1_0 := fun o => hb1.cell (p := ⟨w.heap.size, o, none⟩) (by first | omega | (simp; done) | (simp; omega)); have k1f_0 := fun o => hb1.frozen (p := ⟨w.heap.size, o, none⟩) (by first | omega | (simp; done) | (simp; omega))
    go_wp2_with fail
    go_ret
    exact ⟨ret_bool (by rw [HR.out]; rfl), by (repeat (first | with_reducible assumption | with_reducible exact Below.refl _ _ | with_reducible refine Below.setCell ?_ (by first | omega | (simp; done) | (simp; omega)) _ | with_reducible refine Below.alloc ?_ (by first | omega | (simp; done) | (simp; omega)) _ | with_reducible refine below_drewN ?_ _ | with_reducible refine Below.drew ?_ | with_reducible refine Below.trans ?_ (Below.mono hb1 (by first | omega | (simp; done) | (simp; omega)))))⟩
theorem spFits_when (e f : E) (v nv tv : Value) (names types : List Bytes) (w : World) (hl : names.length = types.length) (hn0 : names.length ≤ 1000) (hv : SmV w w.heap.size v (SE.when e f).sm) (hnv : SlB w w.heap.size nv names) (htv : SlB w w.heap.size tv types) :
    Calls Tryz.prog 69 #[v, nv, tv] w fun r w' => r = .returned (.bool (fitsE names types (.when e f))) ∧ Below w.heap.size w w' := by
  obtain ⟨A1, A2, c1, c2, rfl, hn, ht, hE1, hE2⟩ := hv.form2
  simp only [SE.sm] at hn ht hE1 hE2 ⊢
  have TY := Lib.hid (fun (w' : World) (h : Below w.heap.size w w') => spTy_any e _ nv tv names types w' hl hn0 ((hE1.keep h (Nat.le_refl _)).more h.size) (hnv.ext h) (htv.ext h))
  have TZ := Lib.hid (fun (w' : World) (h : Below w.heap.size w w') => spTy_any f _ nv tv names types w' hl hn0 ((hE2.keep h (Nat.le_refl _)).more h.size) (hnv.ext h) (htv.ext h))
  have HR := Lib.hid (show fitsE names types (.when e f) = (e.ty names types == cBool && !(f.ty names types == [])) from rfl)
  clear hE1 hE2 hl hnv htv hv
  generalize fitsE names types (.when e f) = res at *
  generalize e.ty names types = ra at *
  generalize f.ty names types = rb at *
  by_cases hq : ra = cBool
  rotate_left
  · have d1 : (ra == [98, 111, 111, 108]) = false := by simpa [cBool] using hq
    have HQ := Lib.hid hq
    clear hq TZ
    go_enter Tryz.func69, Tryz.ntmps69
    go_wp2_with fail
    refine (TY.out _ (by (repeat (first | with_reducible assumption | with_reducible exact Below.refl _ _ | with_reducible refine Below.setCell ?_ (by first | omega | (simp; done) | (simp; omega)) _ | with_reducible refine Below.alloc ?_ (by first | omega | (simp; done) | (simp; omega)) _ | with_reducible refine below_drewN ?_ _ | with_reducible refine Below.drew ?_)))).mono ?_
    rintro r w1 ⟨rfl, hb1⟩
    have hz1 := hb1.size
    (try simp at hz1)
    have k1_0 := fun o => hb1.cell (p := ⟨w.heap.size, o, none⟩) (by first | omega | (simp; done) | (simp; omega)); have k1f_0 := fun o => hb1.frozen (p := ⟨w.heap.size, o, none⟩) (by first | omega | (simp; done) | (simp; omega))
    go_wp2_with fail
    go_ret
    exact ⟨ret_bool (by rw [HR.out, show (ra == cBool) = false by simpa using HQ.out]; rfl), by (repeat (first | with_reducible assumption | with_reducible exact Below.refl _ _ | with_reducible refine Below.setCell ?_ (by first | omega | (simp; done) | (simp; omega)) _ | with_reducible refine Below.alloc ?_ (by first | omega | (simp; done) | (simp; omega)) _ | with_reducible refine below_drewN ?_ _ | with_reducible refine Below.drew ?_ | with_reducible refine Below.trans ?_ (Below.mono hb1 (by first | omega | (simp; done) | (simp; omega)))))⟩
  · subst hq
    by_cases hq : rb = []
    · subst hq
      go_enter Tryz.func69, Tryz.ntmps69
      go_wp2_with fail
      refine (TY.out _ (by (repeat (first | with_reducible assumption | with_reducible exact Below.refl _ _ | with_reducible refine Below.setCell ?_ (by first | omega | (simp; done) | (simp; omega)) _ | with_reducible refine Below.alloc ?_ (by first | omega | (simp; done) | (simp; omega)) _ | with_reducible refine below_drewN ?_ _ | with_reducible refine Below.drew ?_)))).mono ?_
      rintro r w1 ⟨rfl, hb1⟩
      have hz1 := hb1.size
      (try simp at hz1)
      have k1_0 := fun o => hb1.cell (p := ⟨w.heap.size, o, none⟩) (by first | omega | (simp; done) | (simp; omega)); have k1f_0 := fun o => hb1.frozen (p := ⟨w.heap.size, o, none⟩) (by first | omega | (simp; done) | (simp; omega))
      unfold cBool
      go_wp2_with fail
      refine (TZ.out _ (by (repeat (first | with_reducible assumption | with_reducible exact Below.refl _ _ | with_reducible refine Below.setCell ?_ (by first | omega | (simp; done) | (simp; omega)) _ | with_reducible refine Below.alloc ?_ (by first | omega | (simp; done) | (simp; omega)) _ | with_reducible refine below_drewN ?_ _ | with_reducible refine Below.drew ?_ | with_reducible refine Below.trans ?_ (Below.mono hb1 (by first | omega | (simp; done) | (simp; omega))))))).mono ?_
      rintro r w2 ⟨rfl, hb2⟩
      go_wp2_with fail
      go_ret
      exact ⟨ret_bool (by rw [HR.out]; rfl), by (repeat (first | with_reducible assumption | with_reducible exact Below.refl _ _ | with_reducible refine Below.setCell ?_ (by first | omega | (simp; done) | (simp; omega)) _ | with_reducible refine Below.alloc ?_ (by first | omega | (simp; done) | (simp; omega)) _ | with_reducible refine below_drewN ?_ _ | with_reducible refine Below.drew ?_ | with_reducible refine Below.trans ?_ (Below.mono hb2 (by first | omega | (simp; done) | (simp; omega))) | with_reducible refine Below.trans ?_ (Below.mono hb1 (by first | omega | (simp; done) | (simp; omega)))))⟩
    · have d1 : (rb == []) = false := by simpa using hq
      have HQ := Lib.hid hq
      clear hq
      go_enter Tryz.func69, Tryz.ntmps69
      go_wp2_with fail
      refine (TY.out _ (by (repeat (first | with_reducible assumption | with_reducible exact Below.refl _ _ | with_reducible refine Below.setCell ?_ (by first | omega | (simp; done) | (simp; omega)) _ | with_reducible refine Below.alloc ?_ (by first | omega | (simp; done) | (simp; omega)) _ | with_reducible refine below_drewN ?_ _ | with_reducible refine Below.drew ?_)))).mono ?_
      rintro r w1 ⟨rfl, hb1⟩
      have hz1 := hb1.size
      (try simp at hz1)
      have k1_0 := fun o => hb1.cell (p := ⟨w.heap.size, o, none⟩) (by first | omega | (simp; done) | (simp; omega)); have k1f_0 := fun o => hb1.frozen (p := ⟨w.heap.size, o, none⟩) (by first | omega | (simp; done) | (simp; omega))
      unfold cBool
      go_wp2_with fail
      refine (TZ.out _ (by (repeat (first | with_reducible assumption | with_reducible exact Below.refl _ _ | with_reducible refine Below.setCell ?_ (by first | omega | (simp; done) | (simp; omega)) _ | with_reducible refine Below.alloc ?_ (by first | omega | (simp; done) | (simp; omega)) _ | with_reducible refine below_drewN ?_ _ | with_reducible refine Below.drew ?_ | with_reducible refine Below.trans ?_ (Below.mono hb1 (by first | omega | (simp; done) | (simp; omega))))))).mono ?_
      rintro r w2 ⟨rfl, hb2⟩
      go_wp2_with fail
      go_ret
      exact ⟨ret_bool (by rw [HR.out, d1]; rfl), by (repeat (first | with_reducible assumption | with_reducible exact Below.refl _ _ | with_reducible refine Below.setCell ?_ (by first | omega | (simp; done) | (simp; omega)) _ | with_reducible refine Below.alloc ?_ (by first | omega | (simp; done) | (simp; omega)) _ | with_reducible refine below_drewN ?_ _ | with_reducible refine Below.drew ?_ | with_reducible refine Below.trans ?_ (Below.mono hb2 (by first | omega | (simp; done) | (simp; omega))) | with_reducible refine Below.trans ?_ (Below.mono hb1 (by first | omega | (simp; done) | (simp; omega)))))⟩
theorem spFits_any (s : Sm) (v nv tv : Value) (names types : List Bytes) (w : World) (hf : formSB s = true) (hl : names.length = types.length) (hn0 : names.length ≤ 1000) (hv : SmV w w.heap.size v s) (hnv : SlB w w.heap.size nv names) (htv : SlB w w.heap.size tv types) :
    Calls Tryz.prog 69 #[v, nv, tv] w fun r w' => r = .returned (.bool (smFits s names types)) ∧ Below w.heap.size w w' := by
  obtain ⟨t, rfl, h⟩ := formSB_iff.1 hf
  rw [smFits_se h]
  cases t with
  | none => exact spFits_none v nv tv names types w hv
  | slet nm ty e => exact spFits_let nm ty e v nv tv names types w hl hn0 hv hnv htv
  | say e => exact spFits_say e v nv tv names types w hl hn0 hv hnv htv
  | when a b => exact spFits_when a b v nv tv names types w hl hn0 hv hnv htv
/-! ### the program's -/
theorem imTon_none (v nv tv : Value) (w : World) (hv : ExV w w.heap.size v Ex.none) : Calls Tryz.prog 67 #[v, nv, tv] w fun r w' => r = .returned (.string (bs [])) ∧ Below w.heap.size w w' := by
  have C1 := Lib.hid (fun (w' : World) (h : Below w.heap.size w w') => imNone_any Ex.none v w' ((hv.keep h (Nat.le_refl _)).more h.size))
  rw [decide_eq_true rfl] at C1
  obtain ⟨k, m, s, A, c, l, he, rfl, hs, hc, hm, hk⟩ := hv.form
  clear hk he hv
  go_enter Tryz.func67, Tryz.ntmps67
  go_wp2_with fail
  refine (C1.out _ (by (repeat (first | with_reducible assumption | with_reducible exact Below.refl _ _ | with_reducible refine Below.setCell ?_ (by first | omega | (simp; done) | (simp; omega)) _ | with_reducible refine Below.alloc ?_ (by first | omega | (simp; done) | (simp; omega)) _ | with_reducible refine below_drewN ?_ _ | with_reducible refine Below.drew ?_)))).mono ?_
  rintro r w1 ⟨rfl, hb1⟩
  go_wp2_with fail
  go_ret
  exact ⟨rfl, by (repeat (first | with_reducible assumption | with_reducible exact Below.refl _ _ | with_reducible refine Below.setCell ?_ (by first | omega | (simp; done) | (simp; omega)) _ | with_reducible refine Below.alloc ?_ (by first | omega | (simp; done) | (simp; omega)) _ | with_reducible refine below_drewN ?_ _ | with_reducible refine Below.drew ?_ | with_reducible refine Below.trans ?_ (Below.mono hb1 (by first | omega | (simp; done) | (simp; omega)))))⟩
theorem E.ex_ne (e : E) : e.ex ≠ Ex.none := by cases e <;> simp [E.ex, Ex.none]
theorem imTon_any (e : E) (v nv tv : Value) (names types : List Bytes) (w : World) (hl : names.length = types.length) (hn0 : names.length ≤ 1000) (hv : ExV w w.heap.size v e.ex) (hnv : SlB w w.heap.size nv names) (htv : SlB w w.heap.size tv types) :
    Calls Tryz.prog 67 #[v, nv, tv] w fun r w' => r = .returned (.string (bs (e.ty names types))) ∧ Below w.heap.size w w' := by
  have C1 := Lib.hid (fun (w' : World) (h : Below w.heap.size w w') => imNone_any e.ex v w' ((hv.keep h (Nat.le_refl _)).more h.size))
  rw [decide_eq_false e.ex_ne] at C1
  have TY := Lib.hid (fun (w' : World) (h : Below w.heap.size w w') => imTy_any e v nv tv names types w' hl hn0 ((hv.keep h (Nat.le_refl _)).more h.size) (hnv.ext h) (htv.ext h))
  obtain ⟨k, m, s, A, c, l, he, rfl, hs, hc, hm, hk⟩ := hv.form
  clear hk he hv hl hnv htv
  generalize e.ty names types = ra at *
  go_enter Tryz.func67, Tryz.ntmps67
  go_wp2_with fail
  refine (C1.out _ (by (repeat (first | with_reducible assumption | with_reducible exact Below.refl _ _ | with_reducible refine Below.setCell ?_ (by first | omega | (simp; done) | (simp; omega)) _ | with_reducible refine Below.alloc ?_ (by first | omega | (simp; done) | (simp; omega)) _ | with_reducible refine below_drewN ?_ _ | with_reducible refine Below.drew ?_)))).mono ?_
  rintro r w1 ⟨rfl, hb1⟩
  have hz1 := hb1.size
  (try simp at hz1)
  have k1_0 := fun o => hb1.cell (p := ⟨w.heap.size, o, none⟩) (by first | omega | (simp; done) | (simp; omega)); have k1f_0 := fun o => hb1.frozen (p := ⟨w.heap.size, o, none⟩) (by first | omega | (simp; done) | (simp; omega))
  go_wp2_with fail
  refine (TY.out _ (by (repeat (first | with_reducible assumption | with_reducible exact Below.refl _ _ | with_reducible refine Below.setCell ?_ (by first | omega | (simp; done) | (simp; omega)) _ | with_reducible refine Below.alloc ?_ (by first | omega | (simp; done) | (simp; omega)) _ | with_reducible refine below_drewN ?_ _ | with_reducible refine Below.drew ?_ | with_reducible refine Below.trans ?_ (Below.mono hb1 (by first | omega | (simp; done) | (simp; omega))))))).mono ?_
  rintro r w2 ⟨rfl, hb2⟩
  go_wp2_with fail
  go_ret
  exact ⟨rfl, by (repeat (first | with_reducible assumption | with_reducible exact Below.refl _ _ | with_reducible refine Below.setCell ?_ (by first | omega | (simp; done) | (simp; omega)) _ | with_reducible refine Below.alloc ?_ (by first | omega | (simp; done) | (simp; omega)) _ | with_reducible refine below_drewN ?_ _ | with_reducible refine Below.drew ?_ | with_reducible refine Below.trans ?_ (Below.mono hb2 (by first | omega | (simp; done) | (simp; omega))) | with_reducible refine Below.trans ?_ (Below.mono hb1 (by first | omega | (simp; done) | (simp; omega)))))⟩
end Go.Proofs.YtdobcfekjmobhaaGreatDoor
