
/- Without types, asked of any tree: the reference's and the program's; marks of one tree. -/
import Derived.Test.YtnejngpdplhbhaaDoorBareI
import Derived.Test.YtnejngpdplhbhaaDoorMks
import Derived.Test.YtnejngpdplhbhaaDoorStLaw
namespace Go.Proofs.YtnejngpdplhbhaaDoor
set_option maxRecDepth 100000
set_option linter.unusedSimpArgs false
set_option linter.unusedVariables false
open Go.RowKit
attribute [local go_sem] bs_toList bs_get bs_size

open Classical in
noncomputable def bareX (x : Ex) : Ex := if h : ∃ e : E, x = e.ex ∧ e.Ok then h.choose.bare.ex else Ex.none
theorem bareX_e {e : E} (h : e.Ok) : bareX e.ex = e.bare.ex := by
  have hx : ∃ e' : E, e.ex = e'.ex ∧ e'.Ok := ⟨e, rfl, h⟩
  unfold bareX
  rw [dif_pos hx]
  exact congrArg (fun q => (E.bare q).ex) (E.ex_inj hx.choose_spec.1).symm
theorem bareX_no {x : Ex} (h : exOkB x = false) : bareX x = Ex.none := by
  unfold bareX
  rw [dif_neg]
  intro hx
  rw [E.ok_iff.2 hx] at h
  cases h
theorem ex_nd : ∀ e : E, e.ex.nd + 1 = e.cnt
  | .num n => by simp [E.ex, Ex.nd_mk, ndL, E.cnt]
  | .nam s => by simp [E.ex, Ex.nd_mk, ndL, E.cnt]
  | .two o a b => by
    have h1 := ex_nd a
    have h2 := ex_nd b
    simp [E.ex, Ex.nd_mk, ndL, E.cnt]
    omega
  | .cast t a => by
    have h1 := ex_nd a
    simp [E.ex, Ex.nd_mk, ndL, E.cnt]
    omega
theorem bareX_nd (x : Ex) : ndL (bareX x).kids ≤ 100 := by
  cases h : exOkB x
  · rw [bareX_no h]
    decide
  · obtain ⟨e, rfl, he⟩ := E.ok_iff.1 h
    rw [bareX_e he, ← Ex.nd_kids]
    have h1 := ex_nd e.bare
    have h2 := (E.bare_Ok he).2.2
    omega
theorem spExprBare_any (x : Ex) (v : Value) (w : World) (hv : ExV w w.heap.size v x) : Calls Tryd.prog 11 #[v] w fun r w' => ∃ v', r = .returned v' ∧ DrE w.heap.size w' v' (bareX x) ∧ Below w.heap.size w w' := by
  obtain ⟨k, n, s, A, c, l, rfl, rfl, hs, hc, hcm, hkv⟩ := id hv.form
  rw [bs_size] at hs
  have OK := Lib.hid (fun (w' : World) (h : Below w.heap.size w w') => spOk_any (.mk k n s l) _ w' ((hv.keep h (Nat.le_refl _)).more h.size))
  cases hok : exOkB (.mk k n s l)
  · rw [hok] at OK
    have HB := Lib.hid (bareX_no hok)
    clear hv hkv hs hok
    go_enter Tryd.func11, Tryd.ntmps11
    go_wp2_with fail
    refine (OK.out _ (by (repeat (first | with_reducible assumption | with_reducible exact Below.refl _ _ | with_reducible refine Below.setCell ?_ (by first | omega | (simp; done) | (simp; omega)) _ | with_reducible refine Below.alloc ?_ (by first | omega | (simp; done) | (simp; omega)) _ | with_reducible refine below_drewN ?_ _ | with_reducible refine Below.drew ?_)))).mono ?_
    rintro r w2 ⟨rfl, hb2⟩
    have hz2 := hb2.size
    simp at hz2
    have k1_0 := fun o => hb2.cell (p := ⟨w.heap.size, o, none⟩) (by first | omega | (simp; done) | (simp; omega)); have k1f_0 := fun o => hb2.frozen (p := ⟨w.heap.size, o, none⟩) (by first | omega | (simp; done) | (simp; omega)); have k1_1 := fun o => hb2.cell (p := ⟨w.heap.size + 1, o, none⟩) (by first | omega | (simp; done) | (simp; omega)); have k1f_1 := fun o => hb2.frozen (p := ⟨w.heap.size + 1, o, none⟩) (by first | omega | (simp; done) | (simp; omega))
    have HD := Lib.hid hb2
    clear hb2 OK
    go_wp2_with fail
    refine bodyPost_ret (v := vEx 0 0 [] (.slice none 0 0)) (by simp [results, Tryd.results11, go_sem, vEx, bs, *]) rfl ?_
    have hb2 := HD.out
    rw [HB.out]
    exact ⟨_, rfl, DrE.of (by simp) (DrK.nil _ _), by (repeat (first | with_reducible assumption | with_reducible exact Below.refl _ _ | with_reducible refine Below.setCell ?_ (by first | omega | (simp; done) | (simp; omega)) _ | with_reducible refine Below.alloc ?_ (by first | omega | (simp; done) | (simp; omega)) _ | with_reducible refine below_drewN ?_ _ | with_reducible refine Below.drew ?_ | with_reducible refine Below.trans ?_ (Below.mono hb2 (by first | omega | (simp; done) | (simp; omega)))))⟩
  · obtain ⟨e, he, hE⟩ := E.ok_iff.1 hok
    rw [hok] at OK
    have BR := Lib.hid (fun (w' : World) (h : Below w.heap.size w w') => spBare_any e (.agg #[.int .i64 k, .int .i64 n, .string (bs s), .slice A l.length c]) w' (by rw [← he]; exact (hv.keep h (Nat.le_refl _)).more h.size))
    have HB := Lib.hid (show bareX (.mk k n s l) = e.bare.ex by rw [he]; exact bareX_e hE)
    clear hv hkv hs hok he hE
    go_enter Tryd.func11, Tryd.ntmps11
    go_wp2_with fail
    refine (OK.out _ (by (repeat (first | with_reducible assumption | with_reducible exact Below.refl _ _ | with_reducible refine Below.setCell ?_ (by first | omega | (simp; done) | (simp; omega)) _ | with_reducible refine Below.alloc ?_ (by first | omega | (simp; done) | (simp; omega)) _ | with_reducible refine below_drewN ?_ _ | with_reducible refine Below.drew ?_)))).mono ?_
    rintro r w2 ⟨rfl, hb2⟩
    have hz2 := hb2.size
    simp at hz2
    have k1_0 := fun o => hb2.cell (p := ⟨w.heap.size, o, none⟩) (by first | omega | (simp; done) | (simp; omega)); have k1f_0 := fun o => hb2.frozen (p := ⟨w.heap.size, o, none⟩) (by first | omega | (simp; done) | (simp; omega)); have k1_1 := fun o => hb2.cell (p := ⟨w.heap.size + 1, o, none⟩) (by first | omega | (simp; done) | (simp; omega)); have k1f_1 := fun o => hb2.frozen (p := ⟨w.heap.size + 1, o, none⟩) (by first | omega | (simp; done) | (simp; omega))
    have hbw2 : Below w.heap.size w w2 := by (repeat (first | with_reducible assumption | with_reducible exact Below.refl _ _ | with_reducible refine Below.setCell ?_ (by first | omega | (simp; done) | (simp; omega)) _ | with_reducible refine Below.alloc ?_ (by first | omega | (simp; done) | (simp; omega)) _ | with_reducible refine below_drewN ?_ _ | with_reducible refine Below.drew ?_ | with_reducible refine Below.trans ?_ (Below.mono hb2 (by first | omega | (simp; done) | (simp; omega)))))
    clear OK
    go_wp2_with fail
    refine (BR.out _ hbw2).mono ?_
    rintro r w3 ⟨v3, rfl, hM3, hb3⟩
    skip
    generalize e.bare.ex = y at *
    obtain ⟨k2, n2, s2, A2, c2, l2, rfl, rfl, hs2, hc2, hm2, hK2⟩ := hM3.form
    have hz3 := hb3.size
    have hbn : Below (w.heap.size + 2) w2 w3 := hb3.mono (by omega)
    have p0 := fun o => (hbn.cell (p := ⟨w.heap.size + 1, o, none⟩) (by first | omega | (simp; done) | (simp only [List.length_cons, List.length_nil, List.length_append]; omega) | (simp; omega))).trans (k1_1 o)
    have p1 := fun o => (hbn.frozen (p := ⟨w.heap.size + 1, o, none⟩) (by first | omega | (simp; done) | (simp only [List.length_cons, List.length_nil, List.length_append]; omega) | (simp; omega))).trans (k1f_1 o)
    have HD := Lib.hid (And.intro hM3 (And.intro hb3 hbw2))
    clear hM3 hb3 hb2 hbw2 hK2 BR hbn
    go_wp2_with fail
    refine bodyPost_ret (v := vEx k2 n2 s2 (.slice A2 l2.length c2)) (by simp [results, Tryd.results11, go_sem, vEx, *]) rfl ?_
    obtain ⟨hM3, hb3, hbw2⟩ := HD.out
    rw [HB.out]
    exact ⟨_, rfl, (hM3.grown (r := some (w.heap.size + 1)) (by (repeat (first | with_reducible assumption | with_reducible exact grown_rfl _ _ | with_reducible refine grown_st ?_ _ _ | with_reducible refine grown_al ?_ _))) (fun q e => by have := Option.some.inj e; omega)).less (by omega), by (repeat (first | with_reducible assumption | with_reducible exact Below.refl _ _ | with_reducible refine Below.setCell ?_ (by first | omega | (simp; done) | (simp; omega)) _ | with_reducible refine Below.alloc ?_ (by first | omega | (simp; done) | (simp; omega)) _ | with_reducible refine below_drewN ?_ _ | with_reducible refine Below.drew ?_ | with_reducible refine Below.trans ?_ (Below.mono hb3 (by first | omega | (simp; done) | (simp; omega))) | with_reducible refine Below.trans ?_ (Below.mono hbw2 (by first | omega | (simp; done) | (simp; omega)))))⟩
theorem imExprBare_any (x : Ex) (v : Value) (w : World) (hv : ExV w w.heap.size v x) (hE : Env w) : Calls Tryd.prog 9 #[v] w fun r w' => ∃ v', r = .returned v' ∧ TrM w.heap.size w'.heap.size w' v' (bareX x) ∧ Below w.heap.size w w' := by
  obtain ⟨k, n, s, A, c, l, rfl, rfl, hs, hc, hcm, hkv⟩ := id hv.form
  rw [bs_size] at hs
  have OK := Lib.hid (fun (w' : World) (h : Below w.heap.size w w') => imOk_any (.mk k n s l) _ w' ((hv.keep h (Nat.le_refl _)).more h.size) (hE.ext h))
  cases hok : exOkB (.mk k n s l)
  · rw [hok] at OK
    have HB := Lib.hid (bareX_no hok)
    clear hv hkv hs hok
    go_enter Tryd.func9, Tryd.ntmps9
    go_wp2_with fail
    refine (OK.out _ (by (repeat (first | with_reducible assumption | with_reducible exact Below.refl _ _ | with_reducible refine Below.setCell ?_ (by first | omega | (simp; done) | (simp; omega)) _ | with_reducible refine Below.alloc ?_ (by first | omega | (simp; done) | (simp; omega)) _ | with_reducible refine below_drewN ?_ _ | with_reducible refine Below.drew ?_)))).mono ?_
    rintro r w2 ⟨rfl, hb2⟩
    have hz2 := hb2.size
    simp at hz2
    have k1_0 := fun o => hb2.cell (p := ⟨w.heap.size, o, none⟩) (by first | omega | (simp; done) | (simp; omega)); have k1f_0 := fun o => hb2.frozen (p := ⟨w.heap.size, o, none⟩) (by first | omega | (simp; done) | (simp; omega)); have k1_1 := fun o => hb2.cell (p := ⟨w.heap.size + 1, o, none⟩) (by first | omega | (simp; done) | (simp; omega)); have k1f_1 := fun o => hb2.frozen (p := ⟨w.heap.size + 1, o, none⟩) (by first | omega | (simp; done) | (simp; omega))
    have HD := Lib.hid hb2
    clear hb2 OK
    go_wp2_with fail
    refine bodyPost_ret (v := vEx 0 0 [] (.slice none 0 0)) (by simp [results, Tryd.results9, go_sem, vEx, bs, *]) rfl ?_
    have hb2 := HD.out
    rw [HB.out]
    exact ⟨_, rfl, TrM.leaf _ _ _ _ _ _ (by simp), by (repeat (first | with_reducible assumption | with_reducible exact Below.refl _ _ | with_reducible refine Below.setCell ?_ (by first | omega | (simp; done) | (simp; omega)) _ | with_reducible refine Below.alloc ?_ (by first | omega | (simp; done) | (simp; omega)) _ | with_reducible refine below_drewN ?_ _ | with_reducible refine Below.drew ?_ | with_reducible refine Below.trans ?_ (Below.mono hb2 (by first | omega | (simp; done) | (simp; omega)))))⟩
  · obtain ⟨e, he, hE⟩ := E.ok_iff.1 hok
    rw [hok] at OK
    have BR := Lib.hid (fun (w' : World) (h : Below w.heap.size w w') => imBare_any e (.agg #[.int .i64 k, .int .i64 n, .string (bs s), .slice A l.length c]) w' (by rw [← he]; exact (hv.keep h (Nat.le_refl _)).more h.size))
    have HB := Lib.hid (show bareX (.mk k n s l) = e.bare.ex by rw [he]; exact bareX_e hE)
    clear hv hkv hs hok he hE
    go_enter Tryd.func9, Tryd.ntmps9
    go_wp2_with fail
    refine (OK.out _ (by (repeat (first | with_reducible assumption | with_reducible exact Below.refl _ _ | with_reducible refine Below.setCell ?_ (by first | omega | (simp; done) | (simp; omega)) _ | with_reducible refine Below.alloc ?_ (by first | omega | (simp; done) | (simp; omega)) _ | with_reducible refine below_drewN ?_ _ | with_reducible refine Below.drew ?_)))).mono ?_
    rintro r w2 ⟨rfl, hb2⟩
    have hz2 := hb2.size
    simp at hz2
    have k1_0 := fun o => hb2.cell (p := ⟨w.heap.size, o, none⟩) (by first | omega | (simp; done) | (simp; omega)); have k1f_0 := fun o => hb2.frozen (p := ⟨w.heap.size, o, none⟩) (by first | omega | (simp; done) | (simp; omega)); have k1_1 := fun o => hb2.cell (p := ⟨w.heap.size + 1, o, none⟩) (by first | omega | (simp; done) | (simp; omega)); have k1f_1 := fun o => hb2.frozen (p := ⟨w.heap.size + 1, o, none⟩) (by first | omega | (simp; done) | (simp; omega))
    have hbw2 : Below w.heap.size w w2 := by (repeat (first | with_reducible assumption | with_reducible exact Below.refl _ _ | with_reducible refine Below.setCell ?_ (by first | omega | (simp; done) | (simp; omega)) _ | with_reducible refine Below.alloc ?_ (by first | omega | (simp; done) | (simp; omega)) _ | with_reducible refine below_drewN ?_ _ | with_reducible refine Below.drew ?_ | with_reducible refine Below.trans ?_ (Below.mono hb2 (by first | omega | (simp; done) | (simp; omega)))))
    clear OK
    go_wp2_with fail
    refine (BR.out _ hbw2).mono ?_
    rintro r w3 ⟨v3, rfl, hM3, hb3⟩
    skip
    generalize e.bare.ex = y at *
    obtain ⟨A2, c2, rfl, hc2, hm2, hs2⟩ := hM3.form
    have hz3 := hb3.size
    have hbn : Below (w.heap.size + 2) w2 w3 := hb3.mono (by omega)
    have p0 := fun o => (hbn.cell (p := ⟨w.heap.size + 1, o, none⟩) (by first | omega | (simp; done) | (simp only [List.length_cons, List.length_nil, List.length_append]; omega) | (simp; omega))).trans (k1_1 o)
    have p1 := fun o => (hbn.frozen (p := ⟨w.heap.size + 1, o, none⟩) (by first | omega | (simp; done) | (simp only [List.length_cons, List.length_nil, List.length_append]; omega) | (simp; omega))).trans (k1f_1 o)
    have HD := Lib.hid (And.intro hM3 (And.intro hb3 hbw2))
    clear hM3 hb3 hb2 hbw2 BR hbn
    go_wp2_with fail
    refine bodyPost_ret (v := vEx y.kind y.n y.s (.slice A2 y.kids.length c2)) (by simp [results, Tryd.results9, go_sem, vEx, *]) rfl ?_
    obtain ⟨hM3, hb3, hbw2⟩ := HD.out
    rw [HB.out]
    refine ⟨_, rfl, (hM3.same (fun b h1 h2 => ?_)).widen (by omega) (by simp), by (repeat (first | with_reducible assumption | with_reducible exact Below.refl _ _ | with_reducible refine Below.setCell ?_ (by first | omega | (simp; done) | (simp; omega)) _ | with_reducible refine Below.alloc ?_ (by first | omega | (simp; done) | (simp; omega)) _ | with_reducible refine below_drewN ?_ _ | with_reducible refine Below.drew ?_ | with_reducible refine Below.trans ?_ (Below.mono hb3 (by first | omega | (simp; done) | (simp; omega))) | with_reducible refine Below.trans ?_ (Below.mono hbw2 (by first | omega | (simp; done) | (simp; omega)))))⟩
    repeat rw [Below.heap_setCell _ _ _ _ (by simp; omega)]
end Go.Proofs.YtnejngpdplhbhaaDoor
