
/- The type of something, asked of any tree: the program's ExprType and the reference's. -/
import Derived.Test.YtnejngpdplhbhaaDoorOkE
import Derived.Test.YtnejngpdplhbhaaDoorLasts
import Derived.Test.YtnejngpdplhbhaaDoorOf
namespace Go.Proofs.YtnejngpdplhbhaaDoor
set_option maxRecDepth 100000
set_option linter.unusedSimpArgs false
set_option linter.unusedVariables false
open Go.RowKit
attribute [local go_sem] bs_toList bs_get bs_size

open Classical in
noncomputable def typX (x : Ex) (names types : List Bytes) : Bytes := if h : (names.length = types.length ∧ types.all typeB = true) ∧ ∃ e : E, x = e.ex ∧ e.Ok then h.2.choose.ty names types else []
theorem typX_e {e : E} {names types : List Bytes} (h : e.Ok) (hl : names.length = types.length) (ht : types.all typeB = true) : typX e.ex names types = e.ty names types := by
  have hx : (names.length = types.length ∧ types.all typeB = true) ∧ ∃ e' : E, e.ex = e'.ex ∧ e'.Ok := ⟨⟨hl, ht⟩, e, rfl, h⟩
  unfold typX
  rw [dif_pos hx]
  exact congrArg (fun q => E.ty names types q) (E.ex_inj hx.2.choose_spec.1).symm
theorem typX_no {x : Ex} {names types : List Bytes} (h : exOkB x = false) : typX x names types = [] := by
  unfold typX
  rw [dif_neg]
  rintro ⟨_, hx⟩
  rw [E.ok_iff.2 hx] at h
  cases h
theorem typX_ne {x : Ex} {names types : List Bytes} (h : names.length ≠ types.length) : typX x names types = [] := by
  unfold typX
  rw [dif_neg (fun hx => h hx.1.1)]
theorem typX_bad {x : Ex} {names types : List Bytes} (h : types.all typeB = false) : typX x names types = [] := by
  unfold typX
  rw [dif_neg (fun hx => by rw [hx.1.2] at h; cases h)]
theorem ty_all {l : List Bytes} (h : ∀ t x, t < l.length → l[t]? = some x → typeB x = true) : l.all typeB = true := by
  rw [List.all_eq_true]
  intro x hx
  obtain ⟨i, hi, rfl⟩ := List.getElem_of_mem hx
  exact h i _ hi (List.getElem?_eq_getElem hi)
theorem ty_not_all {l : List Bytes} {t : Nat} {x : Bytes} (hx : l[t]? = some x) (h : typeB x = false) : l.all typeB = false := by
  rw [List.all_eq_false]
  exact ⟨x, List.mem_of_getElem? hx, by simp [h]⟩
/-- with a type laid upon it -/
def castX (t : Bool) (x : Ex) : Ex := .mk 4 0 (tyB t) [x]
theorem castX_ok {t : Bool} {x : Ex} (h : exOkB (castX t x) = true) : ∃ e : E, x = e.ex ∧ e.Ok ∧ (E.cast t e).Ok := by
  obtain ⟨e, he, ho⟩ := E.ok_iff.1 h
  cases e with
  | num n => simp [castX, E.ex] at he
  | nam s => simp [castX, E.ex] at he
  | two o a b => simp [castX, E.ex] at he
  | cast u a =>
    simp only [castX, E.ex, Ex.mk.injEq, List.cons.injEq, and_true, true_and] at he
    obtain ⟨h1, h2⟩ := he
    obtain rfl := tyB_inj h1
    have h3 := ho.2.1
    have h4 := ho.2.2
    simp only [E.ht] at h3
    simp only [E.cnt] at h4
    exact ⟨a, h2, ⟨ho.1, by omega, by omega⟩, ho⟩
theorem typX_cast {t : Bool} {x : Ex} {names types : List Bytes} (h : exOkB (castX t x) = true) : typX (castX t x) names types = if typX x names types = [] then [] else tyB t := by
  obtain ⟨e, rfl, h1, h2⟩ := castX_ok h
  by_cases hl : names.length = types.length
  · cases ht : types.all typeB
    · rw [typX_bad ht, typX_bad ht, if_pos rfl]
    · rw [show castX t e.ex = (E.cast t e).ex from rfl, typX_e h2 hl ht, typX_e h1 hl ht]
      rfl
  · rw [typX_ne hl, typX_ne hl, if_pos rfl]
theorem valX_cast {t : Bool} {x : Ex} {names : List Bytes} {nums : List Int} (h : exOkB (castX t x) = true) : valX (castX t x) names nums = valX x names nums := by
  obtain ⟨e, rfl, h1, h2⟩ := castX_ok h
  by_cases hl : names.length = nums.length
  · rw [show castX t e.ex = (E.cast t e).ex from rfl, valX_e h2 hl, valX_e h1 hl]
    rfl
  · rw [valX_ne hl, valX_ne hl]
theorem castX_ok2 {t : Bool} {x : Ex} (h : exOkB (castX t x) = true) : exOkB x = true := by
  obtain ⟨e, rfl, h1, h2⟩ := castX_ok h
  exact E.ok_iff.2 ⟨e, rfl, h1⟩
theorem spTypeA_any (s : Bytes) (w : World) : Calls Tryd.prog 38 #[.string (bs s)] w fun e w' => e = .returned (.bool (typeB s)) ∧ w = w' := spType_any s w
theorem imTyp1_any (s : Bytes) (w : World) : Calls Tryd.prog 35 #[.string (bs s)] w fun r w' => r = .returned (.bool (!typeB s)) ∧ w = w' := by
  have C1 := Lib.hid (imType_any s w)
  generalize typeB s = so at *
  go_enter Tryd.func35, Tryd.ntmps35
  go_wp2_with fail
  refine C1.out.mono ?_
  rintro r w1 ⟨rfl, rfl⟩
  go_wp2_with fail
  go_ret
  exact ⟨rfl, rfl⟩
theorem imTypIdx_any (l : List Bytes) (v : Value) (W : World) (hv : SlB W W.heap.size v l) :
    Calls Tryd.prog 55 #[v, .func (.func 35) #[] #[]] W fun r w' => (∃ i : Int, r = .returned (.int .i64 i) ∧ decide (0 ≤ i) = !(l.all typeB)) ∧ Below W.heap.size W w' := by
  obtain ⟨A, c, rfl, hc, hm⟩ := hv.val
  go_enter Tryd.func55, Tryd.ntmps55
  go_wp2_with fail
  go_loopg [8] l.length (fun k i wr => ∃ j : Nat, k = l.length - j ∧ j ≤ l.length ∧ i = .int .i64 j ∧ (∀ t x, t < j → l[t]? = some x → typeB x = true) ∧ Below W.heap.size W wr)
  case atStart => exact ⟨0, by omega, by omega, rfl, fun t x h => by omega, Below.refl _ _⟩
  case round =>
    obtain ⟨j, hk, hj, rfl, ha, hbl⟩ := hrel
    have HK := Lib.hid (And.intro hk ha)
    clear hk ha
    by_cases hlt : j < l.length
    · obtain ⟨b, o, s, rfl, hb, hg, f0⟩ := str_at hv hlt
      have g0 := f0 ⟨wr, hbl⟩
      have HG := Lib.hid hg
      have hcall := imTyp1_any s wr
      clear f0 hg
      by_cases ho : typeB s = true
      · rw [ho] at hcall
        have HC := Lib.hid (And.intro hcall ho)
        clear hcall ho
        go_wp2_with fail
        refine HC.out.1.mono ?_
        rintro r w1 ⟨rfl, rfl⟩
        go_wp2_with fail
        go_roundg (l.length - (j + 1))
        case measure => have := HK.out.1; omega
        case rel => exact ⟨j + 1, rfl, by omega, by go_num, fun t x ht hx => by
          by_cases e : t = j
          · subst e
            rw [HG.out] at hx
            obtain rfl := Option.some.inj hx
            exact HC.out.2
          · exact HK.out.2 t x (by omega) hx, hbl⟩
      · have ho2 : typeB s = false := by simpa using ho
        rw [ho2] at hcall
        have HC := Lib.hid (And.intro hcall ho2)
        clear hcall ho ho2
        go_wp2_with fail
        refine HC.out.1.mono ?_
        rintro r w1 ⟨rfl, rfl⟩
        go_wp2_with fail
        go_ret
        exact ⟨⟨_, rfl, by rw [ty_not_all HG.out HC.out.2]; simp⟩, hbl⟩
    · obtain rfl : j = l.length := by omega
      go_wp2_with fail
      go_ret
      exact ⟨⟨_, rfl, by rw [ty_all HK.out.2]; simp⟩, hbl⟩
theorem imTypCon_any (l : List Bytes) (v : Value) (W : World) (hv : SlB W W.heap.size v l) :
    Calls Tryd.prog 34 #[v, .func (.func 35) #[] #[]] W fun r w' => r = .returned (.bool (!(l.all typeB))) ∧ Below W.heap.size W w' := by
  have C1 := Lib.hid (imTypIdx_any l v W hv)
  obtain ⟨A, c, rfl, hc, hm⟩ := hv.val
  generalize l.all typeB = q at *
  go_enter Tryd.func34, Tryd.ntmps34
  go_wp2_with fail
  refine C1.out.mono ?_
  rintro r w1 ⟨⟨i, rfl, hi⟩, hb1⟩
  go_wp2_with fail
  go_ret
  exact ⟨rfl, hb1⟩
set_option maxHeartbeats 1000000 in
theorem spExprType_any (x : Ex) (v nv tv : Value) (names types : List Bytes) (w : World) (hn1 : names.length ≤ 1000) (hv : ExV w w.heap.size v x) (hn : SlB w w.heap.size nv names) (ht : SlB w w.heap.size tv types) :
    Calls Tryd.prog 18 #[v, nv, tv] w fun r w' => r = .returned (.string (bs (typX x names types))) ∧ Below w.heap.size w w' := by
  obtain ⟨kv, rfl, hs, hk⟩ := id hv
  obtain ⟨A, c, rfl, hc, hm⟩ := hk.val
  have OK := Lib.hid (fun (w' : World) (h : Below w.heap.size w w') => spOk_any x _ w' ((hv.keep h (Nat.le_refl _)).more h.size))
  obtain ⟨An, cn, rfl, hcn, hmn⟩ := hn.val
  obtain ⟨At, ct, rfl, hct, hmt⟩ := ht.val
  cases hok : exOkB x
  · have HR := Lib.hid (typX_no (names := names) (types := types) hok)
    rw [hok] at OK
    clear hv hk hn ht hok
    go_enter Tryd.func18, Tryd.ntmps18
    go_wp2_with fail
    refine (OK.out _ (by (repeat (first | with_reducible assumption | with_reducible exact Below.refl _ _ | with_reducible refine Below.setCell ?_ (by first | omega | (simp; done) | (simp; omega)) _ | with_reducible refine Below.alloc ?_ (by first | omega | (simp; done) | (simp; omega)) _ | with_reducible refine below_drewN ?_ _ | with_reducible refine Below.drew ?_)))).mono ?_
    rintro r w1 ⟨rfl, hb1⟩
    go_wp2_with fail
    go_ret
    exact ⟨ret_bs (by rw [HR.out]), by (repeat (first | with_reducible assumption | with_reducible exact Below.refl _ _ | with_reducible refine Below.setCell ?_ (by first | omega | (simp; done) | (simp; omega)) _ | with_reducible refine Below.alloc ?_ (by first | omega | (simp; done) | (simp; omega)) _ | with_reducible refine below_drewN ?_ _ | with_reducible refine Below.drew ?_ | with_reducible refine Below.trans ?_ (Below.mono hb1 (by first | omega | (simp; done) | (simp; omega)))))⟩
  · by_cases hl : names.length = types.length
    rotate_left
    · have HR := Lib.hid (typX_ne (x := x) hl)
      have hnb : ((names.length : Int) == (types.length : Int)) = false := by rw [beq_eq_false_iff_ne]; omega
      rw [hok] at OK
      clear hv hk hn ht hok
      go_enter Tryd.func18, Tryd.ntmps18
      go_wp2_with fail
      refine (OK.out _ (by (repeat (first | with_reducible assumption | with_reducible exact Below.refl _ _ | with_reducible refine Below.setCell ?_ (by first | omega | (simp; done) | (simp; omega)) _ | with_reducible refine Below.alloc ?_ (by first | omega | (simp; done) | (simp; omega)) _ | with_reducible refine below_drewN ?_ _ | with_reducible refine Below.drew ?_)))).mono ?_
      rintro r w1 ⟨rfl, hb1⟩
      go_wp2_with fail
      go_ret
      exact ⟨ret_bs (by rw [HR.out]), by (repeat (first | with_reducible assumption | with_reducible exact Below.refl _ _ | with_reducible refine Below.setCell ?_ (by first | omega | (simp; done) | (simp; omega)) _ | with_reducible refine Below.alloc ?_ (by first | omega | (simp; done) | (simp; omega)) _ | with_reducible refine below_drewN ?_ _ | with_reducible refine Below.drew ?_ | with_reducible refine Below.trans ?_ (Below.mono hb1 (by first | omega | (simp; done) | (simp; omega)))))⟩
    · obtain ⟨e, rfl, heo⟩ := E.ok_iff.1 hok
      have VA := Lib.hid (fun (w' : World) (h : Below w.heap.size w w') => spTy_any e _ _ _ names types w' hl hn1 ((hv.keep h (Nat.le_refl _)).more h.size) ((hn.below h (Nat.le_refl _)).more h.size) ((ht.below h (Nat.le_refl _)).more h.size))
      have hnb : ((names.length : Int) != (types.length : Int)) = false := by simp [hl]
      have HX := Lib.hid (And.intro heo hl)
      rw [hok] at OK
      have hB1 := Blk.new w 25 #[.int .i64 e.ex.kind, .int .i64 e.ex.n, .string (bs e.ex.s), .slice A e.ex.kids.length c]
      clear hv hk hn hok hl
      go_enter Tryd.func18, Tryd.ntmps18
      go_wp2_with fail
      refine (OK.out _ (by (repeat (first | with_reducible assumption | with_reducible exact Below.refl _ _ | with_reducible refine Below.setCell ?_ (by first | omega | (simp; done) | (simp; omega)) _ | with_reducible refine Below.alloc ?_ (by first | omega | (simp; done) | (simp; omega)) _ | with_reducible refine below_drewN ?_ _ | with_reducible refine Below.drew ?_)))).mono ?_
      rintro r w1 ⟨rfl, hb1⟩
      skip; replace hB1 := hB1.below hb1 hB1.lt
      have hbw1 : Below w.heap.size w w1 := by (repeat (first | with_reducible assumption | with_reducible exact Below.refl _ _ | with_reducible refine Below.setCell ?_ (by first | omega | (simp; done) | (simp; omega)) _ | with_reducible refine Below.alloc ?_ (by first | omega | (simp; done) | (simp; omega)) _ | with_reducible refine below_drewN ?_ _ | with_reducible refine Below.drew ?_ | with_reducible refine Below.trans ?_ (Below.mono hb1 (by first | omega | (simp; done) | (simp; omega)))))
      clear hb1
      go_wp2_with fail
      go_loopg [7] types.length (fun k i wr => ∃ j : Nat, k = types.length - j ∧ j ≤ types.length ∧ i = .int .i64 j ∧ (∀ t x, t < j → types[t]? = some x → typeB x = true) ∧ Below w1.heap.size w1 wr)
      case atStart => exact ⟨0, by omega, by omega, rfl, fun t x h => by omega, Below.refl _ _⟩
      case round =>
        obtain ⟨j, hk, hj, rfl, ha, hbl⟩ := hrel
        have HK := Lib.hid (And.intro hk ha)
        have hbw := hbw1.ext hbl
        clear hk ha
        by_cases hlt : j < types.length
        · obtain ⟨b, o, s, rfl, hb, hg, f0⟩ := str_at ht hlt
          have g0 := f0 ⟨wr, hbw⟩
          have HG := Lib.hid hg
          clear f0 hg
          by_cases ho : typeB s = true
          · have hcall := spType_any s wr
            rw [ho] at hcall
            have HC := Lib.hid (And.intro hcall ho)
            clear hcall ho
            go_wp2_with fail
            refine HC.out.1.mono ?_
            rintro r w2 ⟨rfl, rfl⟩
            go_wp2_with fail
            go_roundg (types.length - (j + 1))
            case measure => have := HK.out.1; omega
            case rel => exact ⟨j + 1, rfl, by omega, by go_num, fun t x ht hx => by
              by_cases e : t = j
              · subst e
                rw [HG.out] at hx
                obtain rfl := Option.some.inj hx
                exact HC.out.2
              · exact HK.out.2 t x (by omega) hx, hbl⟩
          · have ho2 : typeB s = false := by simpa using ho
            have hcall := spType_any s wr
            rw [ho2] at hcall
            have HC := Lib.hid (And.intro hcall ho2)
            clear hcall ho ho2
            go_wp2_with fail
            refine HC.out.1.mono ?_
            rintro r w2 ⟨rfl, rfl⟩
            go_wp2_with fail
            go_ret
            exact ⟨ret_bs (by rw [typX_bad (ty_not_all HG.out HC.out.2)]), hbw⟩
        · obtain rfl : j = types.length := by omega
          have HT := Lib.hid (typX_e HX.out.1 HX.out.2 (ty_all HK.out.2))
          skip; replace hB1 := hB1.below hbl hB1.lt
          skip; have pa0 := hB1.cell 0; have pa1 := hB1.cell 1; have pa2 := hB1.cell 2; have pa3 := hB1.cell 3; simp at pa0 pa1 pa2 pa3
          have VA2 := Lib.hid (VA.out wr hbw)
          generalize E.ty names types e = ty at *
          clear ht VA
          go_wp2_with fail
          refine VA2.out.mono ?_
          rintro r w2 ⟨rfl, hb2⟩
          go_wp2_with fail
          go_ret
          exact ⟨ret_bs HT.out.symm, hbw.ext hb2⟩
set_option maxHeartbeats 1000000 in
theorem imExprType_any (x : Ex) (v nv tv : Value) (names types : List Bytes) (w : World) (hn1 : names.length ≤ 1000) (hv : ExV w w.heap.size v x) (hn : SlB w w.heap.size nv names) (ht : SlB w w.heap.size tv types) (hE : Env w) :
    Calls Tryd.prog 17 #[v, nv, tv] w fun r w' => r = .returned (.string (bs (typX x names types))) ∧ Below w.heap.size w w' := by
  obtain ⟨kv, rfl, hs, hk⟩ := id hv
  obtain ⟨A, c, rfl, hc, hm⟩ := hk.val
  have OK := Lib.hid (fun (w' : World) (h : Below w.heap.size w w') => imOk_any x _ w' ((hv.keep h (Nat.le_refl _)).more h.size) (hE.ext h))
  have CN := Lib.hid (fun (w' : World) (h : Below w.heap.size w w') => imTypCon_any types _ w' ((ht.below h (Nat.le_refl _)).more h.size))
  obtain ⟨An, cn, rfl, hcn, hmn⟩ := hn.val
  obtain ⟨At, ct, rfl, hct, hmt⟩ := ht.val
  cases hok : exOkB x
  · have HR := Lib.hid (typX_no (names := names) (types := types) hok)
    rw [hok] at OK
    clear hv hk hn ht hok
    go_enter Tryd.func17, Tryd.ntmps17
    go_wp2_with fail
    refine (OK.out _ (by (repeat (first | with_reducible assumption | with_reducible exact Below.refl _ _ | with_reducible refine Below.setCell ?_ (by first | omega | (simp; done) | (simp; omega)) _ | with_reducible refine Below.alloc ?_ (by first | omega | (simp; done) | (simp; omega)) _ | with_reducible refine below_drewN ?_ _ | with_reducible refine Below.drew ?_)))).mono ?_
    rintro r w1 ⟨rfl, hb1⟩
    go_wp2_with fail
    go_ret
    exact ⟨ret_bs (by rw [HR.out]), by (repeat (first | with_reducible assumption | with_reducible exact Below.refl _ _ | with_reducible refine Below.setCell ?_ (by first | omega | (simp; done) | (simp; omega)) _ | with_reducible refine Below.alloc ?_ (by first | omega | (simp; done) | (simp; omega)) _ | with_reducible refine below_drewN ?_ _ | with_reducible refine Below.drew ?_ | with_reducible refine Below.trans ?_ (Below.mono hb1 (by first | omega | (simp; done) | (simp; omega)))))⟩
  · by_cases hl : names.length = types.length
    rotate_left
    · have HR := Lib.hid (typX_ne (x := x) hl)
      have hnb : ((names.length : Int) == (types.length : Int)) = false := by rw [beq_eq_false_iff_ne]; omega
      rw [hok] at OK
      clear hv hk hn ht hok
      go_enter Tryd.func17, Tryd.ntmps17
      go_wp2_with fail
      refine (OK.out _ (by (repeat (first | with_reducible assumption | with_reducible exact Below.refl _ _ | with_reducible refine Below.setCell ?_ (by first | omega | (simp; done) | (simp; omega)) _ | with_reducible refine Below.alloc ?_ (by first | omega | (simp; done) | (simp; omega)) _ | with_reducible refine below_drewN ?_ _ | with_reducible refine Below.drew ?_)))).mono ?_
      rintro r w1 ⟨rfl, hb1⟩
      go_wp2_with fail
      go_ret
      exact ⟨ret_bs (by rw [HR.out]), by (repeat (first | with_reducible assumption | with_reducible exact Below.refl _ _ | with_reducible refine Below.setCell ?_ (by first | omega | (simp; done) | (simp; omega)) _ | with_reducible refine Below.alloc ?_ (by first | omega | (simp; done) | (simp; omega)) _ | with_reducible refine below_drewN ?_ _ | with_reducible refine Below.drew ?_ | with_reducible refine Below.trans ?_ (Below.mono hb1 (by first | omega | (simp; done) | (simp; omega)))))⟩
    · obtain ⟨e, rfl, heo⟩ := E.ok_iff.1 hok
      have VA := Lib.hid (fun (w' : World) (h : Below w.heap.size w w') => imTy_any e _ _ _ names types w' hl hn1 ((hv.keep h (Nat.le_refl _)).more h.size) ((hn.below h (Nat.le_refl _)).more h.size) ((ht.below h (Nat.le_refl _)).more h.size))
      have hnb : ((names.length : Int) != (types.length : Int)) = false := by simp [hl]
      have HX := Lib.hid (And.intro heo hl)
      rw [hok] at OK
      have hB1 := Blk.new w 25 #[.int .i64 e.ex.kind, .int .i64 e.ex.n, .string (bs e.ex.s), .slice A e.ex.kids.length c]
      clear hv hk hn ht hok hl
      cases hta : types.all typeB
      · have HR := Lib.hid (typX_bad (x := e.ex) (names := names) hta)
        rw [hta] at CN
        go_enter Tryd.func17, Tryd.ntmps17
        go_wp2_with fail
        refine (OK.out _ (by (repeat (first | with_reducible assumption | with_reducible exact Below.refl _ _ | with_reducible refine Below.setCell ?_ (by first | omega | (simp; done) | (simp; omega)) _ | with_reducible refine Below.alloc ?_ (by first | omega | (simp; done) | (simp; omega)) _ | with_reducible refine below_drewN ?_ _ | with_reducible refine Below.drew ?_)))).mono ?_
        rintro r w1 ⟨rfl, hb1⟩
        have hbw1 : Below w.heap.size w w1 := by (repeat (first | with_reducible assumption | with_reducible exact Below.refl _ _ | with_reducible refine Below.setCell ?_ (by first | omega | (simp; done) | (simp; omega)) _ | with_reducible refine Below.alloc ?_ (by first | omega | (simp; done) | (simp; omega)) _ | with_reducible refine below_drewN ?_ _ | with_reducible refine Below.drew ?_ | with_reducible refine Below.trans ?_ (Below.mono hb1 (by first | omega | (simp; done) | (simp; omega)))))
        go_wp2_with fail
        refine (CN.out _ hbw1).mono ?_
        rintro r w2 ⟨rfl, hb2⟩
        go_wp2_with fail
        go_ret
        exact ⟨ret_bs (by rw [HR.out]), hbw1.ext hb2⟩
      · have HT := Lib.hid (typX_e HX.out.1 HX.out.2 hta)
        rw [hta] at CN
        generalize E.ty names types e = ty at *
        go_enter Tryd.func17, Tryd.ntmps17
        go_wp2_with fail
        refine (OK.out _ (by (repeat (first | with_reducible assumption | with_reducible exact Below.refl _ _ | with_reducible refine Below.setCell ?_ (by first | omega | (simp; done) | (simp; omega)) _ | with_reducible refine Below.alloc ?_ (by first | omega | (simp; done) | (simp; omega)) _ | with_reducible refine below_drewN ?_ _ | with_reducible refine Below.drew ?_)))).mono ?_
        rintro r w1 ⟨rfl, hb1⟩
        skip; replace hB1 := hB1.below hb1 hB1.lt
        have hbw1 : Below w.heap.size w w1 := by (repeat (first | with_reducible assumption | with_reducible exact Below.refl _ _ | with_reducible refine Below.setCell ?_ (by first | omega | (simp; done) | (simp; omega)) _ | with_reducible refine Below.alloc ?_ (by first | omega | (simp; done) | (simp; omega)) _ | with_reducible refine below_drewN ?_ _ | with_reducible refine Below.drew ?_ | with_reducible refine Below.trans ?_ (Below.mono hb1 (by first | omega | (simp; done) | (simp; omega)))))
        clear hb1
        go_wp2_with fail
        refine (CN.out _ hbw1).mono ?_
        rintro r w2 ⟨rfl, hb2⟩
        skip; replace hB1 := hB1.below hb2 hB1.lt
        skip; have pa0 := hB1.cell 0; have pa1 := hB1.cell 1; have pa2 := hB1.cell 2; have pa3 := hB1.cell 3; simp at pa0 pa1 pa2 pa3
        go_wp2_with fail
        refine (VA.out _ (hbw1.ext hb2)).mono ?_
        rintro r w3 ⟨rfl, hb3⟩
        go_wp2_with fail
        go_ret
        exact ⟨ret_bs HT.out.symm, (hbw1.ext hb2).ext hb3⟩
end Go.Proofs.YtnejngpdplhbhaaDoor
