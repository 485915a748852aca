
/- The law FnExprBare: the walk. -/
import Derived.Test.YtnejngpdplhbhaaDoorDwO
import Derived.Test.YtnejngpdplhbhaaDoorBareW
import Derived.Test.YtnejngpdplhbhaaDoorRdE
import Derived.Test.YtnejngpdplhbhaaDoorOf
import Derived.Test.YtnejngpdplhbhaaDoorPut
import Derived.Test.YtnejngpdplhbhaaDoorSames
namespace Go.Proofs.YtnejngpdplhbhaaDoor
set_option maxRecDepth 100000
set_option linter.unusedSimpArgs false
set_option linter.unusedVariables false
open Go.RowKit
attribute [local go_sem] bs_toList bs_get bs_size

theorem ofVal_two (r : Option Int) : ∃ (n : Int) (b : Bool), ofVal r = .tuple #[.int .i64 n, .bool b] ∧ (r = none → n = 0 ∧ b = false) := by
  cases r with
  | none => exact ⟨0, false, rfl, fun _ => ⟨rfl, rfl⟩⟩
  | some n => exact ⟨n, true, rfl, fun h => by cases h⟩
theorem valX_bare {e : E} (h : e.Ok) (names : List Bytes) (nums : List Int) : valX e.bare.ex names nums = valX e.ex names nums := by
  by_cases hl : names.length = nums.length
  · rw [valX_e (E.bare_Ok h) hl, valX_e h hl, E.va_bare]
  · rw [valX_ne hl, valX_ne hl]
set_option maxHeartbeats 2000000 in
theorem lawEBare (W : World) (v : Value) (cl : List Int) (hv : CodeV W v cl) (hE : Env W) : Calls Tryd.prog 3 #[v] W fun e w' => e = .returned (.bool true) ∧ Below W.heap.size W w' := by
  have DR := Lib.hid (drawOf_any v cl W hv)
  unfold DrewO at DR
  obtain ⟨A, c, rfl, hc, hm⟩ := hv.1.val
  clear hv
  by_cases hlen : (1048576 : Int) < ((cl.length : Nat) : Int)
  · have hd : decide ((1048576 : Int) < ((cl.length : Nat) : Int)) = true := by rw [decide_eq_true_eq]; exact hlen
    go_enter Tryd.func3, Tryd.ntmps3
    go_wp2_with fail
    go_ret
    exact ⟨rfl, Below.refl _ _⟩
  have hd : decide ((1048576 : Int) < ((cl.length : Nat) : Int)) = false := by rw [decide_eq_false_iff_not]; exact hlen
  go_enter Tryd.func3, Tryd.ntmps3
  go_wp2_with fail
  refine DR.out.mono ?_
  rintro e w1 ⟨vx, x, vn, vm, names, nums, rfl, hx1, hn1, hm1, hl4, _, hb1⟩
  obtain ⟨A1, c1, rfl, hc1, hcm1, hs1, hk1⟩ := hx1.form4
  obtain ⟨An, cn, rfl, _, _⟩ := hn1.val
  obtain ⟨Am, cm, rfl, _, _⟩ := hm1.val
  have XV := Lib.hid (fun (w' : World) (h : Below w1.heap.size w1 w') => (hx1.keep h (Nat.le_refl _)).more h.size)
  have NV := Lib.hid (fun (w' : World) (h : Below w1.heap.size w1 w') => (hn1.below h (Nat.le_refl _)).more h.size)
  have MV := Lib.hid (fun (w' : World) (h : Below w1.heap.size w1 w') => (hm1.below h (Nat.le_refl _)).more h.size)
  have EV := Lib.hid (fun (w' : World) (h : Below w1.heap.size w1 w') => hE.ext (hb1.ext h))
  have HN4 := Lib.hid hl4
  have HB1 := Lib.hid hb1
  have hX0 := Blk.new w1 25 (bxE x A1 c1)
  obtain ⟨V1, hV1⟩ : ∃ V, V = w1.alloc (.cells (bxE x A1 c1) 25) := ⟨_, rfl⟩
  have hb1a : Below w1.heap.size w1 V1 := by rw [hV1]; (repeat (first | with_reducible assumption | with_reducible exact Below.refl _ _ | with_reducible refine Below.setCell ?_ (by first | omega | (simp; done) | (simp; omega)) _ | with_reducible refine Below.alloc ?_ (by first | omega | (simp; done) | (simp; omega)) _ | with_reducible refine below_drewN ?_ _ | with_reducible refine Below.drew ?_))
  rw [← hV1] at hX0
  have hzV : w1.heap.size < V1.heap.size := by rw [hV1]; simp
  obtain ⟨n, ok, hov, hov0⟩ := ofVal_two (valX x names nums)
  have HOV := Lib.hid (And.intro hov hov0)
  have OF := Lib.hid (imExprOf_any x _ _ _ names nums V1 (by omega) (XV.out _ hb1a) (NV.out _ hb1a) (MV.out _ hb1a) (EV.out _ hb1a))
  rw [hov] at OF
  have HA := Lib.hid hb1a
  clear hx1 hk1 hn1 hm1 hl4 hb1 hov hov0 DR
  skip; have pa0 := hX0.cell 0; have pa1 := hX0.cell 1; have pa2 := hX0.cell 2; have pa3 := hX0.cell 3; simp at pa0 pa1 pa2 pa3
  simp only [bxE] at hV1
  rw [hV1] at OF pa0 pa1 pa2 pa3
  go_wp2_with fail
  refine OF.out.mono ?_
  rw [← hV1]
  rintro e w2 ⟨rfl, hb2⟩
  skip; replace hX0 := hX0.below hb2 hX0.lt
  have hb12 := HA.out.ext hb2
  have SF := Lib.hid (spExprOf_any x _ _ _ names nums w2 (by have := HN4.out; omega) (XV.out _ hb12) (NV.out _ hb12) (MV.out _ hb12))
  rw [HOV.out.1] at SF
  have HA2 := Lib.hid hb12
  clear OF HA hb12 hb2 hV1
  clear pa0 pa1 pa2 pa3
  skip; have pa0 := hX0.cell 0; have pa1 := hX0.cell 1; have pa2 := hX0.cell 2; have pa3 := hX0.cell 3; simp at pa0 pa1 pa2 pa3
  go_wp2_with fail
  refine SF.out.mono ?_
  rintro e w3 ⟨rfl, hb3⟩
  skip; replace hX0 := hX0.below hb3 hX0.lt
  have hb13 := HA2.out.ext hb3
  have IB := Lib.hid (imExprBare_any x _ w3 (XV.out _ hb13) (EV.out _ hb13))
  have HA3 := Lib.hid hb13
  clear SF HA2 hb13 hb3
  clear pa0 pa1 pa2 pa3
  skip; have pa0 := hX0.cell 0; have pa1 := hX0.cell 1; have pa2 := hX0.cell 2; have pa3 := hX0.cell 3; simp at pa0 pa1 pa2 pa3
  go_wp2_with fail
  refine IB.out.mono ?_
  rintro e w4 ⟨v4, rfl, hM4, hb4⟩
  skip; replace hX0 := hX0.below hb4 hX0.lt
  have hz14 := hX0.lt
  have hb14 := HA3.out.ext hb4
  have HNO := Lib.hid (fun (h : exOkB x = false) => bareX_no h)
  have HYES := Lib.hid (fun (e : E) (h : e.Ok) (q : x = e.ex) => show bareX x = e.bare.ex by rw [q]; exact bareX_e h)
  have SPB := Lib.hid (fun (w' : World) (h : Below w1.heap.size w1 w') => spExprBare_any x _ w' (XV.out _ h))
  obtain ⟨y, hy⟩ : ∃ y, bareX x = y := ⟨_, rfl⟩
  rw [hy] at hM4 HNO HYES SPB
  clear hy
  obtain ⟨A4, c4, rfl, hc4, hcm4, hs4, hk4⟩ := hM4.exv.form4
  have YV := Lib.hid (fun (w' : World) (h : Below w4.heap.size w4 w') => (hM4.exv.keep h (Nat.le_refl _)).more h.size)
  obtain ⟨V4, hV4⟩ : ∃ V, V = w4.alloc (.cells (bxE y A4 c4) 25) := ⟨_, rfl⟩
  have hX4 := Blk.new w4 25 (bxE y A4 c4)
  rw [← hV4] at hX4
  have hb4V : Below w4.heap.size w4 V4 := by rw [hV4]; (repeat (first | with_reducible assumption | with_reducible exact Below.refl _ _ | with_reducible refine Below.setCell ?_ (by first | omega | (simp; done) | (simp; omega)) _ | with_reducible refine Below.alloc ?_ (by first | omega | (simp; done) | (simp; omega)) _ | with_reducible refine below_drewN ?_ _ | with_reducible refine Below.drew ?_))
  have hzV4 : w4.heap.size < V4.heap.size := by rw [hV4]; simp
  skip; replace hX0 := hX0.below hb4V hX0.lt
  have hb1V := hb14.ext hb4V
  have HA4 := Lib.hid (And.intro hb1V hb4V)
  have HX := Lib.hid (And.intro hX0 hX4)
  have KEEP := Lib.hid (show ∀ w' : World, Below V4.heap.size V4 w' → ((w'.cell? ⟨w1.heap.size, 0, none⟩ = some (.int .i64 x.kind) ∧ w'.cell? ⟨w1.heap.size, 1, none⟩ = some (.int .i64 x.n) ∧ w'.cell? ⟨w1.heap.size, 2, none⟩ = some (.string (bs x.s)) ∧ w'.cell? ⟨w1.heap.size, 3, none⟩ = some (.slice A1 x.kids.length c1)) ∧
    (w'.cell? ⟨w4.heap.size, 0, none⟩ = some (.int .i64 y.kind) ∧ w'.cell? ⟨w4.heap.size, 1, none⟩ = some (.int .i64 y.n) ∧ w'.cell? ⟨w4.heap.size, 2, none⟩ = some (.string (bs y.s)) ∧ w'.cell? ⟨w4.heap.size, 3, none⟩ = some (.slice A4 y.kids.length c4))) from fun w' h => by
    have h1 := HX.out.1.below h HX.out.1.lt
    have h5 := HX.out.2.below h HX.out.2.lt
    exact ⟨⟨h1.cell 0, h1.cell 1, h1.cell 2, h1.cell 3⟩, h5.cell 0, h5.cell 1, h5.cell 2, h5.cell 3⟩)
  have hbV0 : Below V4.heap.size V4 V4 := Below.refl _ _
  have EQ := Lib.hid (fun (w' : World) (u : Value) (h : Below V4.heap.size V4 w') (hu : ExV w' w'.heap.size u y) => imSame_any y y _ u w' (YV.out w' (hb4V.ext h)) hu)
  rw [decide_eq_true (rfl : y = y)] at EQ
  simp only [bxE] at hV4
  clear hM4 hk4 hX0 hX4 hb14 hb4 hb4V hb1V IB HA3
  clear pa0 pa1 pa2 pa3
  have HV6 := Lib.hid (fun (w' : World) (h : Below V4.heap.size V4 w') => h)
  subst hV4
  go_wp2_with fail
  go_region_held3 (fun w' => ((w'.cell? ⟨w1.heap.size, 0, none⟩ = some (.int .i64 x.kind) ∧ w'.cell? ⟨w1.heap.size, 1, none⟩ = some (.int .i64 x.n) ∧ w'.cell? ⟨w1.heap.size, 2, none⟩ = some (.string (bs x.s)) ∧ w'.cell? ⟨w1.heap.size, 3, none⟩ = some (.slice A1 x.kids.length c1)) ∧
    (w'.cell? ⟨w4.heap.size, 0, none⟩ = some (.int .i64 y.kind) ∧ w'.cell? ⟨w4.heap.size, 1, none⟩ = some (.int .i64 y.n) ∧ w'.cell? ⟨w4.heap.size, 2, none⟩ = some (.string (bs y.s)) ∧ w'.cell? ⟨w4.heap.size, 3, none⟩ = some (.slice A4 y.kids.length c4))))
    (first | exact KEEP.out _ (by (repeat (first | with_reducible assumption | with_reducible exact Below.refl _ _ | with_reducible refine Below.setCell ?_ (by first | omega | (simp; done) | (simp; omega)) _ | with_reducible refine Below.alloc ?_ (by first | omega | (simp; done) | (simp; omega)) _ | with_reducible refine below_drewN ?_ _ | with_reducible refine Below.drew ?_ | with_reducible refine Below.trans ?_ (Below.mono hb6 (by first | omega | (simp; done) | (simp; omega))) | with_reducible refine Below.trans ?_ (Below.mono hb5 (by first | omega | (simp; done) | (simp; omega)))))) | go_keep)
    (first
      | (go_at_call 11; refine (SPB.out _ (HA4.out.1.ext (by (repeat (first | with_reducible assumption | with_reducible exact Below.refl _ _ | with_reducible refine Below.setCell ?_ (by first | omega | (simp; done) | (simp; omega)) _ | with_reducible refine Below.alloc ?_ (by first | omega | (simp; done) | (simp; omega)) _ | with_reducible refine below_drewN ?_ _ | with_reducible refine Below.drew ?_))))).mono ?_; rintro r w5 ⟨v5, rfl, hD5, hb5⟩; have HV5 := Lib.hid hD5.exv; clear hD5; have hz5 := hb5.size; (try simp at hz5 hzV4))
      | (go_at_call 10; refine (EQ.out _ _ (by (repeat (first | with_reducible assumption | with_reducible exact Below.refl _ _ | with_reducible refine Below.setCell ?_ (by first | omega | (simp; done) | (simp; omega)) _ | with_reducible refine Below.alloc ?_ (by first | omega | (simp; done) | (simp; omega)) _ | with_reducible refine below_drewN ?_ _ | with_reducible refine Below.drew ?_ | with_reducible refine Below.trans ?_ (Below.mono hb5 (by first | omega | (simp; done) | (simp; omega)))))) HV5.out).mono ?_; rintro r w6 ⟨rfl, hb6⟩; have hz6 := hb6.size; (try simp at hz6))
      | fail)
  all_goals
    have hbV6 := HV6.out w6 (by (repeat (first | with_reducible assumption | with_reducible exact Below.refl _ _ | with_reducible refine Below.setCell ?_ (by first | omega | (simp; done) | (simp; omega)) _ | with_reducible refine Below.alloc ?_ (by first | omega | (simp; done) | (simp; omega)) _ | with_reducible refine below_drewN ?_ _ | with_reducible refine Below.drew ?_ | with_reducible refine Below.trans ?_ (Below.mono hb6 (by first | omega | (simp; done) | (simp; omega))) | with_reducible refine Below.trans ?_ (Below.mono hb5 (by first | omega | (simp; done) | (simp; omega))))))
    have hb16 := HA4.out.1.ext hbV6
    have hX0 := HX.out.1.below hbV6 HX.out.1.lt
    have hX4 := HX.out.2.below hbV6 HX.out.2.lt
    have OK := Lib.hid (spOk_any x _ w6 (XV.out _ hb16))
    have HA6 := Lib.hid (And.intro hb16 hbV6)
    have hb6b : Below w6.heap.size w6 w6 := Below.refl _ _
    clear hb5 hb6 hb16 hbV6
    skip; have pa0 := hX0.cell 0; have pa1 := hX0.cell 1; have pa2 := hX0.cell 2; have pa3 := hX0.cell 3; simp at pa0 pa1 pa2 pa3; have pb0 := hX4.cell 0; have pb1 := hX4.cell 1; have pb2 := hX4.cell 2; have pb3 := hX4.cell 3; simp at pb0 pb1 pb2 pb3
    cases hok : exOkB x
    · obtain rfl := HNO.out hok
      obtain ⟨rfl, rfl⟩ := HOV.out.2 (valX_no hok)
      rw [hok] at OK
      have hk0 : Ex.none.kind = 0 := rfl
      rw [hk0] at pb0
      clear hX0 hX4
      go_wp2_with fail
      refine OK.out.mono ?_
      rintro r w7 ⟨rfl, hb7⟩
      have hX4 := (HX.out.2.below HA6.out.2 HX.out.2.lt).below hb7 (HX.out.2.below HA6.out.2 HX.out.2.lt).lt
      have hb17 := HB1.out.ext (HA6.out.1.ext hb7)
      clear pa0 pa1 pa2 pa3 pb0 pb1 pb2 pb3
      skip; have pa0 := hX4.cell 0; have pa1 := hX4.cell 1; have pa2 := hX4.cell 2; have pa3 := hX4.cell 3; simp at pa0 pa1 pa2 pa3
      rw [hk0] at pa0
      clear hX4
      go_wp2_with fail
      go_ret
      exact ⟨rfl, hb17⟩
    · obtain ⟨e, rfl, heo⟩ := E.ok_iff.1 hok
      have hye := HYES.out e heo rfl
      rw [hok] at OK
      have hovb : ofVal (valX y names nums) = .tuple #[.int .i64 n, .bool ok] := by rw [hye, valX_bare heo]; exact HOV.out.1
      have OFb := Lib.hid (fun (w' : World) (h : Below w1.heap.size w1 w') (h4 : Below w4.heap.size w4 w') => imExprOf_any y _ _ _ names nums w' (by have := HN4.out; omega) (YV.out _ h4) (NV.out _ h) (MV.out _ h) (EV.out _ h))
      rw [hovb] at OFb
      have WB := Lib.hid (fun (w' : World) (h : Below w1.heap.size w1 w') (h4 : Below w4.heap.size w4 w') => imExprWords_any e.bare (.agg (bxE y A4 c4)) w' (E.bare_Ok heo) (by rw [← hye]; exact YV.out _ h4) (EV.out _ h))
      simp only [bxE] at WB
      have WE := Lib.hid (fun (w' : World) (h : Below w1.heap.size w1 w') => imExprWords_any e _ w' heo (XV.out _ h) (EV.out _ h))
      have OKB := Lib.hid (fun (w' : World) (h : Below w1.heap.size w1 w') (h4 : Below w4.heap.size w4 w') => imOk_any y _ w' (YV.out _ h4) (EV.out _ h))
      rw [show exOkB y = true by rw [hye]; exact E.ok_iff.2 ⟨e.bare, rfl, E.bare_Ok heo⟩] at OKB
      have BB := Lib.hid (fun (w' : World) (h : Below w1.heap.size w1 w') (h4 : Below w4.heap.size w4 w') => imExprBare_any y _ w' (YV.out _ h4) (EV.out _ h))
      rw [show bareX y = y by rw [hye, bareX_e (E.bare_Ok heo), E.bare_bare]] at BB
      have EQ2 := Lib.hid (fun (w' : World) (u : Value) (h : Below w4.heap.size w4 w') (hu : ExV w' w'.heap.size u y) => imSame_any y y u _ w' hu (YV.out w' h))
      rw [decide_eq_true (rfl : y = y)] at EQ2
      have hnos := E.bare_words_no e 1 heo.1
      have hwl := E.bare_words_len e 1
      have hw130 : (e.words 1).length ≤ 1000 := by have := E.words_len e 1; have := heo.2.2; omega
      generalize e.bare.words 1 = wb at *
      generalize e.words 1 = we at *
      generalize e.ex = x at *
      have HW := Lib.hid (And.intro hnos (And.intro hwl hw130))
      clear hnos hwl hw130 hye hovb HYES HNO hok SPB EQ hX0 hX4
      go_wp2_with fail
      refine OK.out.mono ?_
      rintro r w7 ⟨rfl, hb7⟩
      have HA7 := Lib.hid (And.intro (HA6.out.1.ext hb7) (HA6.out.2.ext hb7))
      clear pa0 pa1 pa2 pa3 pb0 pb1 pb2 pb3
      obtain ⟨⟨pa0, pa1, pa2, pa3⟩, pb0, pb1, pb2, pb3⟩ := KEEP.out w7 HA7.out.2
      have OF7 := Lib.hid (OFb.out w7 HA7.out.1 (HA4.out.2.ext HA7.out.2))
      clear hb7 OFb OK
      go_wp2_with fail
      refine OF7.out.mono ?_
      rintro r w8 ⟨rfl, hb8⟩
      have HA8 := Lib.hid (And.intro (HA7.out.1.ext hb8) (HA7.out.2.ext hb8))
      clear pa0 pa1 pa2 pa3 pb0 pb1 pb2 pb3
      obtain ⟨⟨pa0, pa1, pa2, pa3⟩, pb0, pb1, pb2, pb3⟩ := KEEP.out w8 HA8.out.2
      have W8 := Lib.hid (WB.out w8 HA8.out.1 (HA4.out.2.ext HA8.out.2))
      clear hb8 OF7 WB
      go_wp2_with fail
      refine W8.out.mono ?_
      rintro r w9 ⟨u9, rfl, hS9, hb9⟩
      obtain ⟨A9, c9, rfl, hc9, hcm9⟩ := hS9.val
      have HA9 := Lib.hid (And.intro (HA8.out.1.ext hb9) (HA8.out.2.ext hb9))
      clear pa0 pa1 pa2 pa3 pb0 pb1 pb2 pb3
      clear hb9 W8
      have HC9 := Lib.hid (And.intro hc9 hcm9)
      have hwm : wb.length ≤ 1000 := by have := HW.out; omega
      go_wp2_with fail
      go_loopg [14] wb.length (fun k i wr => ∃ j : Nat, k = wb.length - j ∧ j ≤ wb.length ∧ i = .int .i64 j ∧ Below w9.heap.size w9 wr)
      case atStart => exact ⟨0, by omega, by omega, rfl, Below.refl _ _⟩
      case round =>
        obtain ⟨j, hk, hj, rfl, hbl⟩ := hrel
        have HK := Lib.hid hk
        clear hk
        by_cases hlt : j < wb.length
        · obtain ⟨b, o, s, rfl, hb, hg, f0⟩ := str_at hS9 hlt
          have g0 := f0 ⟨wr, hbl⟩
          obtain ⟨h1, h2, h3⟩ := HW.out.1 s (List.mem_of_getElem? hg)
          have hq1 : (s == [97, 115]) = false := by simpa [cAs] using h1
          have hq2 : (s == [105, 110, 116]) = false := by simpa [cInt] using h2
          have hq3 : (s == [98, 111, 111, 108]) = false := by simpa [cBool] using h3
          clear f0 hg h1 h2 h3 hS9
          go_wp2_with fail
          go_roundg (wb.length - (j + 1))
          case measure => have := HK.out; omega
          case rel => exact ⟨j + 1, rfl, by omega, by go_num, hbl⟩
        · obtain rfl : j = wb.length := by omega
          have HA10 := Lib.hid (And.intro (HA9.out.1.ext hbl) (HA9.out.2.ext hbl))
          obtain ⟨⟨pa0, pa1, pa2, pa3⟩, pb0, pb1, pb2, pb3⟩ := KEEP.out wr HA10.out.2
          have KEEP2 := Lib.hid (fun (w' : World) (h : Below wr.heap.size wr w') => KEEP.out w' (HA10.out.2.ext h))
          clear hbl hS9 KEEP
          go_wp2_with fail
          go_region_held3 (fun w' => ((w'.cell? ⟨w1.heap.size, 0, none⟩ = some (.int .i64 x.kind) ∧ w'.cell? ⟨w1.heap.size, 1, none⟩ = some (.int .i64 x.n) ∧ w'.cell? ⟨w1.heap.size, 2, none⟩ = some (.string (bs x.s)) ∧ w'.cell? ⟨w1.heap.size, 3, none⟩ = some (.slice A1 x.kids.length c1)) ∧
            (w'.cell? ⟨w4.heap.size, 0, none⟩ = some (.int .i64 y.kind) ∧ w'.cell? ⟨w4.heap.size, 1, none⟩ = some (.int .i64 y.n) ∧ w'.cell? ⟨w4.heap.size, 2, none⟩ = some (.string (bs y.s)) ∧ w'.cell? ⟨w4.heap.size, 3, none⟩ = some (.slice A4 y.kids.length c4))))
            (first | exact KEEP2.out _ (by (repeat (first | with_reducible assumption | with_reducible exact Below.refl _ _ | with_reducible refine Below.setCell ?_ (by first | omega | (simp; done) | (simp; omega)) _ | with_reducible refine Below.alloc ?_ (by first | omega | (simp; done) | (simp; omega)) _ | with_reducible refine below_drewN ?_ _ | with_reducible refine Below.drew ?_ | with_reducible refine Below.trans ?_ (Below.mono hb14 (by first | omega | (simp; done) | (simp; omega))) | with_reducible refine Below.trans ?_ (Below.mono hb13 (by first | omega | (simp; done) | (simp; omega))) | with_reducible refine Below.trans ?_ (Below.mono hb12 (by first | omega | (simp; done) | (simp; omega))) | with_reducible refine Below.trans ?_ (Below.mono hb11 (by first | omega | (simp; done) | (simp; omega)))))) | go_keep)
            (first
              | (go_at_call 14; refine (OKB.out _ (HA10.out.1.ext (by (repeat (first | with_reducible assumption | with_reducible exact Below.refl _ _ | with_reducible refine Below.setCell ?_ (by first | omega | (simp; done) | (simp; omega)) _ | with_reducible refine Below.alloc ?_ (by first | omega | (simp; done) | (simp; omega)) _ | with_reducible refine below_drewN ?_ _ | with_reducible refine Below.drew ?_)))) (HA4.out.2.ext (HA10.out.2.ext (by (repeat (first | with_reducible assumption | with_reducible exact Below.refl _ _ | with_reducible refine Below.setCell ?_ (by first | omega | (simp; done) | (simp; omega)) _ | with_reducible refine Below.alloc ?_ (by first | omega | (simp; done) | (simp; omega)) _ | with_reducible refine below_drewN ?_ _ | with_reducible refine Below.drew ?_)))))).mono ?_; rintro r w11 ⟨rfl, hb11⟩; have hz11 := hb11.size; (try simp at hz11))
              | (have tk := hb11; go_at_call 9; refine (BB.out _ (HA10.out.1.ext (by (repeat (first | with_reducible assumption | with_reducible exact Below.refl _ _ | with_reducible refine Below.setCell ?_ (by first | omega | (simp; done) | (simp; omega)) _ | with_reducible refine Below.alloc ?_ (by first | omega | (simp; done) | (simp; omega)) _ | with_reducible refine below_drewN ?_ _ | with_reducible refine Below.drew ?_ | with_reducible refine Below.trans ?_ (Below.mono hb11 (by first | omega | (simp; done) | (simp; omega))))))) (HA4.out.2.ext (HA10.out.2.ext (by (repeat (first | with_reducible assumption | with_reducible exact Below.refl _ _ | with_reducible refine Below.setCell ?_ (by first | omega | (simp; done) | (simp; omega)) _ | with_reducible refine Below.alloc ?_ (by first | omega | (simp; done) | (simp; omega)) _ | with_reducible refine below_drewN ?_ _ | with_reducible refine Below.drew ?_ | with_reducible refine Below.trans ?_ (Below.mono hb11 (by first | omega | (simp; done) | (simp; omega))))))))).mono ?_; rintro r w12 ⟨v12, rfl, hM12, hb12⟩; have HV12 := Lib.hid hM12.exv; clear hM12; have hz12 := hb12.size; (try simp at hz12))
              | (have tk := hb12; go_at_call 10; refine (EQ2.out _ _ (HA4.out.2.ext (HA10.out.2.ext (by (repeat (first | with_reducible assumption | with_reducible exact Below.refl _ _ | with_reducible refine Below.setCell ?_ (by first | omega | (simp; done) | (simp; omega)) _ | with_reducible refine Below.alloc ?_ (by first | omega | (simp; done) | (simp; omega)) _ | with_reducible refine below_drewN ?_ _ | with_reducible refine Below.drew ?_ | with_reducible refine Below.trans ?_ (Below.mono hb12 (by first | omega | (simp; done) | (simp; omega))) | with_reducible refine Below.trans ?_ (Below.mono hb11 (by first | omega | (simp; done) | (simp; omega)))))))) ((HV12.out.keep (B' := _) (by (repeat (first | with_reducible assumption | with_reducible exact Below.refl _ _ | with_reducible refine Below.setCell ?_ (by first | omega | (simp; done) | (simp; omega)) _ | with_reducible refine Below.alloc ?_ (by first | omega | (simp; done) | (simp; omega)) _ | with_reducible refine below_drewN ?_ _ | with_reducible refine Below.drew ?_))) (Nat.le_refl _)).more (by simp))).mono ?_; rintro r w13 ⟨rfl, hb13⟩; have hz13 := hb13.size; (try simp at hz13))
              | (have tk := hb13; go_at_call 13; refine (WE.out _ (HA10.out.1.ext (by (repeat (first | with_reducible assumption | with_reducible exact Below.refl _ _ | with_reducible refine Below.setCell ?_ (by first | omega | (simp; done) | (simp; omega)) _ | with_reducible refine Below.alloc ?_ (by first | omega | (simp; done) | (simp; omega)) _ | with_reducible refine below_drewN ?_ _ | with_reducible refine Below.drew ?_ | with_reducible refine Below.trans ?_ (Below.mono hb13 (by first | omega | (simp; done) | (simp; omega))) | with_reducible refine Below.trans ?_ (Below.mono hb12 (by first | omega | (simp; done) | (simp; omega))) | with_reducible refine Below.trans ?_ (Below.mono hb11 (by first | omega | (simp; done) | (simp; omega)))))))).mono ?_; rintro r w14 ⟨u14, rfl, hS14, hb14⟩; obtain ⟨A14, c14, rfl, hc14, hcm14⟩ := hS14.val; have hz14 := hb14.size; (try simp at hz14); have hle : decide ((wb.length : Int) ≤ (we.length : Int)) = true := (by have := HW.out; simp; omega))
              | fail)
          all_goals
            have hbe : Below W.heap.size W w14 := HB1.out.ext (HA10.out.1.ext (by (repeat (first | with_reducible assumption | with_reducible exact Below.refl _ _ | with_reducible refine Below.setCell ?_ (by first | omega | (simp; done) | (simp; omega)) _ | with_reducible refine Below.alloc ?_ (by first | omega | (simp; done) | (simp; omega)) _ | with_reducible refine below_drewN ?_ _ | with_reducible refine Below.drew ?_ | with_reducible refine Below.trans ?_ (Below.mono hb14 (by first | omega | (simp; done) | (simp; omega))) | with_reducible refine Below.trans ?_ (Below.mono hb13 (by first | omega | (simp; done) | (simp; omega))) | with_reducible refine Below.trans ?_ (Below.mono hb12 (by first | omega | (simp; done) | (simp; omega))) | with_reducible refine Below.trans ?_ (Below.mono hb11 (by first | omega | (simp; done) | (simp; omega)))))))
            have hle2 : decide (wb.length ≤ we.length) = true := by have := HW.out; simp; omega
            rw [hle2]
            go_wp2_with fail
            go_ret
            exact ⟨rfl, hbe⟩
end Go.Proofs.YtnejngpdplhbhaaDoor
