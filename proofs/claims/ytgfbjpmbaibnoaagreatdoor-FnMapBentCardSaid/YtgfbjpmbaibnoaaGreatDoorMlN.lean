
/- The law FnMapBent: the walk. -/
import Derived.Test.YtgfbjpmbaibnoaaGreatDoorZm1
import Derived.Test.YtgfbjpmbaibnoaaGreatDoorZm10
import Derived.Test.YtgfbjpmbaibnoaaGreatDoorZm9
import Derived.Test.YtgfbjpmbaibnoaaGreatDoorMapRdI
namespace Go.Proofs.YtgfbjpmbaibnoaaGreatDoor
set_option maxRecDepth 100000
set_option linter.unusedSimpArgs false
set_option linter.unusedVariables false
open Go.RowKit
attribute [local go_sem] bs_toList bs_get bs_size

def MrN (w : World) (e : Ending) (w' : World) : Prop := ∃ u, e = .returned (.tuple #[u, .bool false]) ∧ Below w.heap.size w w'
theorem MrP.bent {s : Bytes} {c : UInt8} (hc : c = 61 ∨ c = 44 ∨ c = 63) {w w' : World} {e : Ending} (h : MrP (s ++ [c]) w e w') : MrN w e w' := by
  obtain ⟨u, rfl, _, hb⟩ := h
  exact ⟨u, by rw [rdMapB_bent s hc], hb⟩
set_option maxHeartbeats 1000000 in
theorem lawMBent (W : World) (v : Value) (cl : List Int) (hv : CodeV W v cl) (hM : MaxM W) : Calls Tryz.prog 9 #[v] W fun e w' => e = .returned (.bool true) ∧ Below W.heap.size W w' := by
  have DR := Lib.hid (drawLook_any v cl W hv)
  obtain ⟨A, c, rfl, hc, hm⟩ := hv.1.val
  clear hv
  obtain ⟨b1, hb1⟩ : ∃ b, decide ((1048576 : Int) < ((cl.length : Nat) : Int)) = b := ⟨_, rfl⟩
  cases b1
  rotate_left
  · clear hM
    go_enter Tryz.func9, Tryz.ntmps9
    go_wp2_with fail
    go_ret
    exact ⟨rfl, Below.refl _ _⟩
  have HMX := Lib.hid hM
  clear hM
  go_enter Tryz.func9, Tryz.ntmps9
  go_wp2_with fail
  refine DR.out.mono ?_
  rintro r w1 ⟨u, m, p1, p2, rfl, hG, hml, hbw1⟩
  have hS := hG.sl (fun _ => rfl)
  obtain ⟨Au, cu, rfl, _, _⟩ := hG.val
  obtain ⟨qa, qb, qt, hq⟩ := lookV_form (mapLookL m (p1, p2))
  have CI := Lib.hid (fun (w' : World) (h : Below w1.heap.size w1 w') => hq ▸ imMapLook_any _ m p1 p2 w' (hS.ext h))
  have CS := Lib.hid (fun (w' : World) (h : Below w1.heap.size w1 w') => hq ▸ spMapLook_any _ m p1 p2 w' (hS.ext h))
  have CK := Lib.hid (fun (w' : World) (h : Below w1.heap.size w1 w') => spSegsOk_any w' _ m (hS.ext h))
  have TI := Lib.hid (fun (w' : World) (h : Below w1.heap.size w1 w') => imMapTxt_any _ m w' (hS.ext h))
  have TS := Lib.hid (fun (w' : World) (h : Below w1.heap.size w1 w') => spText_any _ m w' (hS.ext h))
  have BI := Lib.hid (fun (w' : World) (h : Below w1.heap.size w1 w') => imMapBack_any _ m p1 p2 w' (hS.ext h))
  have RI := Lib.hid (fun (s : Bytes) (w' : World) (hs : s.length ≤ 100000000) (h : Below w1.heap.size w1 w') => imMapRead_any s w' hs (HMX.out.ext (hbw1.ext h)))
  have HQ := Lib.hid (lookV_of hq)
  have hse : segsOkB m = true ∨ segsOkB m = false := by cases segsOkB m <;> simp
  have HOK := Lib.hid (fun (h : ¬ SegsOk m) => And.intro (mapTextL_no h) (And.intro (mapLookL_no h (p1, p2)) (mapBackL_no h (p1, p2))))
  have htl := mapTextL_len m
  have HT0 := Lib.hid (show ∃ z, z = mapTextL m from ⟨_, rfl⟩)
  obtain ⟨tx, htx⟩ := HT0.out
  have HTX := Lib.hid htx
  rw [← htx] at TI TS htl
  have htt : (tx != tx) = false := by simp
  clear hG DR hb1 hq htx HT0 hS
  go_upto_region 4 with fail
  generalize hWB : World.alloc w1 _ = wB
  have hbB : Below w1.heap.size w1 wB := by rw [← hWB]; (repeat (first | with_reducible assumption | with_reducible exact Below.refl _ _ | with_reducible refine Below.setCell ?_ (by first | omega | (simp; done) | (simp; omega)) _ | with_reducible refine Below.alloc ?_ (by first | omega | (simp; done) | (simp; omega)) _ | with_reducible refine below_drewN ?_ _ | with_reducible refine Below.drew ?_))
  have k0 : wB.cell? ⟨w1.heap.size, 0, none⟩ = some (.int .i64 p1) := by rw [← hWB]; simp [go_sem]
  have k1 : wB.cell? ⟨w1.heap.size, 1, none⟩ = some (.int .i64 p2) := by rw [← hWB]; simp [go_sem]
  clear hWB
  go_wp2_with fail
  refine (TI.out _ hbB).mono ?_
  rintro r w2 ⟨rfl, hb2⟩
  have hb12 := hbB.ext hb2
  skip; replace k0 := hb2.keepc k0; replace k1 := hb2.keepc k1
  go_wp2_with fail
  refine (CI.out _ hb12).mono ?_
  rintro r w3 ⟨rfl, hb3⟩
  have hb13 := hb12.ext hb3
  skip; replace k0 := hb3.keepc k0; replace k1 := hb3.keepc k1
  go_upto_region 6 with fail
  generalize hWC : World.alloc w3 _ = wC
  have hbC : Below w3.heap.size w3 wC := by rw [← hWC]; (repeat (first | with_reducible assumption | with_reducible exact Below.refl _ _ | with_reducible refine Below.setCell ?_ (by first | omega | (simp; done) | (simp; omega)) _ | with_reducible refine Below.alloc ?_ (by first | omega | (simp; done) | (simp; omega)) _ | with_reducible refine below_drewN ?_ _ | with_reducible refine Below.drew ?_))
  clear hWC
  have hb1C := hb13.ext hbC
  skip; replace k0 := hbC.keepc k0; replace k1 := hbC.keepc k1
  go_wp2_with fail
  refine (CS.out _ hb1C).mono ?_
  rintro r w4 ⟨rfl, hb4⟩
  have hb14 := hb1C.ext hb4
  skip; replace k0 := hb4.keepc k0; replace k1 := hb4.keepc k1
  go_upto_region 7 with fail
  generalize hWD : World.alloc w4 _ = wD
  have hbD : Below w4.heap.size w4 wD := by rw [← hWD]; (repeat (first | with_reducible assumption | with_reducible exact Below.refl _ _ | with_reducible refine Below.setCell ?_ (by first | omega | (simp; done) | (simp; omega)) _ | with_reducible refine Below.alloc ?_ (by first | omega | (simp; done) | (simp; omega)) _ | with_reducible refine below_drewN ?_ _ | with_reducible refine Below.drew ?_))
  clear hWD
  have hb1D := hb14.ext hbD
  skip; replace k0 := hbD.keepc k0; replace k1 := hbD.keepc k1
  have hqt : (qt != qt) = false := by simp
  go_wp2_with fail
  refine (TS.out _ hb1D).mono ?_
  rintro r w5 ⟨rfl, hb5⟩
  have hb15 := hb1D.ext hb5
  skip; replace k0 := hb5.keepc k0; replace k1 := hb5.keepc k1
  have CK1 := Lib.hid (CK.out _ hb15)
  by_cases hok : SegsOk m
  rotate_left
  · rw [segsOkB_no hok] at CK1
    have ho := HOK.out hok
    have hqf : qt = false := by
      rcases HQ.out with ⟨_, h⟩ | ⟨h, _⟩
      · rw [ho.2.1] at h; cases h
      · exact h
    have htn : tx = [] := by rw [HTX.out, ho.1]
    have B1 := Lib.hid (fun (w' : World) (h : Below w1.heap.size w1 w') => ho.2.2 ▸ BI.out w' h)
    subst hqf htn
    clear hok ho HTX HQ hqt
    go_wp2_with fail
    refine CK1.out.mono ?_
    rintro r w6 ⟨rfl, hb6⟩
    have hb16 := hb15.ext hb6
    skip; replace k0 := hb6.keepc k0; replace k1 := hb6.keepc k1
    go_wp2_with fail
    refine (B1.out _ hb16).mono ?_
    rintro r w7 ⟨x7, rfl, hF7, hb7⟩
    have hS7 := hF7.sl
    obtain ⟨A7, c7, rfl, _, _⟩ := hS7.val
    clear hF7 hS7
    go_wp2_with fail
    go_ret
    exact ⟨rfl, hbw1.ext (hb16.ext hb7)⟩
  rw [segsOkB_yes hok] at CK1
  clear hok HOK HTX HQ BI k0 k1 CI CS TS TI hse
  have R1 := Lib.hid (fun (c : UInt8) (hc : c = 61 ∨ c = 44 ∨ c = 63) (w' : World) (h : Below w1.heap.size w1 w') => (RI.out (tx ++ [c]) w' (by rw [List.length_append]; simp; omega) h).mono fun _ _ => MrP.bent hc)
  clear RI
  go_wp2_with fail
  refine CK1.out.mono ?_
  rintro r w6 ⟨rfl, hb6⟩
  have hb16 := hb15.ext hb6
  go_wp2_with fail
  refine (R1.out 61 (by simp) _ hb16).mono ?_
  rintro r w7 ⟨u7, rfl, hb7⟩
  have hb17 := hb16.ext hb7
  go_wp2_with fail
  refine (R1.out 44 (by simp) _ hb17).mono ?_
  rintro r w8 ⟨u8, rfl, hb8⟩
  have hb18 := hb17.ext hb8
  go_wp2_with fail
  refine (R1.out 63 (by simp) _ hb18).mono ?_
  rintro r w9 ⟨u9, rfl, hb9⟩
  go_wp2_with fail
  go_ret
  exact ⟨rfl, hbw1.ext (hb18.ext hb9)⟩
end Go.Proofs.YtgfbjpmbaibnoaaGreatDoor
