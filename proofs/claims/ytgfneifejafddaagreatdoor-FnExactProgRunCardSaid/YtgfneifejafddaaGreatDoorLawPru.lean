
/- The law FnExactProgRun: the walk. -/
import Derived.Test.YtgfneifejafddaaGreatDoorMkS
import Derived.Test.YtgfneifejafddaaGreatDoorMkI
import Derived.Test.YtgfneifejafddaaGreatDoorRunS
namespace Go.Proofs.YtgfneifejafddaaGreatDoor
set_option maxRecDepth 100000
set_option linter.unusedSimpArgs false
set_option linter.unusedVariables false
open Go.RowKit
attribute [local go_sem] bs_toList bs_get bs_size

theorem prR_len (l : List Sm) : ∀ (names : List Bytes) (nums : List Int), (prR l names nums).1.length ≤ l.length := by
  induction l with
  | nil => intro _ _; simp [prR]
  | cons s r ih =>
    intro names nums
    rw [prR]
    cases smVals s names nums with
    | none => simp
    | some p =>
      have h1 := ih (names ++ letN s) (nums ++ letV s p)
      have h2 := saidL_len s p
      simp only [List.length_append, List.length_cons]
      omega
theorem prRun_len (l : List Sm) : (prRun l).1.length ≤ 16 := by
  unfold prRun
  by_cases h : progOkB l = true
  · rw [if_pos h]
    have := prR_len l [] []
    unfold progOkB at h
    simp only [Bool.and_eq_true, decide_eq_true_eq] at h
    omega
  · rw [if_neg h]
    simp
theorem Fr.foot {α : Type} {row : α → List Value} {k : Nat} {t : TypeId} {w w' : World} {lo : Nat} {v : Value} {l : List α} {bl : List Nat} (h : Fr row k t w lo v l) (hF : Foot w w' bl) (hd : ∀ x ∈ bl, x < lo) : Fr row k t w' lo v l := by
  rcases h.form with ⟨rfl, rfl⟩ | ⟨g, cap, cur, rfl, hlo, hc, hm, hB, hx⟩
  · exact .inl ⟨rfl, rfl⟩
  · exact .inr ⟨g, cap, cur, rfl, hlo, hc, hm, (hF.2.2.2.2 g hB.lt (fun h => by have := hd g h; omega)).trans hB, hx⟩
theorem SmO.ext {t : TypeId} {w w' : World} {v : Value} {l : List Sm} {g : Nat} {bls : List (List Nat)} (h : SmO t w v l g bls) (hb : Ext w w') : SmO t w' v l g bls := by
  obtain ⟨W0, hi, cap, cur, fl, rfl, h1, h2, h3, h4, h5, h6⟩ := h
  exact ⟨W0, hi, cap, cur, fl, rfl, h1, h2, (hb.block g h3.lt).trans h3, h4, h5.keep (fun b _ hl => hb.block b hl), h6⟩

set_option maxHeartbeats 1000000 in
theorem lawProgRun (W : World) (v : Value) (l : List Sm) (hv : SmS W W.heap.size v l) (hE : Env W) : Calls Tryz.prog 3 #[v] W fun e w' => e = .returned (.bool true) ∧ Below W.heap.size W w' := by
  by_cases h1 : smWt l ≤ 1048576
  rotate_left
  · have SZ := Lib.hid (szStmtS_any l v W 1048576 (by omega) (by omega) hv)
    have e1 : szOut 1048576 (smWt l) = -1 := szOut_no (by omega)
    rw [e1] at SZ
    obtain ⟨A, c, rfl, hc, hm⟩ := hv.val
    clear e1 h1 hE
    go_enter Tryz.func3, Tryz.ntmps3
    go_wp2_with fail
    refine SZ.out.mono ?_
    rintro r w1 ⟨rfl, hb1⟩
    go_wp2_with fail
    go_ret
    exact ⟨rfl, hb1⟩
  · have SZ := Lib.hid (szStmtS_any l v W 1048576 (by omega) (by omega) hv)
    have e1 : szOut 1048576 (smWt l) = 1048576 - smWt l := szOut_yes (by omega)
    rw [e1] at SZ
    have TO := Lib.hid (fun (w' : World) (h : Below W.heap.size W w') => toStmtSO_any l v w' h1 ((hv.keep h (Nat.le_refl _)).more h.size))
    have IM := Lib.hid (fun (w' : World) (u : Value) (hu : SmS w' w'.heap.size u l) (h : Below W.heap.size W w') => imProgRun_any l u w' hu (hE.ext h))
    have SPP := Lib.hid (fun (w' : World) (u : Value) (hu : SmS w' w'.heap.size u l) => spProgRun_any l u w' hu)
    have hpl := prRun_len l
    generalize prRun l = pr at *
    obtain ⟨out, fin⟩ := pr
    simp only at hpl IM SPP
    have MK := Lib.hid (fun (w' : World) (u : Value) (g : Nat) (bls : List (List Nat)) (hu : SmO 43 w' u l g bls) => markStmtS_any l u g bls w' 1 hu (by omega) (by unfold smWt at h1; omega))
    obtain ⟨A, c, rfl, hc, hm⟩ := hv.val
    have hw0 : (0 : Int) ≤ 1048576 - (smWt l : Int) := by omega
    clear e1 h1 hE
    go_enter Tryz.func3, Tryz.ntmps3
    go_wp2_with fail
    refine SZ.out.mono ?_
    rintro r w1 ⟨rfl, hbw1⟩
    clear SZ
    go_wp2_with fail
    refine (TO.out _ hbw1).mono ?_
    rintro r w2 ⟨u2, g2, bl2, rfl, hS2, hbd2, hb2⟩
    have hbw2 := hbw1.ext hb2
    have SP := Lib.hid (SPP.out w2 u2 hS2.sms)
    obtain ⟨A2, c2, rfl, _, _⟩ := hS2.sms.val
    clear hS2 hbd2
    go_wp2_with fail
    refine SP.out.mono ?_
    rintro r w3 ⟨u3, rfl, hF3, hb3⟩
    have hbw3 := hbw2.ext hb3
    have HF3 := Lib.hid hF3.sl
    obtain ⟨A3, c3, rfl, _, _⟩ := hF3.sl.val
    clear SP hF3
    go_wp2_with fail
    refine (TO.out _ hbw3).mono ?_
    rintro r w4 ⟨u4, g4, bl4, rfl, hS4, hbd4, hb4⟩
    have hbw4 := hbw3.ext hb4
    have HS4 := Lib.hid (And.intro hS4 hbd4)
    have IM4 := Lib.hid (IM.out w4 u4 hS4.sms hbw4)
    obtain ⟨A4, c4, rfl, _, _⟩ := hS4.sms.val
    clear hS4 hbd4
    go_wp2_with fail
    refine IM4.out.mono ?_
    rintro r w5 ⟨u5, rfl, hF5, hb5⟩
    have hbw5 := hbw4.ext hb5
    have HF5 := Lib.hid hF5
    obtain ⟨A5, c5, rfl, _, _⟩ := hF5.sl.val
    clear IM4 hF5
    go_wp2_with fail
    refine (eqInt_same w5 _ _ out HF5.out.sl (HF3.out.ext (hb4.ext hb5))).mono ?_
    rintro r w6 ⟨rfl, hb6⟩
    have hbw6 := hbw5.ext hb6
    go_wp2_with fail
    refine (TO.out _ hbw6).mono ?_
    rintro r w7 ⟨u7, g7, bl7, rfl, hS7, hbd7, hb7⟩
    have hbw7 := hbw6.ext hb7
    have hEx47 := (hb5.ext hb6).ext hb7
    have EQ := Lib.hid (eqStmtS_any l l _ u7 w7 (HS4.out.1.sms.ext hEx47) hS7.sms)
    obtain ⟨A7, c7, rfl, _, _⟩ := hS7.sms.val
    clear hS7 hbd7
    go_wp2_with fail
    refine EQ.out.mono ?_
    rintro r w8 ⟨rfl, hb8⟩
    have hbw8 := hbw7.ext hb8
    (try rw [decide_eq_true (rfl : l = l)])
    clear EQ
    have hEx48 := hEx47.ext hb8
    go_wp2_with fail
    refine (MK.out w8 _ g4 bl4 (HS4.out.1.ext hEx48)).mono ?_
    rintro r w9 ⟨k9, rfl, hFt9⟩
    have hdom9 : ∀ x ∈ g4 :: bl4.flatten, w3.heap.size ≤ x ∧ x < w4.heap.size := HS4.out.2
    have hbw9 : Below W.heap.size W w9 := hbw8.trans (hFt9.below (fun x hx => Nat.le_trans hbw3.size (hdom9 x hx).1) hbw8.size)
    have hb39 : Below w3.heap.size w3 w9 := (hb4.ext hEx48).trans (hFt9.below (fun x hx => (hdom9 x hx).1) (hb4.ext hEx48).size)
    have HG9 := Lib.hid ((HF5.out.ext ((hb6.ext hb7).ext hb8)).foot hFt9 (fun x hx => (hdom9 x hx).2))
    have HWS := Lib.hid (fun (w' : World) (h : Below w3.heap.size w3 w') => (HF3.out.below h (Nat.le_refl _)).more h.size)
    have hk9 : (0 : Int) ≤ (k9 : Int) := by omega
    clear hdom9 hFt9
    go_wp2_with fail
    refine (eqInt_same w9 _ _ out HG9.out.sl (HWS.out _ hb39)).mono ?_
    rintro r w10 ⟨rfl, hb10⟩
    have hbw10 := hbw9.ext hb10
    have hb310 := hb39.ext hb10
    go_wp2_with fail
    refine (markInt_any w10 w4.heap.size _ out 1 (HG9.out.ext hb10) (by omega) (by omega) (by omega)).mono ?_
    rintro r w11 ⟨rfl, hgr11, hG11⟩
    have HG11 := Lib.hid hG11
    have hbw11 := below_grown hbw10 hgr11 hbw10.size (fun k hk => Nat.le_trans hbw4.size ((HG9.out.ext hb10).lt hk).1)
    have hb311 := below_grown hb310 hgr11 hb310.size (fun k hk => Nat.le_trans hb4.size ((HG9.out.ext hb10).lt hk).1)
    clear hG11 hgr11
    go_wp2_with fail
    refine (heldInt_any w11 w11.heap.size _ out.length 1 HG11.out.sl (by omega) (by omega) (by omega)).mono ?_
    rintro r _ ⟨rfl, rfl⟩
    go_wp2_with fail
    refine (TO.out _ hbw11).mono ?_
    rintro r w12 ⟨u12, g12, bl12, rfl, hS12, hbd12, hb12⟩
    have hbw12 := hbw11.ext hb12
    have IM12 := Lib.hid (IM.out w12 u12 hS12.sms hbw12)
    obtain ⟨A12, c12, rfl, _, _⟩ := hS12.sms.val
    clear hS12 hbd12
    go_wp2_with fail
    refine IM12.out.mono ?_
    rintro r w13 ⟨u13, rfl, hF13, hb13⟩
    have hEx := hb12.ext hb13
    have HF13 := Lib.hid hF13
    obtain ⟨A13, c13, rfl, _, _⟩ := hF13.sl.val
    clear IM12 hF13
    go_wp2_with fail
    refine (eqInt_same w13 _ _ out HF13.out.sl (HWS.out _ (hb311.ext hEx))).mono ?_
    rintro r w14 ⟨rfl, hb14⟩
    go_wp2_with fail
    refine (heldInt_any w14 w14.heap.size _ out.length 1 (HG11.out.ext (hEx.ext hb14)).sl (by omega) (by omega) (by omega)).mono ?_
    rintro r _ ⟨rfl, rfl⟩
    go_wp2_with fail
    go_ret
    exact ⟨rfl, hbw11.ext (hEx.ext hb14)⟩
end Go.Proofs.YtgfneifejafddaaGreatDoor
