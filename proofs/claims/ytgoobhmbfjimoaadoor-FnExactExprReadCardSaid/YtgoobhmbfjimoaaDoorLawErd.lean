
/- The law FnExactExprRead: the walk. -/
import Derived.Test.YtgoobhmbfjimoaaDoorRdR
import Derived.Test.YtgoobhmbfjimoaaDoorLawBr
namespace Go.Proofs.YtgoobhmbfjimoaaDoor
set_option maxRecDepth 100000
set_option linter.unusedSimpArgs false
set_option linter.unusedVariables false
open Go.RowKit
attribute [local go_sem] bs_toList bs_get bs_size

theorem rdX_nd (ws : List Bytes) : ndL (rdX ws).kids ≤ 100 := by
  unfold rdX
  cases h : rdE ws with
  | none => decide
  | some e =>
    have h1 := ex_nd e
    have h2 := (rdE_iff.1 h).2.1.2.2
    simp only
    rw [← Ex.nd_kids]
    omega
set_option maxHeartbeats 2000000 in
theorem lawExprRead (W : World) (v : Value) (ws : List Bytes) (hv : SlB W W.heap.size v ws) (hsz : ∀ s ∈ ws, s.length ≤ 9223372036854775807) (hE : EnvA W) : Calls Tryd.prog 8 #[v] W fun e w' => e = .returned (.bool true) ∧ Below W.heap.size W w' := by
  have SZ := Lib.hid (szStr_any W v ws hv hsz)
  by_cases h1 : strW ws ≤ 1048576
  rotate_left
  · have e1 : szOut 1048576 (strW ws) = -1 := szOut_no (by omega)
    rw [e1] at SZ
    obtain ⟨A, c, rfl, hc, hm⟩ := hv.val
    clear e1 h1 hE hv hsz
    go_enter Tryd.func8, Tryd.ntmps8
    go_wp2_with fail
    refine SZ.out.mono ?_
    rintro r _ ⟨rfl, rfl⟩
    go_wp2_with fail
    go_ret
    exact ⟨rfl, Below.refl _ _⟩
  have e1 : szOut 1048576 (strW ws) = 1048576 - strW ws := szOut_yes (by omega)
  rw [e1] at SZ
  have hwl : ∀ s ∈ ws, s.length ≤ 100000000 := fun s hs => by have := strW_mem hs; omega
  have hln : ws.length ≤ 1048576 := by unfold strW at h1; omega
  have TO := Lib.hid (fun (w' : World) (h : Below W.heap.size W w') => toStr_any w' v ws ((hv.below h (Nat.le_refl _)).more h.size) hln)
  have SP := Lib.hid (fun (w' : World) (u : Value) (hu : SlB w' w'.heap.size u ws) => spExprRead_any ws u w' hu hwl)
  have IM := Lib.hid (fun (w' : World) (u : Value) (hu : SlB w' w'.heap.size u ws) (h : Below W.heap.size W w') => imExprRead_any ws u w' hu hwl (hE.ext h))
  have HLN := Lib.hid hln
  unfold RdP at SP IM
  have hny := rdX_nd ws
  generalize rdX ws = y at *
  generalize rdOk ws = ok at *
  obtain ⟨A, c, rfl, hc, hm⟩ := hv.val
  have hw0 : (0 : Int) ≤ 1048576 - (strW ws : Int) := by omega
  clear e1 h1 hE hv hsz hwl
  go_enter Tryd.func8, Tryd.ntmps8
  go_wp2_with fail
  refine SZ.out.mono ?_
  rintro r _ ⟨rfl, rfl⟩
  clear SZ
  go_wp2_with fail
  refine (TO.out W (Below.refl _ _)).mono ?_
  rintro r w2 ⟨u2, rfl, hF2, hb2⟩
  have SP2 := Lib.hid (SP.out w2 u2 hF2.sl)
  obtain ⟨A2, c2, rfl, _, _⟩ := hF2.sl.val
  clear hF2 SP
  go_wp2_with fail
  refine SP2.out.mono ?_
  rintro r w3 ⟨v3, rfl, hM3, hb3⟩
  have hbw3 := hb2.ext hb3
  have HW3 := Lib.hid (fun (w' : World) (h : Below w3.heap.size w3 w') => (hM3.exv.keep h (Nat.le_refl _)).more h.size)
  obtain ⟨A3, c3, rfl, hc3, hm3, hs3⟩ := hM3.form
  obtain ⟨V3, hV3⟩ : ∃ V, V = w3.alloc (.cells #[.int .i64 y.kind, .int .i64 y.n, .string (bs y.s), .slice A3 y.kids.length c3] 28) := ⟨_, rfl⟩
  have hX4 : Blk V3 w3.heap.size 28 #[.int .i64 y.kind, .int .i64 y.n, .string (bs y.s), .slice A3 y.kids.length c3] := by rw [hV3]; exact Blk.new _ _ _
  have hbV3 : Below w3.heap.size w3 V3 := by rw [hV3]; exact (Below.refl _ _).alloc (Nat.le_refl _) _
  have hbw3v := hbw3.ext hbV3
  have T3 := Lib.hid (TO.out V3 hbw3v)
  rw [hV3] at T3
  clear hM3 SP2
  go_wp2_with fail
  refine T3.out.mono ?_
  rw [← hV3]
  rintro r w4 ⟨u4, rfl, hF4, hb4⟩
  skip; replace hX4 := hX4.below hb4 hX4.lt
  have hbw4 := hbw3v.ext hb4
  have hb34 := hbV3.ext hb4
  have IM4 := Lib.hid (IM.out w4 u4 hF4.sl hbw4)
  have HF4 := Lib.hid hF4
  obtain ⟨A4, c4, rfl, hc4, hm4⟩ := hF4.sl.val
  have HFB := Lib.hid (fun (q : Nat) (hq : (Value.slice A4 ws.length c4).ownBlock = some q) => (show V3.heap.size ≤ q ∧ q < w4.heap.size from hF4.lt hq))
  clear hF4 T3
  go_wp2_with fail
  refine IM4.out.mono ?_
  rintro r w5 ⟨v5, rfl, hM5, hb5⟩
  skip; replace hX4 := hX4.below hb5 hX4.lt
  have hbw5 := hbw4.ext hb5
  have hz5 := hX4.lt
  obtain ⟨kv, bl5, rfl, hs5, hO5, hOw5⟩ := hM5
  obtain ⟨A5, c5, rfl, hc5, hm5⟩ := hO5.exs.val
  obtain ⟨V5, hV5⟩ : ∃ V, V = w5.alloc (.cells #[.int .i64 y.kind, .int .i64 y.n, .string (bs y.s), .slice A5 y.kids.length c5] 28) := ⟨_, rfl⟩
  have hX7 : Blk V5 w5.heap.size 28 #[.int .i64 y.kind, .int .i64 y.n, .string (bs y.s), .slice A5 y.kids.length c5] := by rw [hV5]; exact Blk.new _ _ _
  have hbV5 : Below w5.heap.size w5 V5 := by rw [hV5]; exact (Below.refl _ _).alloc (Nat.le_refl _) _
  skip; replace hX4 := hX4.below hbV5 hX4.lt
  have hbw5v := hbw5.ext hbV5
  have hb35 : Below w3.heap.size w3 V5 := (hb34.ext hb5).ext hbV5
  have hO5' := hO5.ext hbV5
  have EQ8 := Lib.hid (eqExpr_any y y _ _ V5 ⟨_, rfl, hs5, hO5'.exs⟩ (HW3.out V5 hb35))
  rw [decide_eq_true (rfl : y = y)] at EQ8
  have HO5 := Lib.hid (And.intro hO5' hOw5)
  have HF4 := Lib.hid (HF4.out.ext (hb5.ext hbV5))
  clear hO5 hO5' hOw5 IM4
  skip; have pa0 := hX4.cell 0; have pa1 := hX4.cell 1; have pa2 := hX4.cell 2; have pa3 := hX4.cell 3; simp at pa0 pa1 pa2 pa3; have pb0 := hX7.cell 0; have pb1 := hX7.cell 1; have pb2 := hX7.cell 2; have pb3 := hX7.cell 3; simp at pb0 pb1 pb2 pb3
  rw [hV5] at EQ8 pa0 pa1 pa2 pa3 pb0 pb1 pb2 pb3
  go_wp2_with fail
  refine EQ8.out.mono ?_
  rw [← hV5]
  rintro r w8 ⟨rfl, hb8⟩
  skip; replace hX4 := hX4.below hb8 hX4.lt; replace hX7 := hX7.below hb8 hX7.lt
  have hbw8 := hbw5v.ext hb8
  have hb38 := hb35.ext hb8
  have HO5 := Lib.hid (And.intro (HO5.out.1.ext hb8) HO5.out.2)
  have HF4 := Lib.hid (HF4.out.ext hb8)
  clear EQ8
  clear pa0 pa1 pa2 pa3 pb0 pb1 pb2 pb3
  go_wp2_with fail
  refine (TO.out w8 hbw8).mono ?_
  rintro r w9 ⟨u9, rfl, hF9, hb9⟩
  skip; replace hX4 := hX4.below hb9 hX4.lt; replace hX7 := hX7.below hb9 hX7.lt
  have hbw9 := hbw8.ext hb9
  have hb39 := hb38.ext hb9
  have HO5 := Lib.hid (And.intro (HO5.out.1.ext hb9) HO5.out.2)
  have HF4 := Lib.hid (HF4.out.ext hb9)
  have EQ9 := Lib.hid (eqStr_any w9 _ u9 ws ws HF4.out.sl hF9.sl)
  rw [decide_eq_true (rfl : ws = ws)] at EQ9
  obtain ⟨A9, c9, rfl, _, _⟩ := hF9.sl.val
  clear hF9
  go_wp2_with fail
  refine EQ9.out.mono ?_
  rintro r w10 ⟨rfl, hb10⟩
  skip; replace hX4 := hX4.below hb10 hX4.lt; replace hX7 := hX7.below hb10 hX7.lt
  have hbw10 := hbw9.ext hb10
  have hb310 := hb39.ext hb10
  have HO5 := Lib.hid (And.intro (HO5.out.1.ext hb10) HO5.out.2)
  have MK := Lib.hid (markStr_any w10 _ _ ws 1 (HF4.out.ext hb10) (by omega) (by omega) HLN.out)
  clear EQ9
  go_wp2_with fail
  refine MK.out.mono ?_
  rintro r w11 ⟨rfl, hgr11, _⟩
  have hX4 := blk_app hX4 hgr11 (fun q hq => by have := HFB.out q hq; have := hbV3.size; have : V3.heap.size = w3.heap.size + 1 := by rw [hV3]; simp
                                                omega)
  have hX7 := blk_app hX7 hgr11 (fun q hq => by have := HFB.out q hq; have := hb5.size; omega)
  have hbw11 := below_grown hbw10 hgr11 hbw10.size (fun q hq => by have := HFB.out q hq; have := hbw3v.size; omega)
  have hb311 := below_grown hb310 hgr11 hb310.size (fun q hq => by have := HFB.out q hq; have := hbV3.size; omega)
  have hO5b : ExO 28 w11 (.slice A5 y.kids.length c5) y.kids bl5 := HO5.out.1.same (fun q hq => hgr11.block q (HO5.out.1.lt q hq) (fun e => by have := HFB.out q e.symm; have := HO5.out.2.1 q hq; omega))
  have EQ11 := Lib.hid (eqExpr_any y y _ _ w11 ⟨_, rfl, hs5, hO5b.exs⟩ (HW3.out w11 hb311))
  rw [decide_eq_true (rfl : y = y)] at EQ11
  have HO5b := Lib.hid (And.intro hO5b HO5.out.2)
  have hnn : ¬ ((1 + ws.length : Nat) : Int) < 0 := by omega
  have hnd : decide (((1 + ws.length : Nat) : Int) < 0) = false := by simp; omega
  have HG11 := Lib.hid hgr11
  generalize ((1 + ws.length : Nat) : Int) = kx at *
  clear hO5b hgr11 MK HO5
  skip; have pa0 := hX7.cell 0; have pa1 := hX7.cell 1; have pa2 := hX7.cell 2; have pa3 := hX7.cell 3; simp at pa0 pa1 pa2 pa3; have pb0 := hX4.cell 0; have pb1 := hX4.cell 1; have pb2 := hX4.cell 2; have pb3 := hX4.cell 3; simp at pb0 pb1 pb2 pb3
  go_wp2_with fail
  refine EQ11.out.mono ?_
  rintro r w12 ⟨rfl, hb12⟩
  skip; replace hX4 := hX4.below hb12 hX4.lt; replace hX7 := hX7.below hb12 hX7.lt
  have hbw12 := hbw11.ext hb12
  have hb312 := hb311.ext hb12
  have HM := Lib.hid (markExpr_any y A5 c5 bl5 w12 1 (HO5b.out.1.ext hb12) HO5b.out.2.2 (by omega) (by omega))
  clear EQ11 hnn hnd
  clear pa0 pa1 pa2 pa3 pb0 pb1 pb2 pb3
  skip; have pa0 := hX7.cell 0; have pa1 := hX7.cell 1; have pa2 := hX7.cell 2; have pa3 := hX7.cell 3; simp at pa0 pa1 pa2 pa3
  go_wp2_with fail
  refine HM.out.mono ?_
  rintro r w13 ⟨rfl, m13, hO13, hmk13, hnm13, hlm13, hF13⟩
  have hbl7 : ∀ q ∈ bl5, w4.heap.size ≤ q ∧ q < w5.heap.size := HO5b.out.2.1
  have hz12 := hX7.lt
  have hz4v : w3.heap.size < w4.heap.size := by have := hb4.size; have : V3.heap.size = w3.heap.size + 1 := by rw [hV3]; simp
                                                omega
  skip; replace hX4 := hX4.foot hF13 (fun hh => by have := hbl7 _ hh; omega); replace hX7 := hX7.foot hF13 (fun hh => by have := hbl7 _ hh; omega)
  have hbw13 : Below W.heap.size W w13 := hbw12.trans (hF13.below (fun q hq => by have := hbl7 q hq; have := hbw4.size; omega) hbw12.size)
  have hb313 : Below w3.heap.size w3 w13 := hb312.trans (hF13.below (fun q hq => by have := hbl7 q hq; omega) hb312.size)
  have HH := Lib.hid (fun (w' : World) (h : Below w13.heap.size w13 w') => heldExpr_any y.kind y.n y.s A5 c5 m13 w' 1 (by rw [hlm13]; exact (hO13.ext h).exs) hmk13 (by omega) (by omega))
  rw [hnm13, hlm13] at HH
  have hnn : ¬ ((1 + 3 * ndL y.kids : Nat) : Int) < 0 := by omega
  generalize ((1 + 3 * ndL y.kids : Nat) : Int) = ky at *
  have HF13 := Lib.hid hF13
  clear hF13 hbl7 hO13 hmk13 hnm13 hlm13 HM HO5b
  clear pa0 pa1 pa2 pa3
  skip; have pa0 := hX7.cell 0; have pa1 := hX7.cell 1; have pa2 := hX7.cell 2; have pa3 := hX7.cell 3; simp at pa0 pa1 pa2 pa3
  go_wp2_with fail
  refine (HH.out w13 (Below.refl _ _)).mono ?_
  rintro r w14 ⟨rfl, hb14⟩
  skip; replace hX4 := hX4.below hb14 hX4.lt; replace hX7 := hX7.below hb14 hX7.lt
  have hbw14 := hbw13.ext hb14
  have hb314 := hb313.ext hb14
  clear pa0 pa1 pa2 pa3
  go_wp2_with fail
  refine (TO.out _ hbw14).mono ?_
  rintro r w15 ⟨u15, rfl, hF15, hb15⟩
  skip; replace hX4 := hX4.below hb15 hX4.lt; replace hX7 := hX7.below hb15 hX7.lt
  have hbw15 := hbw14.ext hb15
  have IM15 := Lib.hid (IM.out w15 u15 hF15.sl hbw15)
  obtain ⟨A15, c15, rfl, _, _⟩ := hF15.sl.val
  clear hF15
  go_wp2_with fail
  refine IM15.out.mono ?_
  rintro r w16 ⟨v16, rfl, hM16, hb16⟩
  skip; replace hX4 := hX4.below hb16 hX4.lt; replace hX7 := hX7.below hb16 hX7.lt
  have hbw16 := hbw15.ext hb16
  have hz16 := hX7.lt
  obtain ⟨A16, c16, rfl, hc16, hm16, hs16, hk16⟩ := hM16.exv.form4
  obtain ⟨V16, hV16⟩ : ∃ V, V = w16.alloc (.cells #[.int .i64 y.kind, .int .i64 y.n, .string (bs y.s), .slice A16 y.kids.length c16] 28) := ⟨_, rfl⟩
  have hX16 : Blk V16 w16.heap.size 28 #[.int .i64 y.kind, .int .i64 y.n, .string (bs y.s), .slice A16 y.kids.length c16] := by rw [hV16]; exact Blk.new _ _ _
  have hbV16 : Below w16.heap.size w16 V16 := by rw [hV16]; exact (Below.refl _ _).alloc (Nat.le_refl _) _
  skip; replace hX4 := hX4.below hbV16 hX4.lt; replace hX7 := hX7.below hbV16 hX7.lt
  have hbv16 := hbw16.ext hbV16
  have hb13v : Below w13.heap.size w13 V16 := ((hb14.ext hb15).ext hb16).ext hbV16
  have EQ16 := Lib.hid (eqExpr_any y y _ _ V16 ⟨_, rfl, hs16, (hk16.keep hbV16 (Nat.le_refl _)).more hbV16.size⟩ (HW3.out V16 (hb313.ext hb13v)))
  rw [decide_eq_true (rfl : y = y)] at EQ16
  clear hM16 hk16 IM15
  skip; have pa0 := hX4.cell 0; have pa1 := hX4.cell 1; have pa2 := hX4.cell 2; have pa3 := hX4.cell 3; simp at pa0 pa1 pa2 pa3; have pb0 := hX16.cell 0; have pb1 := hX16.cell 1; have pb2 := hX16.cell 2; have pb3 := hX16.cell 3; simp at pb0 pb1 pb2 pb3
  rw [hV16] at EQ16 pa0 pa1 pa2 pa3 pb0 pb1 pb2 pb3
  go_wp2_with fail
  refine EQ16.out.mono ?_
  rw [← hV16]
  rintro r w17 ⟨rfl, hb17⟩
  skip; replace hX7 := hX7.below hb17 hX7.lt
  have hbw17 := hbv16.ext hb17
  clear EQ16
  clear pa0 pa1 pa2 pa3 pb0 pb1 pb2 pb3
  skip; have pa0 := hX7.cell 0; have pa1 := hX7.cell 1; have pa2 := hX7.cell 2; have pa3 := hX7.cell 3; simp at pa0 pa1 pa2 pa3
  go_wp2_with fail
  refine (HH.out w17 (hb13v.ext hb17)).mono ?_
  rintro r w18 ⟨rfl, hb18⟩
  go_wp2_with fail
  go_ret
  exact ⟨rfl, hbw17.ext hb18⟩
end Go.Proofs.YtgoobhmbfjimoaaDoor
