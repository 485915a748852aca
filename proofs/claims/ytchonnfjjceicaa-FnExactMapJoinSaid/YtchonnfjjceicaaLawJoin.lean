/- The law FnExactMapJoin: for all arguments it answers true. -/
import Derived.Test.YtchonnfjjceicaaJoin
import Derived.Test.YtchonnfjjceicaaOpen
namespace Go.Proofs.Ytchonnfjjceicaa
open Go.RowKit Go.ChangeShapes Go.WideShapes Go.ChangeAt

theorem lawMapJoin (W : World) (va vb : Value) (la lb : List Sg) (hva : SlS W W.heap.size va la) (hvb : SlS W W.heap.size vb lb) :
    Calls Try.prog 7 #[va, vb] W fun e w' => e = .returned (.bool true) ∧ Below W.heap.size W w' := by
  by_cases h1 : la.length ≤ 1048576
  rotate_left
  · have e1 : szOut 1048576 la.length = -1 := szOut_no (by omega)
    go_enter Try.func7, Try.ntmps7
    go_wp2_with fail
    refine (szSegS_any _ _ la _ (by omega) (by omega) hva).mono ?_
    rintro e _ ⟨rfl, rfl⟩
    rw [e1]
    go_wp2_with fail
    go_ret
    exact ⟨rfl, Below.refl _ _⟩
  have e1 : szOut 1048576 la.length = 1048576 - la.length := szOut_yes (by omega)
  by_cases h2 : lb.length ≤ 1048576 - la.length
  rotate_left
  · have e2 : szOut (1048576 - la.length) lb.length = -1 := szOut_no (by omega)
    go_enter Try.func7, Try.ntmps7
    go_wp2_with fail
    refine (szSegS_any _ _ la _ (by omega) (by omega) hva).mono ?_
    rintro e _ ⟨rfl, rfl⟩
    rw [e1]
    go_wp2_with fail
    refine (szSegS_any _ _ lb _ (by omega) (by omega) hvb).mono ?_
    rintro e _ ⟨rfl, rfl⟩
    rw [e2]
    go_wp2_with fail
    go_ret
    exact ⟨rfl, Below.refl _ _⟩
  have e2 : szOut (1048576 - la.length) lb.length = 1048576 - la.length - lb.length := szOut_yes (by omega)
  obtain ⟨M, hM⟩ : ∃ M, mapJoinL la lb = M := ⟨_, rfl⟩
  have hml := mapJoinL_len la lb
  have CS := Lib.hid (fun v u w h k => spMapJoin_any v u la lb w h k)
  have CI := Lib.hid (fun v u w h k => imMapJoin_any v u la lb w h k)
  rw [hM] at hml CS CI
  clear hM
  have hx := Below.refl W.heap.size W
  go_enter Try.func7, Try.ntmps7
  go_wp2_with fail
  refine (szSegS_any _ _ la _ (by omega) (by omega) hva).mono ?_
  rintro e _ ⟨rfl, rfl⟩
  rw [e1]
  go_wp2_with fail
  refine (szSegS_any _ _ lb _ (by omega) (by omega) hvb).mono ?_
  rintro e _ ⟨rfl, rfl⟩
  rw [e2]
  clear e1 e2
  go_wp2_with fail
  refine (toSegS_any _ _ la hva (by omega)).mono ?_
  rintro e w1 ⟨s1, rfl, hS1, hE1⟩
  skip; replace hx := hx.ext hE1
  go_wp2_with fail
  refine (toSegS_any _ _ lb ((hvb.below hx (Nat.le_refl _)).more hx.size) (by omega)).mono ?_
  rintro e w2 ⟨s2, rfl, hS2, hE2⟩
  skip; replace hx := hx.ext hE2; replace hS1 := hS1.ext hE2
  go_wp2_with fail
  have hs := hx.size
  refine (CS.out _ _ _ hS1.sl hS2.sl).mono ?_
  rintro e w3 ⟨a0, rfl, hA, hE3⟩
  skip; replace hx := hx.ext hE3
  replace hA := hA.less hs
  clear hS1 hS2 hs
  have hA' := hA
  have hs := hx.size
  go_wp2_with fail
  refine (toSegS_any _ _ la ((hva.below hx (Nat.le_refl _)).more hx.size) (by omega)).mono ?_
  rintro e w4 ⟨x0, rfl, hX, hE4⟩
  skip; replace hx := hx.ext hE4; replace hA := hA.ext hE4
  have dAX := apart hA' hX (Nat.le_refl _)
  replace hX := hX.less hs
  clear hA' hs
  have hA' := hA
  have hX' := hX
  have hs := hx.size
  go_wp2_with fail
  refine (toSegS_any _ _ lb ((hvb.below hx (Nat.le_refl _)).more hx.size) (by omega)).mono ?_
  rintro e w5 ⟨y0, rfl, hY, hE5⟩
  skip; replace hx := hx.ext hE5; replace hA := hA.ext hE5; replace hX := hX.ext hE5
  have dAY := apart hA' hY (Nat.le_refl _)
  have dXY := apart hX' hY (Nat.le_refl _)
  replace hY := hY.less hs
  clear hA' hX' hs
  have hA' := hA
  have hX' := hX
  have hY' := hY
  have hs := hx.size
  go_wp2_with fail
  refine (CI.out _ _ _ hX.sl hY.sl).mono ?_
  rintro e w6 ⟨g0, rfl, hG, hE6⟩
  skip; replace hx := hx.ext hE6; replace hA := hA.ext hE6; replace hX := hX.ext hE6; replace hY := hY.ext hE6
  have dAG := apart hA' hG (Nat.le_refl _)
  have dXG := apart hX' hG (Nat.le_refl _)
  have dYG := apart hY' hG (Nat.le_refl _)
  replace hG := hG.less hs
  clear hA' hX' hY' hs
  go_wp2_with fail
  refine (eqSegS_any _ _ _ M M hG.sl hA.sl).mono ?_
  rintro e w7 ⟨rfl, hE7⟩
  skip; replace hx := hx.ext hE7; replace hA := hA.ext hE7; replace hX := hX.ext hE7; replace hY := hY.ext hE7; replace hG := hG.ext hE7
  rw [decide_eq_true (rfl : M = M)]
  go_wp2_with fail
  refine (toSegS_any _ _ la ((hva.below hx (Nat.le_refl _)).more hx.size) (by omega)).mono ?_
  rintro e w8 ⟨a3, rfl, h3, hE8⟩
  skip; replace hx := hx.ext hE8; replace hA := hA.ext hE8; replace hX := hX.ext hE8; replace hY := hY.ext hE8; replace hG := hG.ext hE8
  go_wp2_with fail
  refine (eqSegS_any _ _ _ la la hX.sl h3.sl).mono ?_
  rintro e w9 ⟨rfl, hE9⟩
  skip; replace hx := hx.ext hE9; replace hA := hA.ext hE9; replace hX := hX.ext hE9; replace hY := hY.ext hE9; replace hG := hG.ext hE9
  rw [decide_eq_true (rfl : la = la)]
  clear h3
  go_wp2_with fail
  refine (toSegS_any _ _ lb ((hvb.below hx (Nat.le_refl _)).more hx.size) (by omega)).mono ?_
  rintro e w10 ⟨a4, rfl, h3, hE10⟩
  skip; replace hx := hx.ext hE10; replace hA := hA.ext hE10; replace hX := hX.ext hE10; replace hY := hY.ext hE10; replace hG := hG.ext hE10
  go_wp2_with fail
  refine (eqSegS_any _ _ _ lb lb hY.sl h3.sl).mono ?_
  rintro e w11 ⟨rfl, hE11⟩
  skip; replace hx := hx.ext hE11; replace hA := hA.ext hE11; replace hX := hX.ext hE11; replace hY := hY.ext hE11; replace hG := hG.ext hE11
  rw [decide_eq_true (rfl : lb = lb)]
  clear h3
  go_wp2_with fail
  refine (markSegS_any _ _ _ la 1 hX (by omega) (by omega) (by omega)).mono ?_
  rintro e w12 ⟨rfl, hg12, hX12⟩
  replace hA := hA.grown hg12 dAX.1
  replace hY := hY.grown hg12 dXY.2
  replace hG := hG.grown hg12 dXG.2
  replace hx := below_grown hx hg12 hx.size (fun k hk => (hX.lt hk).1)
  clear hX hX12 hg12 dAX dXG dXY
  go_wp2_with fail
  refine (markSegS_any _ _ _ lb (1 + (la.length : Int) * 4) hY (by omega) (by omega) (by omega)).mono ?_
  rintro e w13 ⟨rfl, hg13, hX13⟩
  replace hA := hA.grown hg13 dAY.1
  replace hG := hG.grown hg13 dYG.2
  replace hx := below_grown hx hg13 hx.size (fun k hk => (hY.lt hk).1)
  clear hY hX13 hg13 dAY dYG
  have d10 : decide ((1 : Int) + (la.length : Int) * 4 + (lb.length : Int) * 4 < 0) = false := by simp; omega
  go_wp2_with fail
  refine (eqSegS_any _ _ _ M M hG.sl hA.sl).mono ?_
  rintro e w14 ⟨rfl, hE14⟩
  skip; replace hx := hx.ext hE14; replace hA := hA.ext hE14; replace hG := hG.ext hE14
  rw [decide_eq_true (rfl : M = M)]
  go_wp2_with fail
  refine (markSegS_any _ _ _ M 1 hG (by omega) (by omega) (by omega)).mono ?_
  rintro e w15 ⟨rfl, hg15, hG15⟩
  replace hA := hA.grown hg15 dAG.1
  replace hx := below_grown hx hg15 hx.size (fun k hk => (hG.lt hk).1)
  clear hG hg15 dAG
  have d12 : decide ((1 : Int) + (M.length : Int) * 4 < 0) = false := by simp; omega
  go_wp2_with fail
  refine (heldSegS_any _ _ _ _ 1 hG15.sl (by omega) (by omega) (by omega)).mono ?_
  rintro e _ ⟨rfl, rfl⟩
  go_wp2_with fail
  refine (toSegS_any _ _ la ((hva.below hx (Nat.le_refl _)).more hx.size) (by omega)).mono ?_
  rintro e w16 ⟨s3, rfl, hS1, hE16⟩
  skip; replace hx := hx.ext hE16; replace hA := hA.ext hE16; replace hG15 := hG15.ext hE16
  go_wp2_with fail
  refine (toSegS_any _ _ lb ((hvb.below hx (Nat.le_refl _)).more hx.size) (by omega)).mono ?_
  rintro e w17 ⟨s4, rfl, hS2, hE17⟩
  skip; replace hx := hx.ext hE17; replace hA := hA.ext hE17; replace hG15 := hG15.ext hE17; replace hS1 := hS1.ext hE17
  go_wp2_with fail
  refine (CI.out _ _ _ hS1.sl hS2.sl).mono ?_
  rintro e w18 ⟨h0, rfl, hH, hE18⟩
  skip; replace hx := hx.ext hE18; replace hA := hA.ext hE18; replace hG15 := hG15.ext hE18
  clear hS1 hS2
  go_wp2_with fail
  refine (eqSegS_any _ _ _ M M hH.sl hA.sl).mono ?_
  rintro e w19 ⟨rfl, hE19⟩
  skip; replace hx := hx.ext hE19; replace hG15 := hG15.ext hE19
  rw [decide_eq_true (rfl : M = M)]
  go_wp2_with fail
  refine (heldSegS_any _ _ _ _ 1 hG15.sl (by omega) (by omega) (by omega)).mono ?_
  rintro e _ ⟨rfl, rfl⟩
  go_wp2_with fail
  go_ret
  exact ⟨rfl, hx⟩
theorem readable_fnExactMapJoin : ∀ t ∈ (#[22, 22] : Array TypeId).toList, Try.prog.readableRec t = true ∧ t < Try.prog.types.size := by
  intro t ht
  simp at ht
  subst ht
  exact ⟨by kernel_rfl, of_decide_eq_true (by kernel_rfl)⟩
set_option maxRecDepth 100000 in
theorem fnExactMapJoin_lifted (os : Os) (started : os.Started) (H : Type) (enc : TypeId × Value → H) :
    ReturnsInHanded {} Try.checked os 7 .any (Rows.fnExactMapJoinSpec.pre6 enc Try.prog Try.f7 Rows.fnExactMapJoinRow.domain false) (Rows.fnExactMapJoinSpec.post enc Try.prog Try.f7 false true false false) := by
  refine returnsInHanded_of_change (C := Try.checked) own started (by kernel_rfl) Try.func7
    (ChangeSpec.witness6 (enc := enc) (C := Try.checked) false ⟨#[], #[.slice none 0 0, .slice none 0 0], []⟩ 8 (by kernel_rfl) (by kernel_rfl) (by kernel_rfl) (by kernel_rfl)) ?_
  intro W base args ds gs before hval0 hW hcnd _
  have hval : ∀ (j : Nat) t v, Try.f7.params[j]? = some t → args[j]? = some v → Value.okWide Try.prog W .any base t v := hval0
  have hW' : DataW.Whole enc Try.prog Try.f7.params.toList Rows.fnExactMapJoinSpec.vars false W args.toList ds gs before := hW
  obtain ⟨p, q, hA0, hV, rfl, hfz, hnd⟩ := hW
  have hA : DataW.TrodAll enc Try.prog W 0 (fun _ => true) true Try.f7.params.toList args.toList ds p := hA0
  rw [Try.params7] at hA hval
  obtain ⟨v0, v1, d0, d1, p0, p1, rfl, rfl, rfl, h0, h1⟩ := trodAll_two hA
  obtain ⟨rfl, rfl⟩ := trodVars_none hV
  obtain ⟨l, hl⟩ := segs_open (hval 0 _ v0 rfl rfl) h0; obtain ⟨m, hm⟩ := segs_open (hval 1 _ v1 rfl rfl) h1; refine (lawMapJoin W v0 v1 l m hl hm).mono fun e W' ⟨he, hb⟩ => ?_
  subst he
  exact ⟨_, rfl, close_law hW' rfl rfl (by rw [Try.params7]; exact readable_fnExactMapJoin) rfl hb⟩
theorem fnExactMapJoin_holds : Rows.FnExactMapJoinSaid :=
  OpenClaim.holds_of_wide 7 Try.f7 rfl rfl rfl rfl rfl rfl rfl ⟨rfl, rfl, rfl, rfl, rfl⟩ rfl rfl rfl rfl rfl (by kernel_rfl) Try.func7 (by kernel_rfl)
    (of_decide_eq_true (by kernel_rfl)) (by unfold Func.isWrapper; first | (rw [if_pos (by decide +kernel)]; kernel_rfl) | (rw [if_neg (by decide +kernel)]; exact ⟨rfl, rfl⟩))
    (fun os started H enc _ => fnExactMapJoin_lifted os started H enc)
#print axioms fnExactMapJoin_holds
end Go.Proofs.Ytchonnfjjceicaa
