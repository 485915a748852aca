/- The law FnExactSegsSame: for all arguments it answers true. -/
import Derived.Test.YtchonnfjjceicaaSegs
import Derived.Test.YtchonnfjjceicaaOpen
namespace Go.Proofs.Ytchonnfjjceicaa
open Go.RowKit Go.ChangeShapes Go.WideShapes Go.ChangeAt

theorem lawSegsSame (W : World) (v u : Value) (l m : List Sg) (hv : SlS W W.heap.size v l) (hu : SlS W W.heap.size u m) :
    Calls Try.prog 3 #[v, u] W fun e w' => e = .returned (.bool true) ∧ Below W.heap.size W w' := by
  by_cases h1 : l.length ≤ 1048576
  · have e1 : szOut 1048576 l.length = 1048576 - l.length := szOut_yes (by omega)
    by_cases h2 : m.length ≤ 1048576 - l.length
    · have e2 : szOut (1048576 - l.length) m.length = 1048576 - l.length - m.length := szOut_yes (by omega)
      have hW := Below.refl W.heap.size W
      go_enter Try.func3, Try.ntmps3
      go_wp2_with fail
      refine (szSegS_any _ _ l _ (by omega) (by omega) hv).mono ?_
      rintro e _ ⟨rfl, rfl⟩
      rw [e1]
      go_wp2_with fail
      refine (szSegS_any _ _ m _ (by omega) (by omega) hu).mono ?_
      rintro e _ ⟨rfl, rfl⟩
      rw [e2]
      go_wp2_with fail
      refine (toSegS_any _ _ l hv (by omega)).mono ?_
      rintro e w1 ⟨a1, rfl, ha1, hE1⟩
      skip; replace hW := hW.ext hE1; replace hv := hv.ext hE1; replace hu := hu.ext hE1
      go_wp2_with fail
      refine (toSegS_any _ _ m hu (by omega)).mono ?_
      rintro e w2 ⟨a2, rfl, ha2, hE2⟩
      skip; replace hW := hW.ext hE2; replace hv := hv.ext hE2; replace hu := hu.ext hE2; replace ha1 := ha1.ext hE2
      go_wp2_with fail
      refine (spSegsSame_any _ _ _ l m ha1.sl ha2.sl).mono ?_
      rintro e w3 ⟨rfl, hE3⟩
      skip; replace hW := hW.ext hE3; replace hv := hv.ext hE3; replace hu := hu.ext hE3
      go_wp2_with fail
      refine (toSegS_any _ _ l hv (by omega)).mono ?_
      rintro e w4 ⟨x0, rfl, hx0, hE4⟩
      skip; replace hW := hW.ext hE4; replace hv := hv.ext hE4; replace hu := hu.ext hE4
      go_wp2_with fail
      refine (toSegS_any _ _ m hu (by omega)).mono ?_
      rintro e w5 ⟨x1, rfl, hx1, hE5⟩
      skip; replace hW := hW.ext hE5; replace hv := hv.ext hE5; replace hu := hu.ext hE5; replace hx0 := hx0.ext hE5
      go_wp2_with fail
      refine (imSegsSame_any _ _ _ l m hx0.sl hx1.sl).mono ?_
      rintro e w6 ⟨rfl, hE6⟩
      skip; replace hW := hW.ext hE6; replace hv := hv.ext hE6; replace hu := hu.ext hE6; replace hx0 := hx0.ext hE6; replace hx1 := hx1.ext hE6
      go_wp2_with fail
      refine (toSegS_any _ _ l hv (by omega)).mono ?_
      rintro e w7 ⟨a3, rfl, ha3, hE7⟩
      skip; replace hW := hW.ext hE7; replace hv := hv.ext hE7; replace hu := hu.ext hE7; replace hx0 := hx0.ext hE7; replace hx1 := hx1.ext hE7
      go_wp2_with fail
      refine (eqSegS_any _ _ _ l l hx0.sl ha3.sl).mono ?_
      rintro e w8 ⟨rfl, hE8⟩
      skip; replace hW := hW.ext hE8; replace hv := hv.ext hE8; replace hu := hu.ext hE8; replace hx0 := hx0.ext hE8; replace hx1 := hx1.ext hE8
      rw [decide_eq_true (rfl : l = l)]
      go_wp2_with fail
      refine (toSegS_any _ _ m hu (by omega)).mono ?_
      rintro e w9 ⟨a4, rfl, ha4, hE9⟩
      skip; replace hW := hW.ext hE9; replace hv := hv.ext hE9; replace hu := hu.ext hE9; replace hx0 := hx0.ext hE9; replace hx1 := hx1.ext hE9
      go_wp2_with fail
      refine (eqSegS_any _ _ _ m m hx1.sl ha4.sl).mono ?_
      rintro e w10 ⟨rfl, hE10⟩
      skip; replace hW := hW.ext hE10; replace hv := hv.ext hE10; replace hu := hu.ext hE10; replace hx0 := hx0.ext hE10; replace hx1 := hx1.ext hE10
      rw [decide_eq_true (rfl : m = m)]
      go_wp2_with fail
      go_ret
      exact ⟨rfl, hW⟩
    · have e2 : szOut (1048576 - l.length) m.length = -1 := szOut_no (by omega)
      go_enter Try.func3, Try.ntmps3
      go_wp2_with fail
      refine (szSegS_any _ _ l _ (by omega) (by omega) hv).mono ?_
      rintro e _ ⟨rfl, rfl⟩
      rw [e1]
      go_wp2_with fail
      refine (szSegS_any _ _ m _ (by omega) (by omega) hu).mono ?_
      rintro e _ ⟨rfl, rfl⟩
      rw [e2]
      go_wp2_with fail
      go_ret
      exact ⟨rfl, Below.refl _ _⟩
  · have e1 : szOut 1048576 l.length = -1 := szOut_no (by omega)
    go_enter Try.func3, Try.ntmps3
    go_wp2_with fail
    refine (szSegS_any _ _ l _ (by omega) (by omega) hv).mono ?_
    rintro e _ ⟨rfl, rfl⟩
    rw [e1]
    go_wp2_with fail
    go_ret
    exact ⟨rfl, Below.refl _ _⟩
theorem readable_fnExactSegsSame : ∀ t ∈ (#[22, 22] : Array TypeId).toList, Try.prog.readableRec t = true ∧ t < Try.prog.types.size := by
  intro t ht
  simp at ht
  subst ht
  exact ⟨by kernel_rfl, of_decide_eq_true (by kernel_rfl)⟩
set_option maxRecDepth 100000 in
theorem fnExactSegsSame_lifted (os : Os) (started : os.Started) (H : Type) (enc : TypeId × Value → H) :
    ReturnsInHanded {} Try.checked os 3 .any (Rows.fnExactSegsSameSpec.pre6 enc Try.prog Try.f3 Rows.fnExactSegsSameRow.domain false) (Rows.fnExactSegsSameSpec.post enc Try.prog Try.f3 false true false false) := by
  refine returnsInHanded_of_change (C := Try.checked) own started (by kernel_rfl) Try.func3
    (ChangeSpec.witness6 (enc := enc) (C := Try.checked) false ⟨#[], #[.slice none 0 0, .slice none 0 0], []⟩ 8 (by kernel_rfl) (by kernel_rfl) (by kernel_rfl) (by kernel_rfl)) ?_
  intro W base args ds gs before hval0 hW hcnd _
  have hval : ∀ (j : Nat) t v, Try.f3.params[j]? = some t → args[j]? = some v → Value.okWide Try.prog W .any base t v := hval0
  have hW' : DataW.Whole enc Try.prog Try.f3.params.toList Rows.fnExactSegsSameSpec.vars false W args.toList ds gs before := hW
  obtain ⟨p, q, hA0, hV, rfl, hfz, hnd⟩ := hW
  have hA : DataW.TrodAll enc Try.prog W 0 (fun _ => true) true Try.f3.params.toList args.toList ds p := hA0
  rw [Try.params3] at hA hval
  obtain ⟨v0, v1, d0, d1, p0, p1, rfl, rfl, rfl, h0, h1⟩ := trodAll_two hA
  obtain ⟨rfl, rfl⟩ := trodVars_none hV
  obtain ⟨l, hl⟩ := segs_open (hval 0 _ v0 rfl rfl) h0; obtain ⟨m, hm⟩ := segs_open (hval 1 _ v1 rfl rfl) h1; refine (lawSegsSame W v0 v1 l m hl hm).mono fun e W' ⟨he, hb⟩ => ?_
  subst he
  exact ⟨_, rfl, close_law hW' rfl rfl (by rw [Try.params3]; exact readable_fnExactSegsSame) rfl hb⟩
theorem fnExactSegsSame_holds : Rows.FnExactSegsSameSaid :=
  OpenClaim.holds_of_wide 3 Try.f3 rfl rfl rfl rfl rfl rfl rfl ⟨rfl, rfl, rfl, rfl, rfl⟩ rfl rfl rfl rfl rfl (by kernel_rfl) Try.func3 (by kernel_rfl)
    (of_decide_eq_true (by kernel_rfl)) (by unfold Func.isWrapper; first | (rw [if_pos (by decide +kernel)]; kernel_rfl) | (rw [if_neg (by decide +kernel)]; exact ⟨rfl, rfl⟩))
    (fun os started H enc _ => fnExactSegsSame_lifted os started H enc)
#print axioms fnExactSegsSame_holds
end Go.Proofs.Ytchonnfjjceicaa
