
/- The law FnExactMapText: for all arguments it answers true. -/
import Derived.Test.YtlmjaoignmgakaaTexti
import Derived.Test.YtlmjaoignmgakaaOpen
namespace Go.Proofs.Ytlmjaoignmgakaa
set_option maxRecDepth 100000
open Go.RowKit Go.ChangeShapes Go.WideShapes Go.ChangeAt

theorem imMapText_any (v : Value) (l : List Sg) (w : World) (hv : SlS w w.heap.size v l) :
    Calls Try.prog 13 #[v] w fun e w' => e = .returned (.string (bs (mapTextL l))) ∧ Below w.heap.size w w' := by
  go_enter Try.func13, Try.ntmps13
  go_wp2_with fail
  refine (imSegsOk_any _ _ l hv).mono ?_
  rintro e w1 ⟨rfl, hE⟩
  by_cases hok : SegsOk l
  · rw [segsOkB_yes hok]
    go_wp2_with fail
    refine (imText_yes _ l _ (hv.ext hE) hok).mono ?_
    rintro e w2 ⟨rfl, hE2⟩
    go_wp2_with fail
    go_ret
    exact ⟨ret_bs (by unfold mapTextL; rw [if_pos (segsOkB_yes hok)]), hE.ext hE2⟩
  · rw [segsOkB_no hok]
    go_wp2_with fail
    go_ret
    exact ⟨ret_bs (a := []) (by unfold mapTextL; rw [if_neg (by rw [segsOkB_no hok]; decide)]), hE⟩

theorem lawMapText (W : World) (v : Value) (l : List Sg) (hv : SlS W W.heap.size v l) :
    Calls Try.prog 3 #[v] W fun e w' => e = .returned (.bool true) ∧ Below W.heap.size W w' := by
  by_cases h1 : l.length ≤ 1048576
  · have e1 : szOut 1048576 l.length = 1048576 - l.length := szOut_yes (by omega)
    have hW := Below.refl W.heap.size W
    go_enter Try.func3, Try.ntmps3
    go_wp2_with fail
    refine (szSegS_any _ _ l _ (by omega) (by omega) hv).mono ?_
    rintro e _ ⟨rfl, rfl⟩
    rw [e1]
    go_wp2_with fail
    refine (toSegS_any _ _ l hv (by omega)).mono ?_
    rintro e w1 ⟨a1, rfl, ha1, hE1⟩
    skip; replace hW := hW.ext hE1; replace hv := hv.ext hE1
    go_wp2_with fail
    refine (spText_any _ l _ ha1.sl).mono ?_
    rintro e w2 ⟨rfl, hE2⟩
    skip; replace hW := hW.ext hE2; replace hv := hv.ext hE2
    go_wp2_with fail
    refine (toSegS_any _ _ l hv (by omega)).mono ?_
    rintro e w3 ⟨x0, rfl, hx0, hE3⟩
    skip; replace hW := hW.ext hE3; replace hv := hv.ext hE3
    go_wp2_with fail
    refine (imMapText_any _ l _ hx0.sl).mono ?_
    rintro e w4 ⟨rfl, hE4⟩
    skip; replace hW := hW.ext hE4; replace hv := hv.ext hE4; replace hx0 := hx0.ext hE4
    go_wp2_with fail
    refine (toSegS_any _ _ l hv (by omega)).mono ?_
    rintro e w5 ⟨a3, rfl, ha3, hE5⟩
    skip; replace hW := hW.ext hE5; replace hv := hv.ext hE5; replace hx0 := hx0.ext hE5
    go_wp2_with fail
    refine (eqSegS_any _ _ _ l l hx0.sl ha3.sl).mono ?_
    rintro e w6 ⟨rfl, hE6⟩
    skip; replace hW := hW.ext hE6
    rw [decide_eq_true (rfl : l = l)]
    go_wp2_with fail
    go_ret
    exact ⟨rfl, hW⟩
  · have e1 : szOut 1048576 l.length = -1 := szOut_no (by omega)
    go_enter Try.func3, Try.ntmps3
    go_wp2_with fail
    refine (szSegS_any _ _ l _ (by omega) (by omega) hv).mono ?_
    rintro e _ ⟨rfl, rfl⟩
    rw [e1]
    go_wp2_with fail
    go_ret
    exact ⟨rfl, Below.refl _ _⟩
theorem readable_fnExactMapText : ∀ t ∈ (#[22] : Array TypeId).toList, Try.prog.readableRec t = true ∧ t < Try.prog.types.size := by
  intro t ht
  simp at ht
  subst ht
  exact ⟨by kernel_rfl, of_decide_eq_true (by kernel_rfl)⟩
set_option maxRecDepth 100000 in
theorem fnExactMapText_lifted (os : Os) (started : os.Started) (H : Type) (enc : TypeId × Value → H) :
    ReturnsInHanded {} Try.checked os 3 .any (Rows.fnExactMapTextSpec.pre6 enc Try.prog Try.f3 Rows.fnExactMapTextRow.domain false) (Rows.fnExactMapTextSpec.post enc Try.prog Try.f3 false true false false) := by
  refine returnsInHanded_of_change (C := Try.checked) own started (by kernel_rfl) Try.func3
    (ChangeSpec.witness6 (enc := enc) (C := Try.checked) false ⟨#[], #[.slice none 0 0], []⟩ 8 (by kernel_rfl) (by kernel_rfl) (by kernel_rfl) (by kernel_rfl)) ?_
  intro W base args ds gs before hval0 hW hcnd _
  have hval : ∀ (j : Nat) t v, Try.f3.params[j]? = some t → args[j]? = some v → Value.okWide Try.prog W .any base t v := hval0
  have hW' : DataW.Whole enc Try.prog Try.f3.params.toList Rows.fnExactMapTextSpec.vars false W args.toList ds gs before := hW
  obtain ⟨p, q, hA0, hV, rfl, hfz, hnd⟩ := hW
  have hA : DataW.TrodAll enc Try.prog W 0 (fun _ => true) true Try.f3.params.toList args.toList ds p := hA0
  rw [Try.params3] at hA hval
  obtain ⟨v0, d0, rfl, rfl, h0⟩ := trodAll_one hA
  obtain ⟨rfl, rfl⟩ := trodVars_none hV
  obtain ⟨l, hl⟩ := segs_open (hval 0 _ v0 rfl rfl) h0; refine (lawMapText W v0 l hl).mono fun e W' ⟨he, hb⟩ => ?_
  subst he
  exact ⟨_, rfl, close_law hW' rfl rfl (by rw [Try.params3]; exact readable_fnExactMapText) rfl hb⟩
theorem fnExactMapText_holds : Rows.FnExactMapTextSaid :=
  OpenClaim.holds_of_wide 3 Try.f3 rfl rfl rfl rfl rfl rfl rfl ⟨rfl, rfl, rfl, rfl, rfl⟩ rfl rfl rfl rfl rfl (by kernel_rfl) Try.func3 (by kernel_rfl)
    (of_decide_eq_true (by kernel_rfl)) (by unfold Func.isWrapper; first | (rw [if_pos (by decide +kernel)]; kernel_rfl) | (rw [if_neg (by decide +kernel)]; exact ⟨rfl, rfl⟩))
    (fun os started H enc _ => fnExactMapText_lifted os started H enc)
#print axioms fnExactMapText_holds
end Go.Proofs.Ytlmjaoignmgakaa
