/- The law FnExactMapLook: for all arguments it answers true. -/
import Derived.Test.YtchonnfjjceicaaLook
import Derived.Test.YtchonnfjjceicaaOpen
import Derived.Deep.RegionHeld3
import Derived.Deep.DeepCutAuto
namespace Go.Proofs.Ytchonnfjjceicaa
open Go.RowKit Go.ChangeShapes Go.WideShapes Go.ChangeAt

/-- a box of two numbers and a Bool, as the first call leaves them -/
def Box2 (W1 : World) (a b : Int) (t : Bool) (s6 s7 : Value) (w : World) : Prop := ∃ g, s6 = .pointer (some ⟨g, 0, none⟩) ∧ w.cell? ⟨g, 0, none⟩ = some (.int .i64 a) ∧ w.cell? ⟨g, 1, none⟩ = some (.int .i64 b) ∧ s7 = .bool t ∧ Below W1.heap.size W1 w

theorem lawMapLook (W : World) (v : Value) (l : List Sg) (p1 p2 : Int) (hv : SlS W W.heap.size v l) :
    Calls Try.prog 5 #[v, .agg #[.int .i64 p1, .int .i64 p2]] W fun e w' => e = .returned (.bool true) ∧ Below W.heap.size W w' := by
  by_cases h1 : l.length ≤ 1048576
  · have e1 : szOut 1048576 l.length = 1048576 - l.length := szOut_yes (by omega)
    have hv0 := hv.ext (w' := W.alloc (.cells #[.int .i64 p1, .int .i64 p2] 31)) (by (repeat (first | with_reducible assumption | with_reducible exact Below.refl _ _ | with_reducible refine Below.setCell ?_ (by first | omega | (simp; done) | (simp; omega)) _ | with_reducible refine Below.alloc ?_ (by first | omega | (simp; done) | (simp; omega)) _ | with_reducible refine below_drewN ?_ _ | with_reducible refine Below.drew ?_)))
    go_enter Try.func5, Try.ntmps5
    go_wp2_with fail
    refine (szSegS_any _ _ l _ (by omega) (by omega) hv0).mono ?_
    rintro e _ ⟨rfl, rfl⟩
    rw [e1]
    go_wp2_with fail
    obtain ⟨W1, hW1⟩ : ∃ W1, W1 = W.alloc (.cells #[.int .i64 p1, .int .i64 p2] 31) := ⟨_, rfl⟩
    rw [← hW1] at hv0 ⊢
    have hW : Below W.heap.size W W1 := by rw [hW1]; (repeat (first | with_reducible assumption | with_reducible exact Below.refl _ _ | with_reducible refine Below.setCell ?_ (by first | omega | (simp; done) | (simp; omega)) _ | with_reducible refine Below.alloc ?_ (by first | omega | (simp; done) | (simp; omega)) _ | with_reducible refine below_drewN ?_ _ | with_reducible refine Below.drew ?_))
    have k0 : W1.cell? ⟨W.heap.size, 0, none⟩ = some (.int .i64 p1) := by rw [hW1]; simp [go_sem]
    have k1 : W1.cell? ⟨W.heap.size, 1, none⟩ = some (.int .i64 p2) := by rw [hW1]; simp [go_sem]
    have hlt : W.heap.size < W1.heap.size := by rw [hW1]; simp
    clear hW1
    obtain ⟨qa, qb, qt, hq⟩ := lookV_form (mapLookL l (p1, p2))
    have cs : ∀ (v : Value) (w : World), SlS w w.heap.size v l → Calls Try.prog 15 #[v, .agg #[.int .i64 p1, .int .i64 p2]] w fun e W' => e = .returned (.tuple #[.agg #[.int .i64 qa, .int .i64 qb], .bool qt]) ∧ Below w.heap.size w W' := fun v w h => hq ▸ spMapLook_any v l p1 p2 w h
    have ci : ∀ (v : Value) (w : World), SlS w w.heap.size v l → Calls Try.prog 17 #[v, .agg #[.int .i64 p1, .int .i64 p2]] w fun e W' => e = .returned (.tuple #[.agg #[.int .i64 qa, .int .i64 qb], .bool qt]) ∧ Below w.heap.size w W' := fun v w h => hq ▸ imMapLook_any v l p1 p2 w h
    have CS := Lib.hid cs
    have CI := Lib.hid ci
    clear cs ci hq
    go_upto_region 5 with fail
    go_cut [6, 7] (fun s6 s7 wx => Box2 W1 qa qb qt s6 s7 wx)
    case first =>
      go_region_held3 (fun w' => w'.cell? ⟨W.heap.size, 0, none⟩ = some (.int .i64 p1) ∧ w'.cell? ⟨W.heap.size, 1, none⟩ = some (.int .i64 p2)) (first | exact ⟨(show Below W1.heap.size W1 _ from (by (repeat (first | with_reducible assumption | with_reducible exact Below.refl _ _ | with_reducible refine Below.setCell ?_ (by first | omega | (simp; done) | (simp; omega)) _ | with_reducible refine Below.alloc ?_ (by first | omega | (simp; done) | (simp; omega)) _ | with_reducible refine below_drewN ?_ _ | with_reducible refine Below.drew ?_ | with_reducible refine Below.trans ?_ (Below.mono hE3 (by first | omega | (simp; done) | (simp; omega))) | with_reducible refine Below.trans ?_ (Below.mono hE2 (by first | omega | (simp; done) | (simp; omega))) | with_reducible refine Below.trans ?_ (Below.mono hE1 (by first | omega | (simp; done) | (simp; omega))))))).keepc k0, (show Below W1.heap.size W1 _ from (by (repeat (first | with_reducible assumption | with_reducible exact Below.refl _ _ | with_reducible refine Below.setCell ?_ (by first | omega | (simp; done) | (simp; omega)) _ | with_reducible refine Below.alloc ?_ (by first | omega | (simp; done) | (simp; omega)) _ | with_reducible refine below_drewN ?_ _ | with_reducible refine Below.drew ?_ | with_reducible refine Below.trans ?_ (Below.mono hE3 (by first | omega | (simp; done) | (simp; omega))) | with_reducible refine Below.trans ?_ (Below.mono hE2 (by first | omega | (simp; done) | (simp; omega))) | with_reducible refine Below.trans ?_ (Below.mono hE1 (by first | omega | (simp; done) | (simp; omega))))))).keepc k1⟩)
        (first
          | (go_at_call 10; refine (toSegS_any _ _ l (hv0.ext (by (repeat (first | with_reducible assumption | with_reducible exact Below.refl _ _ | with_reducible refine Below.setCell ?_ (by first | omega | (simp; done) | (simp; omega)) _ | with_reducible refine Below.alloc ?_ (by first | omega | (simp; done) | (simp; omega)) _ | with_reducible refine below_drewN ?_ _ | with_reducible refine Below.drew ?_)))) (by omega)).mono ?_; rintro e w1 ⟨a1, rfl, ha1, hE1⟩; have hz1 := hE1.size; (try simp at hz1); (try have hy1 : W1.heap.size < w1.heap.size := by omega); obtain ⟨hc1, hf1, _⟩ := bcell hE1)
          | (go_at_call 16; refine (toPos_any _ _ _).mono ?_; rintro e w2 ⟨rfl, hE2⟩; have hz2 := hE2.size; (try simp at hz2); obtain ⟨hc2, hf2, _⟩ := bcell hE2; (try have hy2 : w1.heap.size < w2.heap.size := by omega); (try have hy3 : W1.heap.size < w2.heap.size := by omega))
          | (go_at_call 15; refine (CS.out _ _ ((ha1.ext (by (repeat (first | with_reducible assumption | with_reducible exact Below.refl _ _ | with_reducible refine Below.setCell ?_ (by first | omega | (simp; done) | (simp; omega)) _ | with_reducible refine Below.alloc ?_ (by first | omega | (simp; done) | (simp; omega)) _ | with_reducible refine below_drewN ?_ _ | with_reducible refine Below.drew ?_ | with_reducible refine Below.trans ?_ (Below.mono hE2 (by first | omega | (simp; done) | (simp; omega))))))).sl)).mono ?_; rintro e w3 ⟨rfl, hE3⟩; have hz3 := hE3.size; (try simp at hz3); obtain ⟨hc3, hf3, _⟩ := bcell hE3))
      all_goals (go_wp2_with fail; go_meet; exact ⟨_, rfl, by simp [go_sem, *], by simp [go_sem, *], rfl, by (repeat (first | with_reducible assumption | with_reducible exact Below.refl _ _ | with_reducible refine Below.setCell ?_ (by first | omega | (simp; done) | (simp; omega)) _ | with_reducible refine Below.alloc ?_ (by first | omega | (simp; done) | (simp; omega)) _ | with_reducible refine below_drewN ?_ _ | with_reducible refine Below.drew ?_ | with_reducible refine Below.trans ?_ (Below.mono hE3 (by first | omega | (simp; done) | (simp; omega))) | with_reducible refine Below.trans ?_ (Below.mono hE2 (by first | omega | (simp; done) | (simp; omega))) | with_reducible refine Below.trans ?_ (Below.mono hE1 (by first | omega | (simp; done) | (simp; omega)))))⟩)
    case rest =>
      obtain ⟨g, rfl, n0, n1, rfl, hx⟩ := hcut
      replace hW := hW.ext hx
      replace hv0 := hv0.ext hx
      replace k0 := hx.keepc k0
      replace k1 := hx.keepc k1
      go_wp2_with fail
      refine (toSegS_any _ _ l hv0 (by omega)).mono ?_
      rintro e w4 ⟨x0, rfl, hx0, hE4⟩
      skip; replace hW := hW.ext hE4; replace hv0 := hv0.ext hE4
      skip; replace n0 := hE4.keepc n0; replace n1 := hE4.keepc n1; replace k0 := hE4.keepc k0; replace k1 := hE4.keepc k1
      go_wp2_with fail
      refine (toPos_any _ _ _).mono ?_
      rintro e w5 ⟨rfl, hE5⟩
      skip; replace hW := hW.ext hE5; replace hv0 := hv0.ext hE5; replace hx0 := hx0.ext hE5
      skip; replace n0 := hE5.keepc n0; replace n1 := hE5.keepc n1; replace k0 := hE5.keepc k0; replace k1 := hE5.keepc k1
      go_wp2_with fail
      refine (CI.out _ _ hx0.sl).mono ?_
      rintro e w6 ⟨rfl, hE6⟩
      skip; replace hW := hW.ext hE6; replace hv0 := hv0.ext hE6; replace hx0 := hx0.ext hE6
      skip; replace n0 := hE6.keepc n0; replace n1 := hE6.keepc n1; replace k0 := hE6.keepc k0; replace k1 := hE6.keepc k1
      have m0 := (World.cell?_alloc_lt w6 (.cells #[.int .i64 qa, .int .i64 qb] 32) ⟨g, 0, none⟩ (World.block_lt_of_cell? _ _ n0)).trans n0
      have m1 := (World.cell?_alloc_lt w6 (.cells #[.int .i64 qa, .int .i64 qb] 32) ⟨g, 1, none⟩ (World.block_lt_of_cell? _ _ n1)).trans n1
      go_wp2_with fail
      refine (eqPos_any _ _ _ _ _).mono ?_
      rintro e w7 ⟨rfl, hE7⟩
      have hE7' : Below w6.heap.size w6 w7 := by (repeat (first | with_reducible assumption | with_reducible exact Below.refl _ _ | with_reducible refine Below.setCell ?_ (by first | omega | (simp; done) | (simp; omega)) _ | with_reducible refine Below.alloc ?_ (by first | omega | (simp; done) | (simp; omega)) _ | with_reducible refine below_drewN ?_ _ | with_reducible refine Below.drew ?_ | with_reducible refine Below.trans ?_ (Below.mono hE7 (by first | omega | (simp; done) | (simp; omega)))))
      skip; replace hW := hW.ext hE7'; replace hv0 := hv0.ext hE7'; replace hx0 := hx0.ext hE7'
      go_wp2_with fail
      refine (toSegS_any _ _ l hv0 (by omega)).mono ?_
      rintro e w8 ⟨a3, rfl, ha3, hE8⟩
      skip; replace hW := hW.ext hE8; replace hv0 := hv0.ext hE8; replace hx0 := hx0.ext hE8
      go_wp2_with fail
      refine (eqSegS_any _ _ _ l l hx0.sl ha3.sl).mono ?_
      rintro e w9 ⟨rfl, hE9⟩
      skip; replace hW := hW.ext hE9
      rw [decide_eq_true (rfl : l = l)]
      go_wp2_with fail
      go_ret
      exact ⟨rfl, hW⟩
  · have e1 : szOut 1048576 l.length = -1 := szOut_no (by omega)
    have hv0 := hv.ext (w' := W.alloc (.cells #[.int .i64 p1, .int .i64 p2] 31)) (by (repeat (first | with_reducible assumption | with_reducible exact Below.refl _ _ | with_reducible refine Below.setCell ?_ (by first | omega | (simp; done) | (simp; omega)) _ | with_reducible refine Below.alloc ?_ (by first | omega | (simp; done) | (simp; omega)) _ | with_reducible refine below_drewN ?_ _ | with_reducible refine Below.drew ?_)))
    go_enter Try.func5, Try.ntmps5
    go_wp2_with fail
    refine (szSegS_any _ _ l _ (by omega) (by omega) hv0).mono ?_
    rintro e _ ⟨rfl, rfl⟩
    rw [e1]
    go_wp2_with fail
    go_ret
    exact ⟨rfl, by (repeat (first | with_reducible assumption | with_reducible exact Below.refl _ _ | with_reducible refine Below.setCell ?_ (by first | omega | (simp; done) | (simp; omega)) _ | with_reducible refine Below.alloc ?_ (by first | omega | (simp; done) | (simp; omega)) _ | with_reducible refine below_drewN ?_ _ | with_reducible refine Below.drew ?_))⟩

theorem readable_fnExactMapLook : ∀ t ∈ (#[22, 31] : Array TypeId).toList, Try.prog.readableRec t = true ∧ t < Try.prog.types.size := by
  intro t ht
  simp at ht
  rcases ht with rfl | rfl
  · exact ⟨by kernel_rfl, of_decide_eq_true (by kernel_rfl)⟩
  · exact ⟨by kernel_rfl, of_decide_eq_true (by kernel_rfl)⟩
set_option maxRecDepth 100000 in
theorem fnExactMapLook_lifted (os : Os) (started : os.Started) (H : Type) (enc : TypeId × Value → H) :
    ReturnsInHanded {} Try.checked os 5 .any (Rows.fnExactMapLookSpec.pre6 enc Try.prog Try.f5 Rows.fnExactMapLookRow.domain false) (Rows.fnExactMapLookSpec.post enc Try.prog Try.f5 false true false false) := by
  refine returnsInHanded_of_change (C := Try.checked) own started (by kernel_rfl) Try.func5
    (ChangeSpec.witness6 (enc := enc) (C := Try.checked) false ⟨#[], #[.slice none 0 0, .agg #[.int .i64 0, .int .i64 0]], []⟩ 8 (by kernel_rfl) (by kernel_rfl) (by kernel_rfl) (by kernel_rfl)) ?_
  intro W base args ds gs before hval0 hW hcnd _
  have hval : ∀ (j : Nat) t v, Try.f5.params[j]? = some t → args[j]? = some v → Value.okWide Try.prog W .any base t v := hval0
  have hW' : DataW.Whole enc Try.prog Try.f5.params.toList Rows.fnExactMapLookSpec.vars false W args.toList ds gs before := hW
  obtain ⟨p, q, hA0, hV, rfl, hfz, hnd⟩ := hW
  have hA : DataW.TrodAll enc Try.prog W 0 (fun _ => true) true Try.f5.params.toList args.toList ds p := hA0
  rw [Try.params5] at hA hval
  obtain ⟨v0, v1, d0, d1, p0, p1, rfl, rfl, rfl, h0, h1⟩ := trodAll_two hA
  obtain ⟨rfl, rfl⟩ := trodVars_none hV
  obtain ⟨l, hl⟩ := segs_open (hval 0 _ v0 rfl rfl) h0; obtain ⟨a, b, rfl⟩ := pos_open (hval 1 _ v1 rfl rfl) h1; refine (lawMapLook W v0 l a b hl).mono fun e W' ⟨he, hb⟩ => ?_
  subst he
  exact ⟨_, rfl, close_law hW' rfl rfl (by rw [Try.params5]; exact readable_fnExactMapLook) rfl hb⟩
theorem fnExactMapLook_holds : Rows.FnExactMapLookSaid :=
  OpenClaim.holds_of_wide 5 Try.f5 rfl rfl rfl rfl rfl rfl rfl ⟨rfl, rfl, rfl, rfl, rfl⟩ rfl rfl rfl rfl rfl (by kernel_rfl) Try.func5 (by kernel_rfl)
    (of_decide_eq_true (by kernel_rfl)) (by unfold Func.isWrapper; first | (rw [if_pos (by decide +kernel)]; kernel_rfl) | (rw [if_neg (by decide +kernel)]; exact ⟨rfl, rfl⟩))
    (fun os started H enc _ => fnExactMapLook_lifted os started H enc)
#print axioms fnExactMapLook_holds
end Go.Proofs.Ytchonnfjjceicaa
