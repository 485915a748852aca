/- The law FnExactMapBack: for all arguments it answers true. -/
import Derived.Test.YtchonnfjjceicaaBack
import Derived.Test.YtchonnfjjceicaaOpen
import Derived.Deep.RegionHeld3
import Derived.Deep.DeepCutAuto
namespace Go.Proofs.Ytchonnfjjceicaa
open Go.RowKit Go.ChangeShapes Go.WideShapes Go.ChangeAt

theorem mapBackL_len (l : List Sg) (p : Ps) : (mapBackL l p).length ≤ 1280 := by
  unfold mapBackL
  split
  · next h =>
    have h1 := backL_len l p l.length
    rw [List.take_length] at h1
    exact Nat.le_trans h1 (segsOkB_iff.1 h).2
  · simp

/-- fresh memory behind W1, and nothing of W1 turned -/
def Made {α : Type} (row : α → List Value) (k : Nat) (t : TypeId) (W1 : World) (m : List α) (u : Value) (w : World) : Prop := Fr row k t w W1.heap.size u m ∧ Below W1.heap.size W1 w

theorem apart {α β : Type} {row : α → List Value} {k : Nat} {t : TypeId} {row' : β → List Value} {k' : Nat} {t' : TypeId} {w w' : World} {lo lo' : Nat} {v v' : Value} {l : List α} {l' : List β}
    (h : Fr row k t w lo v l) (h' : Fr row' k' t' w' lo' v' l') (hl : w.heap.size ≤ lo') : (v.ownBlock = none ∨ v.ownBlock ≠ v'.ownBlock) ∧ (v'.ownBlock = none ∨ v'.ownBlock ≠ v.ownBlock) := by
  cases e : v.ownBlock with
  | none => exact ⟨.inl rfl, by cases e' : v'.ownBlock <;> simp⟩
  | some b =>
    cases e' : v'.ownBlock with
    | none => exact ⟨.inr (by simp), .inl rfl⟩
    | some b' =>
      have h1 := (h.lt e).2
      have h2 := (h'.lt e').1
      exact ⟨.inr (by simp; omega), .inr (by simp; omega)⟩

theorem lawMapBack (W : World) (v : Value) (l : List Sg) (p1 p2 : Int) (hv : SlS W W.heap.size v l) :
    Calls Try.prog 6 #[v, .agg #[.int .i64 p1, .int .i64 p2]] W fun e w' => e = .returned (.bool true) ∧ Below W.heap.size W w' := by
  by_cases h1 : l.length ≤ 1048576
  · have e1 : szOut 1048576 l.length = 1048576 - l.length := szOut_yes (by omega)
    have hv0 := hv.ext (w' := W.alloc (.cells #[.int .i64 p1, .int .i64 p2] 31)) (by (repeat (first | with_reducible assumption | with_reducible exact Below.refl _ _ | with_reducible refine Below.setCell ?_ (by first | omega | (simp; done) | (simp; omega)) _ | with_reducible refine Below.alloc ?_ (by first | omega | (simp; done) | (simp; omega)) _ | with_reducible refine below_drewN ?_ _ | with_reducible refine Below.drew ?_)))
    go_enter Try.func6, Try.ntmps6
    go_wp2_with fail
    refine (szSegS_any _ _ l _ (by omega) (by omega) hv0).mono ?_
    rintro e _ ⟨rfl, rfl⟩
    rw [e1]
    go_wp2_with fail
    obtain ⟨W1, hW1⟩ : ∃ W1, W1 = W.alloc (.cells #[.int .i64 p1, .int .i64 p2] 31) := ⟨_, rfl⟩
    rw [← hW1] at hv0 ⊢
    have hW : Below W.heap.size W W1 := by rw [hW1]; (repeat (first | with_reducible assumption | with_reducible exact Below.refl _ _ | with_reducible refine Below.setCell ?_ (by first | omega | (simp; done) | (simp; omega)) _ | with_reducible refine Below.alloc ?_ (by first | omega | (simp; done) | (simp; omega)) _ | with_reducible refine below_drewN ?_ _ | with_reducible refine Below.drew ?_))
    have k0 : W1.cell? ⟨W.heap.size, 0, none⟩ = some (.int .i64 p1) := by rw [hW1]; simp [go_sem]
    have k1 : W1.cell? ⟨W.heap.size, 1, none⟩ = some (.int .i64 p2) := by rw [hW1]; simp [go_sem]
    have hlt : W.heap.size < W1.heap.size := by rw [hW1]; simp
    clear hW1
    obtain ⟨M, hM⟩ : ∃ M, mapBackL l (p1, p2) = M := ⟨_, rfl⟩
    have hml := mapBackL_len l (p1, p2)
    have CS := Lib.hid (fun v w h => spMapBack_any v l p1 p2 w h)
    have CI := Lib.hid (fun v w h => imMapBack_any v l p1 p2 w h)
    rw [hM] at hml CS CI
    clear hM
    go_upto_region 5 with fail
    go_cut [6] (fun s6 wx => Made psRow 2 32 W1 M s6 wx)
    case first =>
      go_region_held3 (fun w' => w'.cell? ⟨W.heap.size, 0, none⟩ = some (.int .i64 p1) ∧ w'.cell? ⟨W.heap.size, 1, none⟩ = some (.int .i64 p2)) (first | exact ⟨(show Below W1.heap.size W1 _ from (by (repeat (first | with_reducible assumption | with_reducible exact Below.refl _ _ | with_reducible refine Below.setCell ?_ (by first | omega | (simp; done) | (simp; omega)) _ | with_reducible refine Below.alloc ?_ (by first | omega | (simp; done) | (simp; omega)) _ | with_reducible refine below_drewN ?_ _ | with_reducible refine Below.drew ?_ | with_reducible refine Below.trans ?_ (Below.mono hE3 (by first | omega | (simp; done) | (simp; omega))) | with_reducible refine Below.trans ?_ (Below.mono hE2 (by first | omega | (simp; done) | (simp; omega))) | with_reducible refine Below.trans ?_ (Below.mono hE1 (by first | omega | (simp; done) | (simp; omega))))))).keepc k0, (show Below W1.heap.size W1 _ from (by (repeat (first | with_reducible assumption | with_reducible exact Below.refl _ _ | with_reducible refine Below.setCell ?_ (by first | omega | (simp; done) | (simp; omega)) _ | with_reducible refine Below.alloc ?_ (by first | omega | (simp; done) | (simp; omega)) _ | with_reducible refine below_drewN ?_ _ | with_reducible refine Below.drew ?_ | with_reducible refine Below.trans ?_ (Below.mono hE3 (by first | omega | (simp; done) | (simp; omega))) | with_reducible refine Below.trans ?_ (Below.mono hE2 (by first | omega | (simp; done) | (simp; omega))) | with_reducible refine Below.trans ?_ (Below.mono hE1 (by first | omega | (simp; done) | (simp; omega))))))).keepc k1⟩)
        (first
          | (go_at_call 10; refine (toSegS_any _ _ l (hv0.ext (by (repeat (first | with_reducible assumption | with_reducible exact Below.refl _ _ | with_reducible refine Below.setCell ?_ (by first | omega | (simp; done) | (simp; omega)) _ | with_reducible refine Below.alloc ?_ (by first | omega | (simp; done) | (simp; omega)) _ | with_reducible refine below_drewN ?_ _ | with_reducible refine Below.drew ?_)))) (by omega)).mono ?_; rintro e w1 ⟨a1, rfl, ha1, hE1⟩; have hz1 := hE1.size; (try simp at hz1); (try have hy1 : W1.heap.size < w1.heap.size := by omega); obtain ⟨hc1, hf1, _⟩ := bcell hE1)
          | (go_at_call 16; refine (toPos_any _ _ _).mono ?_; rintro e w2 ⟨rfl, hE2⟩; have hz2 := hE2.size; (try simp at hz2); obtain ⟨hc2, hf2, _⟩ := bcell hE2; (try have hy2 : w1.heap.size < w2.heap.size := by omega); (try have hy3 : W1.heap.size < w2.heap.size := by omega))
          | (go_at_call 19; refine (CS.out _ _ ((ha1.ext (by (repeat (first | with_reducible assumption | with_reducible exact Below.refl _ _ | with_reducible refine Below.setCell ?_ (by first | omega | (simp; done) | (simp; omega)) _ | with_reducible refine Below.alloc ?_ (by first | omega | (simp; done) | (simp; omega)) _ | with_reducible refine below_drewN ?_ _ | with_reducible refine Below.drew ?_ | with_reducible refine Below.trans ?_ (Below.mono hE2 (by first | omega | (simp; done) | (simp; omega))))))).sl)).mono ?_; rintro e w3 ⟨a3, rfl, ha3, hE3⟩; have hz3 := hE3.size; (try simp at hz3); obtain ⟨hc3, hf3, _⟩ := bcell hE3))
      all_goals (go_wp2_with fail; go_meet; exact ⟨ha3.less (by simp at *; omega), by (repeat (first | with_reducible assumption | with_reducible exact Below.refl _ _ | with_reducible refine Below.setCell ?_ (by first | omega | (simp; done) | (simp; omega)) _ | with_reducible refine Below.alloc ?_ (by first | omega | (simp; done) | (simp; omega)) _ | with_reducible refine below_drewN ?_ _ | with_reducible refine Below.drew ?_ | with_reducible refine Below.trans ?_ (Below.mono hE3 (by first | omega | (simp; done) | (simp; omega))) | with_reducible refine Below.trans ?_ (Below.mono hE2 (by first | omega | (simp; done) | (simp; omega))) | with_reducible refine Below.trans ?_ (Below.mono hE1 (by first | omega | (simp; done) | (simp; omega)))))⟩)
    case rest =>
      obtain ⟨hA, hx⟩ := hcut
      have hA' := hA
      have hs4 := hx.size
      go_wp2_with fail
      refine (toSegS_any _ _ l ((hv0.below hx (Nat.le_refl _)).more hx.size) (by omega)).mono ?_
      rintro e w4 ⟨x0, rfl, hX, hE4⟩
      skip; replace hx := hx.ext hE4; replace hA := hA.ext hE4
      have dAX := apart hA' hX (Nat.le_refl _)
      replace hX := hX.less hs4
      clear hA' hs4
      have n0 := hx.keepc k0
      have n1 := hx.keepc k1
      go_wp2_with fail
      refine (toPos_any _ _ _).mono ?_
      rintro e w5 ⟨rfl, hE5⟩
      skip; replace hx := hx.ext hE5; replace hA := hA.ext hE5; replace hX := hX.ext hE5
      clear n0 n1
      have hA' := hA
      have hX' := hX
      have hs4 := hx.size
      go_wp2_with fail
      refine (CI.out _ _ hX.sl).mono ?_
      rintro e w6 ⟨g0, rfl, hG, hE6⟩
      skip; replace hx := hx.ext hE6; replace hA := hA.ext hE6; replace hX := hX.ext hE6
      have dAG := apart hA' hG (Nat.le_refl _)
      have dXG := apart hX' hG (Nat.le_refl _)
      replace hG := hG.less hs4
      clear hA' hX' hs4
      go_wp2_with fail
      refine (eqPosS_any _ _ _ M M hG.sl hA.sl).mono ?_
      rintro e w7 ⟨rfl, hE7⟩
      skip; replace hx := hx.ext hE7; replace hA := hA.ext hE7; replace hX := hX.ext hE7; replace hG := hG.ext hE7
      rw [decide_eq_true (rfl : M = M)]
      go_wp2_with fail
      refine (toSegS_any _ _ l ((hv0.below hx (Nat.le_refl _)).more hx.size) (by omega)).mono ?_
      rintro e w8 ⟨a3, rfl, h3, hE8⟩
      skip; replace hx := hx.ext hE8; replace hA := hA.ext hE8; replace hX := hX.ext hE8; replace hG := hG.ext hE8
      go_wp2_with fail
      refine (eqSegS_any _ _ _ l l hX.sl h3.sl).mono ?_
      rintro e w9 ⟨rfl, hE9⟩
      skip; replace hx := hx.ext hE9; replace hA := hA.ext hE9; replace hX := hX.ext hE9; replace hG := hG.ext hE9
      rw [decide_eq_true (rfl : l = l)]
      clear h3
      go_wp2_with fail
      refine (markSegS_any _ _ _ l 1 hX (by omega) (by omega) (by omega)).mono ?_
      rintro e w10 ⟨rfl, hg10, hX10⟩
      replace hA := hA.grown hg10 dAX.1
      replace hG := hG.grown hg10 dXG.2
      replace hx := below_grown hx hg10 hx.size (fun k hk => (hX.lt hk).1)
      clear hX hX10 hg10 dAX dXG
      have d10 : decide ((1 : Int) + (l.length : Int) * 4 < 0) = false := by simp; omega
      go_wp2_with fail
      refine (eqPosS_any _ _ _ M M hG.sl hA.sl).mono ?_
      rintro e w11 ⟨rfl, hE11⟩
      skip; replace hx := hx.ext hE11; replace hA := hA.ext hE11; replace hG := hG.ext hE11
      rw [decide_eq_true (rfl : M = M)]
      go_wp2_with fail
      refine (markPosS_any _ _ _ M 1 hG (by omega) (by omega) (by omega)).mono ?_
      rintro e w12 ⟨rfl, hg12, hG12⟩
      replace hA := hA.grown hg12 dAG.1
      replace hx := below_grown hx hg12 hx.size (fun k hk => (hG.lt hk).1)
      clear hG hg12 dAG
      have d12 : decide ((1 : Int) + (M.length : Int) * 2 < 0) = false := by simp; omega
      go_wp2_with fail
      refine (heldPosS_any _ _ _ _ 1 hG12.sl (by omega) (by omega) (by omega)).mono ?_
      rintro e _ ⟨rfl, rfl⟩
      go_wp2_with fail
      go_upto_region 24 with fail
      go_cut [12] (fun s12 wx => Made psRow 2 32 w12 M s12 wx)
      case first =>
        have hv2 := (hv0.below hx (Nat.le_refl _)).more hx.size
        have q0 := hx.keepc k0
        have q1 := hx.keepc k1
        have hlt2 : W.heap.size < w12.heap.size := Nat.lt_of_lt_of_le hlt hx.size
        clear k0 k1 hlt hx hA hG12
        go_region_held3 (fun w' => w'.cell? ⟨W.heap.size, 0, none⟩ = some (.int .i64 p1) ∧ w'.cell? ⟨W.heap.size, 1, none⟩ = some (.int .i64 p2)) (first | exact ⟨(show Below w12.heap.size w12 _ from (by (repeat (first | with_reducible assumption | with_reducible exact Below.refl _ _ | with_reducible refine Below.setCell ?_ (by first | omega | (simp; done) | (simp; omega)) _ | with_reducible refine Below.alloc ?_ (by first | omega | (simp; done) | (simp; omega)) _ | with_reducible refine below_drewN ?_ _ | with_reducible refine Below.drew ?_ | with_reducible refine Below.trans ?_ (Below.mono hE3 (by first | omega | (simp; done) | (simp; omega))) | with_reducible refine Below.trans ?_ (Below.mono hE2 (by first | omega | (simp; done) | (simp; omega))) | with_reducible refine Below.trans ?_ (Below.mono hE1 (by first | omega | (simp; done) | (simp; omega))))))).keepc q0, (show Below w12.heap.size w12 _ from (by (repeat (first | with_reducible assumption | with_reducible exact Below.refl _ _ | with_reducible refine Below.setCell ?_ (by first | omega | (simp; done) | (simp; omega)) _ | with_reducible refine Below.alloc ?_ (by first | omega | (simp; done) | (simp; omega)) _ | with_reducible refine below_drewN ?_ _ | with_reducible refine Below.drew ?_ | with_reducible refine Below.trans ?_ (Below.mono hE3 (by first | omega | (simp; done) | (simp; omega))) | with_reducible refine Below.trans ?_ (Below.mono hE2 (by first | omega | (simp; done) | (simp; omega))) | with_reducible refine Below.trans ?_ (Below.mono hE1 (by first | omega | (simp; done) | (simp; omega))))))).keepc q1⟩)
          (first
            | (go_at_call 10; refine (toSegS_any _ _ l (hv2.ext (by (repeat (first | with_reducible assumption | with_reducible exact Below.refl _ _ | with_reducible refine Below.setCell ?_ (by first | omega | (simp; done) | (simp; omega)) _ | with_reducible refine Below.alloc ?_ (by first | omega | (simp; done) | (simp; omega)) _ | with_reducible refine below_drewN ?_ _ | with_reducible refine Below.drew ?_)))) (by omega)).mono ?_; rintro e w1 ⟨a1, rfl, ha1, hE1⟩; have hz1 := hE1.size; (try simp at hz1); (try have hy1 : w12.heap.size < w1.heap.size := by omega); obtain ⟨hc1, hf1, _⟩ := bcell hE1)
            | (go_at_call 16; refine (toPos_any _ _ _).mono ?_; rintro e w2 ⟨rfl, hE2⟩; have hz2 := hE2.size; (try simp at hz2); obtain ⟨hc2, hf2, _⟩ := bcell hE2; (try have hy2 : w1.heap.size < w2.heap.size := by omega); (try have hy3 : w12.heap.size < w2.heap.size := by omega))
            | (go_at_call 20; refine (CI.out _ _ ((ha1.ext (by (repeat (first | with_reducible assumption | with_reducible exact Below.refl _ _ | with_reducible refine Below.setCell ?_ (by first | omega | (simp; done) | (simp; omega)) _ | with_reducible refine Below.alloc ?_ (by first | omega | (simp; done) | (simp; omega)) _ | with_reducible refine below_drewN ?_ _ | with_reducible refine Below.drew ?_ | with_reducible refine Below.trans ?_ (Below.mono hE2 (by first | omega | (simp; done) | (simp; omega))))))).sl)).mono ?_; rintro e w3 ⟨a3, rfl, ha3, hE3⟩; have hz3 := hE3.size; (try simp at hz3); obtain ⟨hc3, hf3, _⟩ := bcell hE3))
        all_goals (go_wp2_with fail; go_meet; exact ⟨ha3.less (by simp at *; omega), by (repeat (first | with_reducible assumption | with_reducible exact Below.refl _ _ | with_reducible refine Below.setCell ?_ (by first | omega | (simp; done) | (simp; omega)) _ | with_reducible refine Below.alloc ?_ (by first | omega | (simp; done) | (simp; omega)) _ | with_reducible refine below_drewN ?_ _ | with_reducible refine Below.drew ?_ | with_reducible refine Below.trans ?_ (Below.mono hE3 (by first | omega | (simp; done) | (simp; omega))) | with_reducible refine Below.trans ?_ (Below.mono hE2 (by first | omega | (simp; done) | (simp; omega))) | with_reducible refine Below.trans ?_ (Below.mono hE1 (by first | omega | (simp; done) | (simp; omega)))))⟩)
      case rest =>
        obtain ⟨hH, hE⟩ := hcut
        skip; replace hx := hx.ext hE; replace hA := hA.ext hE; replace hG12 := hG12.ext hE
        go_wp2_with fail
        refine (eqPosS_any _ _ _ M M hH.sl hA.sl).mono ?_
        rintro e w13 ⟨rfl, hE13⟩
        skip; replace hx := hx.ext hE13; replace hG12 := hG12.ext hE13
        rw [decide_eq_true (rfl : M = M)]
        go_wp2_with fail
        refine (heldPosS_any _ _ _ _ 1 hG12.sl (by omega) (by omega) (by omega)).mono ?_
        rintro e _ ⟨rfl, rfl⟩
        go_wp2_with fail
        go_ret
        exact ⟨rfl, hW.ext hx⟩
  · have e1 : szOut 1048576 l.length = -1 := szOut_no (by omega)
    have hv0 := hv.ext (w' := W.alloc (.cells #[.int .i64 p1, .int .i64 p2] 31)) (by (repeat (first | with_reducible assumption | with_reducible exact Below.refl _ _ | with_reducible refine Below.setCell ?_ (by first | omega | (simp; done) | (simp; omega)) _ | with_reducible refine Below.alloc ?_ (by first | omega | (simp; done) | (simp; omega)) _ | with_reducible refine below_drewN ?_ _ | with_reducible refine Below.drew ?_)))
    go_enter Try.func6, Try.ntmps6
    go_wp2_with fail
    refine (szSegS_any _ _ l _ (by omega) (by omega) hv0).mono ?_
    rintro e _ ⟨rfl, rfl⟩
    rw [e1]
    go_wp2_with fail
    go_ret
    exact ⟨rfl, by (repeat (first | with_reducible assumption | with_reducible exact Below.refl _ _ | with_reducible refine Below.setCell ?_ (by first | omega | (simp; done) | (simp; omega)) _ | with_reducible refine Below.alloc ?_ (by first | omega | (simp; done) | (simp; omega)) _ | with_reducible refine below_drewN ?_ _ | with_reducible refine Below.drew ?_))⟩

theorem readable_fnExactMapBack : ∀ t ∈ (#[22, 31] : Array TypeId).toList, Try.prog.readableRec t = true ∧ t < Try.prog.types.size := by
  intro t ht
  simp at ht
  rcases ht with rfl | rfl
  · exact ⟨by kernel_rfl, of_decide_eq_true (by kernel_rfl)⟩
  · exact ⟨by kernel_rfl, of_decide_eq_true (by kernel_rfl)⟩
set_option maxRecDepth 100000 in
theorem fnExactMapBack_lifted (os : Os) (started : os.Started) (H : Type) (enc : TypeId × Value → H) :
    ReturnsInHanded {} Try.checked os 6 .any (Rows.fnExactMapBackSpec.pre6 enc Try.prog Try.f6 Rows.fnExactMapBackRow.domain false) (Rows.fnExactMapBackSpec.post enc Try.prog Try.f6 false true false false) := by
  refine returnsInHanded_of_change (C := Try.checked) own started (by kernel_rfl) Try.func6
    (ChangeSpec.witness6 (enc := enc) (C := Try.checked) false ⟨#[], #[.slice none 0 0, .agg #[.int .i64 0, .int .i64 0]], []⟩ 8 (by kernel_rfl) (by kernel_rfl) (by kernel_rfl) (by kernel_rfl)) ?_
  intro W base args ds gs before hval0 hW hcnd _
  have hval : ∀ (j : Nat) t v, Try.f6.params[j]? = some t → args[j]? = some v → Value.okWide Try.prog W .any base t v := hval0
  have hW' : DataW.Whole enc Try.prog Try.f6.params.toList Rows.fnExactMapBackSpec.vars false W args.toList ds gs before := hW
  obtain ⟨p, q, hA0, hV, rfl, hfz, hnd⟩ := hW
  have hA : DataW.TrodAll enc Try.prog W 0 (fun _ => true) true Try.f6.params.toList args.toList ds p := hA0
  rw [Try.params6] at hA hval
  obtain ⟨v0, v1, d0, d1, p0, p1, rfl, rfl, rfl, h0, h1⟩ := trodAll_two hA
  obtain ⟨rfl, rfl⟩ := trodVars_none hV
  obtain ⟨l, hl⟩ := segs_open (hval 0 _ v0 rfl rfl) h0; obtain ⟨a, b, rfl⟩ := pos_open (hval 1 _ v1 rfl rfl) h1; refine (lawMapBack W v0 l a b hl).mono fun e W' ⟨he, hb⟩ => ?_
  subst he
  exact ⟨_, rfl, close_law hW' rfl rfl (by rw [Try.params6]; exact readable_fnExactMapBack) rfl hb⟩
theorem fnExactMapBack_holds : Rows.FnExactMapBackSaid :=
  OpenClaim.holds_of_wide 6 Try.f6 rfl rfl rfl rfl rfl rfl rfl ⟨rfl, rfl, rfl, rfl, rfl⟩ rfl rfl rfl rfl rfl (by kernel_rfl) Try.func6 (by kernel_rfl)
    (of_decide_eq_true (by kernel_rfl)) (by unfold Func.isWrapper; first | (rw [if_pos (by decide +kernel)]; kernel_rfl) | (rw [if_neg (by decide +kernel)]; exact ⟨rfl, rfl⟩))
    (fun os started H enc _ => fnExactMapBack_lifted os started H enc)
#print axioms fnExactMapBack_holds
end Go.Proofs.Ytchonnfjjceicaa
