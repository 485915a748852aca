
/- The words of what is reckoned, be it right or not: the program's and the reference's ExprWords. What is drawn for them. -/
import Derived.Test.YtojoknalnmmpeaaGreatDoorDwO
import Derived.Test.YtojoknalnmmpeaaGreatDoorRdE
import Derived.Test.YtojoknalnmmpeaaGreatDoorTokS
import Derived.Test.YtojoknalnmmpeaaGreatDoorWds
import Derived.Test.YtojoknalnmmpeaaGreatDoorLawBr
namespace Go.Proofs.YtojoknalnmmpeaaGreatDoor
set_option maxRecDepth 100000
set_option linter.unusedSimpArgs false
set_option linter.unusedVariables false
open Go.RowKit
attribute [local go_sem] bs_toList bs_get bs_size

theorem slb_nil (A : Option Addr) (c : Nat) (hc : c ≤ maxLen) (w : World) (B : Nat) : SlB w B (.slice A 0 c) [] := ⟨A, c, rfl, Nat.zero_le _, hc, fun h => absurd h (by simp)⟩
/-- the words of a tree that is right, else none -/
noncomputable def exW (x : Ex) : List Bytes := open Classical in if h : ∃ e : E, x = e.ex ∧ e.Ok then h.choose.words 1 else []
theorem exW_yes {e : E} (h : e.Ok) : exW e.ex = e.words 1 := by
  have hx : ∃ g : E, e.ex = g.ex ∧ g.Ok := ⟨e, rfl, h⟩
  unfold exW
  rw [dif_pos hx]
  rw [← E.ex_inj hx.choose_spec.1]
theorem exW_no {x : Ex} (h : exOkB x = false) : exW x = [] := by
  unfold exW
  rw [dif_neg]
  intro hx
  rw [E.ok_iff.2 hx] at h
  cases h
theorem exW_len (x : Ex) : (exW x).length ≤ 58 := by
  by_cases h : exOkB x = true
  · obtain ⟨e, rfl, he⟩ := E.ok_iff.1 h
    rw [exW_yes he]
    have := E.words_len e 1
    have := he.2.2
    omega
  · rw [exW_no (by simpa using h)]; simp
theorem exW_short (x : Ex) : ∀ s ∈ exW x, 1 ≤ s.length ∧ s.length ≤ 8 := by
  by_cases h : exOkB x = true
  · obtain ⟨e, rfl, he⟩ := E.ok_iff.1 h
    rw [exW_yes he]
    exact E.words_short e 1 he.1
  · rw [exW_no (by simpa using h)]; intro s hs; simp at hs
theorem imEW_any (x : Ex) (v : Value) (w : World) (hv : ExV w w.heap.size v x) (hE : Env w) : Calls Tryz.prog 5 #[v] w fun r w' => ∃ u, r = .returned u ∧ SlB w' w'.heap.size u (exW x) ∧ Below w.heap.size w w' := by
  by_cases hx : exOkB x = true
  · obtain ⟨e, rfl, he⟩ := E.ok_iff.1 hx
    rw [exW_yes he]
    exact imExprWords_any e v w he hv hE
  · replace hx : exOkB x = false := by simpa using hx
    rw [exW_no hx]
    obtain ⟨A, c, rfl, hc, hcm, hs, hk⟩ := hv.form4
    have OK := Lib.hid (fun (w' : World) (h : Below w.heap.size w w') => imOk_any x _ w' ((hv.keep h (Nat.le_refl _)).more h.size) (hE.ext h))
    rw [hx] at OK
    clear hv hk hx
    go_enter Tryz.func5, Tryz.ntmps5
    go_wp2_with fail
    refine (OK.out _ (by (repeat (first | with_reducible assumption | with_reducible exact Below.refl _ _ | with_reducible refine Below.setCell ?_ (by first | omega | (simp; done) | (simp; omega)) _ | with_reducible refine Below.alloc ?_ (by first | omega | (simp; done) | (simp; omega)) _ | with_reducible refine below_drewN ?_ _ | with_reducible refine Below.drew ?_)))).mono ?_
    rintro r w1 ⟨rfl, hb1⟩
    have hbw1 : Below w.heap.size w w1 := by (repeat (first | with_reducible assumption | with_reducible exact Below.refl _ _ | with_reducible refine Below.setCell ?_ (by first | omega | (simp; done) | (simp; omega)) _ | with_reducible refine Below.alloc ?_ (by first | omega | (simp; done) | (simp; omega)) _ | with_reducible refine below_drewN ?_ _ | with_reducible refine Below.drew ?_ | with_reducible refine Below.trans ?_ (Below.mono hb1 (by first | omega | (simp; done) | (simp; omega)))))
    have hzw1 := hbw1.size
    go_wp2_with fail
    go_ret
    exact ⟨_, rfl, slb_nil _ _ (by unfold maxLen; omega) _ _, by (repeat (first | with_reducible assumption | with_reducible exact Below.refl _ _ | with_reducible refine Below.setCell ?_ (by first | omega | (simp; done) | (simp; omega)) _ | with_reducible refine Below.alloc ?_ (by first | omega | (simp; done) | (simp; omega)) _ | with_reducible refine below_drewN ?_ _ | with_reducible refine Below.drew ?_ | with_reducible refine Below.trans ?_ (Below.mono hbw1 (by first | omega | (simp; done) | (simp; omega)))))⟩
theorem spEWyes (e : E) (v : Value) (w : World) (hok : e.Ok) (hv : ExV w w.heap.size v e.ex) : Calls Tryz.prog 6 #[v] w fun r w' => ∃ u, r = .returned u ∧ GtS w.heap.size w' u (e.words 1) ∧ Below w.heap.size w w' := by
  obtain ⟨A, c, rfl, hc, hcm, hs, hk⟩ := hv.form4
  have OK := Lib.hid (fun (w' : World) (h : Below w.heap.size w w') => spOk_any e.ex _ w' ((hv.keep h (Nat.le_refl _)).more h.size))
  rw [show exOkB e.ex = true from E.ok_iff.2 ⟨e, rfl, hok⟩] at OK
  have WD := Lib.hid (fun (w' : World) (h : Below w.heap.size w w') => spWords_any e 1 _ w' hok.1 (by have := hok.2.2; omega) (by omega) ((hv.keep h (Nat.le_refl _)).more h.size))
  generalize e.words 1 = ws at *
  have hX := Blk.new w 25 (bxE e.ex A c)
  simp only [bxE] at hX
  clear hv hk hok
  generalize e.ex = x at *
  go_enter Tryz.func6, Tryz.ntmps6
  go_wp2_with fail
  refine (OK.out _ (by (repeat (first | with_reducible assumption | with_reducible exact Below.refl _ _ | with_reducible refine Below.setCell ?_ (by first | omega | (simp; done) | (simp; omega)) _ | with_reducible refine Below.alloc ?_ (by first | omega | (simp; done) | (simp; omega)) _ | with_reducible refine below_drewN ?_ _ | with_reducible refine Below.drew ?_)))).mono ?_
  rintro r w1 ⟨rfl, hb1⟩
  skip; replace hX := hX.below hb1 hX.lt
  have hbw1 : Below w.heap.size w w1 := by (repeat (first | with_reducible assumption | with_reducible exact Below.refl _ _ | with_reducible refine Below.setCell ?_ (by first | omega | (simp; done) | (simp; omega)) _ | with_reducible refine Below.alloc ?_ (by first | omega | (simp; done) | (simp; omega)) _ | with_reducible refine below_drewN ?_ _ | with_reducible refine Below.drew ?_ | with_reducible refine Below.trans ?_ (Below.mono hb1 (by first | omega | (simp; done) | (simp; omega)))))
  skip; have pa0 := hX.cell 0; have pa1 := hX.cell 1; have pa2 := hX.cell 2; have pa3 := hX.cell 3; simp at pa0 pa1 pa2 pa3
  clear hX hb1 OK
  go_wp2_with fail
  refine (WD.out _ hbw1).mono ?_
  rintro r w2 ⟨u, rfl, hG, hb2⟩
  have HG := Lib.hid (hG.less hbw1.size)
  clear hG
  go_wp2_with fail
  go_ret
  exact ⟨_, rfl, HG.out, hbw1.ext hb2⟩
theorem spEW_any (x : Ex) (v : Value) (w : World) (hv : ExV w w.heap.size v x) : Calls Tryz.prog 6 #[v] w fun r w' => ∃ u, r = .returned u ∧ GtS w.heap.size w' u (exW x) ∧ Below w.heap.size w w' := by
  by_cases hx : exOkB x = true
  · obtain ⟨e, rfl, he⟩ := E.ok_iff.1 hx
    rw [exW_yes he]
    exact spEWyes e v w he hv
  · replace hx : exOkB x = false := by simpa using hx
    rw [exW_no hx]
    obtain ⟨A, c, rfl, hc, hcm, hs, hk⟩ := hv.form4
    have OK := Lib.hid (fun (w' : World) (h : Below w.heap.size w w') => spOk_any x _ w' ((hv.keep h (Nat.le_refl _)).more h.size))
    rw [hx] at OK
    clear hv hk hx
    go_enter Tryz.func6, Tryz.ntmps6
    go_wp2_with fail
    refine (OK.out _ (by (repeat (first | with_reducible assumption | with_reducible exact Below.refl _ _ | with_reducible refine Below.setCell ?_ (by first | omega | (simp; done) | (simp; omega)) _ | with_reducible refine Below.alloc ?_ (by first | omega | (simp; done) | (simp; omega)) _ | with_reducible refine below_drewN ?_ _ | with_reducible refine Below.drew ?_)))).mono ?_
    rintro r w1 ⟨rfl, hb1⟩
    have hbw1 : Below w.heap.size w w1 := by (repeat (first | with_reducible assumption | with_reducible exact Below.refl _ _ | with_reducible refine Below.setCell ?_ (by first | omega | (simp; done) | (simp; omega)) _ | with_reducible refine Below.alloc ?_ (by first | omega | (simp; done) | (simp; omega)) _ | with_reducible refine below_drewN ?_ _ | with_reducible refine Below.drew ?_ | with_reducible refine Below.trans ?_ (Below.mono hb1 (by first | omega | (simp; done) | (simp; omega)))))
    have hzw1 := hbw1.size
    go_wp2_with fail
    go_ret
    exact ⟨_, rfl, gt_empty strRow 1 9 w1 _ hbw1.size (Below.refl _ _), by (repeat (first | with_reducible assumption | with_reducible exact Below.refl _ _ | with_reducible refine Below.setCell ?_ (by first | omega | (simp; done) | (simp; omega)) _ | with_reducible refine Below.alloc ?_ (by first | omega | (simp; done) | (simp; omega)) _ | with_reducible refine below_drewN ?_ _ | with_reducible refine Below.drew ?_ | with_reducible refine Below.trans ?_ (Below.mono hbw1 (by first | omega | (simp; done) | (simp; omega)))))⟩
theorem CodeV.later {w w' : World} {v : Value} {l : List Int} (h : CodeV w v l) (hb : Below w.heap.size w w') : CodeV w' v l := ⟨(h.1.below hb (Nat.le_refl _)).more hb.size, h.2⟩
theorem drawEW_any (v : Value) (l : List Int) (w : World) (hv : CodeV w v l) : Calls Tryz.prog 4 #[v] w fun e w' => ∃ (u : Value) (x : Ex), e = .returned u ∧ DrE w.heap.size w' u x ∧ Below w.heap.size w w' := by
  have OP := Lib.hid (fun (w' : World) (h : Below w.heap.size w w') => l12Open_any v l w' (hv.later h))
  obtain ⟨A, c, rfl, hc, hm⟩ := hv.1.val
  clear hv
  go_enter Tryz.func4, Tryz.ntmps4
  go_upto_region 1 with fail
  generalize hW : World.alloc w _ = W1
  have hbW : Below w.heap.size w W1 := by rw [← hW]; (repeat (first | with_reducible assumption | with_reducible exact Below.refl _ _ | with_reducible refine Below.setCell ?_ (by first | omega | (simp; done) | (simp; omega)) _ | with_reducible refine Below.alloc ?_ (by first | omega | (simp; done) | (simp; omega)) _ | with_reducible refine below_drewN ?_ _ | with_reducible refine Below.drew ?_))
  have hB1 : Blk W1 w.heap.size 25 #[.int .i64 0, .int .i64 0, .string ⟨#[]⟩, .slice none 0 0] := by rw [← hW]; exact Blk.new _ _ _
  clear hW
  go_wp2_with fail
  refine (OP.out _ hbW).mono ?_
  rintro r w1 ⟨rfl, hR, hb1⟩
  go_wp2_with fail
  refine (l4Bent_any _ 0 w1 hR (by omega)).mono ?_
  rintro r w2 ⟨v2, x, p2, rfl, hE2, hR2, hp2, hg2⟩
  have hz := hb1.size
  have hr1 := hR.lt
  have hlt := hB1.lt
  have hB2 := blk_gr (hB1.below hb1 hlt) hg2 (by omega)
  have hb02 : Below w.heap.size w w2 := (hbW.ext hb1).trans ((below_of_grown hg2 (Nat.le_refl _) hr1).mono (by have := hbW.size; omega))
  have hX := hE2.less (lo' := w.heap.size + 1) (by omega)
  obtain ⟨A1, cp, rfl, hc1, hm1, hs, hK⟩ := hE2.exv.form4
  have HX := Lib.hid (And.intro hX hb02)
  have z0 := hB2.frozen 0; have z1 := hB2.frozen 1; have z2 := hB2.frozen 2; have z3 := hB2.frozen 3
  have r0 := hB2.cell 0; have r1 := hB2.cell 1; have r2 := hB2.cell 2; have r3 := hB2.cell 3
  simp at r0 r1 r2 r3
  clear hX hE2 hB2 hR2 hg2 hR hB1 hb02 hK
  go_wp2_with fail
  refine bodyPost_ret (v := .agg #[.int .i64 x.kind, .int .i64 x.n, .string (bs x.s), .slice A1 x.kids.length cp]) (by simp [results, Tryz.results4, go_sem, *]) rfl ?_
  have hbe := HX.out.2
  exact ⟨_, x, rfl, (HX.out.1.grown (r := some w.heap.size) (by (repeat (first | with_reducible assumption | with_reducible exact grown_rfl _ _ | with_reducible refine grown_st ?_ _ _ | with_reducible refine grown_al ?_ _))) (fun q e => by have := Option.some.inj e; omega)).less (by omega), by (repeat (first | with_reducible assumption | with_reducible exact Below.refl _ _ | with_reducible refine Below.setCell ?_ (by first | omega | (simp; done) | (simp; omega)) _ | with_reducible refine Below.alloc ?_ (by first | omega | (simp; done) | (simp; omega)) _ | with_reducible refine below_drewN ?_ _ | with_reducible refine Below.drew ?_ | with_reducible refine Below.trans ?_ (Below.mono hbe (by first | omega | (simp; done) | (simp; omega)))))⟩
end Go.Proofs.YtojoknalnmmpeaaGreatDoor
