/- Without types, asked of any tree: the reference's and the program's; marks of one tree. -/
import Derived.Test.YtgakjhaepdigpaaGreatDoorBareI
import Derived.Test.YtgakjhaepdigpaaGreatDoorMks
import Derived.Test.YtgakjhaepdigpaaGreatDoorStLaw
import Derived.Test.YtgakjhaepdigpaaGreatDoorZm4
import Derived.Test.YtgakjhaepdigpaaGreatDoorRsS
namespace Go.Proofs.YtgakjhaepdigpaaGreatDoor
set_option maxRecDepth 100000
set_option linter.unusedSimpArgs false
set_option linter.unusedVariables false
open Go.RowKit
attribute [local go_sem] bs_toList bs_get bs_size

open Classical in
noncomputable def bareX (x : Ex) : Ex := if h : ∃ e : E, x = e.ex ∧ e.Ok then h.choose.bare.ex else Ex.none
theorem bareX_e {e : E} (h : e.Ok) : bareX e.ex = e.bare.ex := by
  have hx : ∃ e' : E, e.ex = e'.ex ∧ e'.Ok := ⟨e, rfl, h⟩
  unfold bareX
  rw [dif_pos hx]
  exact congrArg (fun q => (E.bare q).ex) (E.ex_inj hx.choose_spec.1).symm
theorem bareX_no {x : Ex} (h : exOkB x = false) : bareX x = Ex.none := by
  unfold bareX
  rw [dif_neg]
  intro hx
  rw [E.ok_iff.2 hx] at h
  cases h
theorem ex_nd : ∀ e : E, e.ex.nd + 1 = e.cnt
  | .num n => by simp [E.ex, Ex.nd_mk, ndL, E.cnt]
  | .nam s => by simp [E.ex, Ex.nd_mk, ndL, E.cnt]
  | .two o a b => by
    have h1 := ex_nd a
    have h2 := ex_nd b
    simp [E.ex, Ex.nd_mk, ndL, E.cnt]
    omega
  | .cast t a => by
    have h1 := ex_nd a
    simp [E.ex, Ex.nd_mk, ndL, E.cnt]
    omega
theorem bareX_nd (x : Ex) : ndL (bareX x).kids ≤ 100 := by
  cases h : exOkB x
  · rw [bareX_no h]
    decide
  · obtain ⟨e, rfl, he⟩ := E.ok_iff.1 h
    rw [bareX_e he, ← Ex.nd_kids]
    have h1 := ex_nd e.bare
    have h2 := (E.bare_Ok he).2.2
    omega
/-- a tree's parts are marked; the tree itself, by value, is as it was -/
theorem markExpr_any (x : Ex) (A : Option Addr) (c : Nat) (bl : List Nat) (w : World) (k : Nat) (hO : ExO 24 w (.slice A x.kids.length c) x.kids bl) (hnd : bl.Nodup) (hk1 : 1 ≤ k) (hk2 : k + 3 * ndL x.kids ≤ 90000000) :
    Calls Tryz.prog 59 #[.agg #[.int .i64 x.kind, .int .i64 x.n, .string (bs x.s), .slice A x.kids.length c], .int .i64 (k : Int)] w fun e w' => e = .returned (.int .i64 ((k + 3 * ndL x.kids : Nat) : Int)) ∧ ∃ m, ExO 24 w' (.slice A x.kids.length c) m bl ∧ Marked k m ∧ ndL m = ndL x.kids ∧ m.length = x.kids.length ∧ Foot w w' bl := by
  have hb : Below w.heap.size w (w.alloc (.cells #[.int .i64 x.kind, .int .i64 x.n, .string (bs x.s), .slice A x.kids.length c] 24)) := by (repeat (first | with_reducible assumption | with_reducible exact Below.refl _ _ | with_reducible refine Below.setCell ?_ (by first | omega | (simp; done) | (simp; omega)) _ | with_reducible refine Below.alloc ?_ (by first | omega | (simp; done) | (simp; omega)) _ | with_reducible refine below_drewN ?_ _ | with_reducible refine Below.drew ?_))
  have H := Lib.hid (markExprS_n _ x.kids (Nat.le_refl _) _ bl _ k (hO.ext hb) hnd hk1 hk2)
  have HB := Lib.hid hb
  clear hO hb
  go_enter Tryz.func59, Tryz.ntmps59
  go_wp2_with fail
  refine H.out.mono ?_
  rintro r w2 ⟨rfl, m, hM, hmk, hnm, hlm, hF⟩
  have HX := Lib.hid (And.intro hM (And.intro hmk (And.intro hnm (And.intro hlm hF))))
  clear hM hmk hnm hlm hF
  go_wp2_with fail
  go_ret
  obtain ⟨hM, hmk, hnm, hlm, hF⟩ := HX.out
  exact ⟨rfl, m, hM, hmk, hnm, hlm, (Foot.ext HB.out).trans hF⟩
theorem heldExpr_any (p q : Int) (s : Bytes) (A : Option Addr) (c : Nat) (m : List Ex) (w : World) (k : Nat) (hS : ExS w w.heap.size (.slice A m.length c) m) (hM : Marked k m) (hk1 : 1 ≤ k) (hk2 : k + 3 * ndL m ≤ 90000000) :
    Calls Tryz.prog 60 #[.agg #[.int .i64 p, .int .i64 q, .string (bs s), .slice A m.length c], .int .i64 (k : Int)] w fun e w' => e = .returned (.int .i64 ((k + 3 * ndL m : Nat) : Int)) ∧ Below w.heap.size w w' := by
  have hb : Below w.heap.size w (w.alloc (.cells #[.int .i64 p, .int .i64 q, .string (bs s), .slice A m.length c] 24)) := by (repeat (first | with_reducible assumption | with_reducible exact Below.refl _ _ | with_reducible refine Below.setCell ?_ (by first | omega | (simp; done) | (simp; omega)) _ | with_reducible refine Below.alloc ?_ (by first | omega | (simp; done) | (simp; omega)) _ | with_reducible refine below_drewN ?_ _ | with_reducible refine Below.drew ?_))
  have H := Lib.hid (heldExprS_n _ m (Nat.le_refl _) _ _ k (hS.ext hb) hM hk1 hk2)
  have HB := Lib.hid hb
  have hnn : ¬ ((k + 3 * ndL m : Nat) : Int) < 0 := by omega
  clear hS hb
  go_enter Tryz.func60, Tryz.ntmps60
  go_wp2_with fail
  refine H.out.mono ?_
  rintro r w2 ⟨rfl, hb2⟩
  go_wp2_with fail
  go_ret
  exact ⟨rfl, by (repeat (first | with_reducible assumption | with_reducible exact Below.refl _ _ | with_reducible refine Below.setCell ?_ (by first | omega | (simp; done) | (simp; omega)) _ | with_reducible refine Below.alloc ?_ (by first | omega | (simp; done) | (simp; omega)) _ | with_reducible refine below_drewN ?_ _ | with_reducible refine Below.drew ?_ | with_reducible refine Below.trans ?_ (Below.mono hb2 (by first | omega | (simp; done) | (simp; omega)))))⟩
end Go.Proofs.YtgakjhaepdigpaaGreatDoor


/- A statement marked, and held as marked. -/
namespace Go.Proofs.YtgakjhaepdigpaaGreatDoor
set_option maxRecDepth 100000
set_option linter.unusedSimpArgs false
set_option linter.unusedVariables false
open Go.RowKit
attribute [local go_sem] bs_toList bs_get bs_size

/-- the trees of a statement's value are marked -/
def StM (s : Sm) (v : Value) (w : World) : Prop := ∃ (A1 A2 : Option Addr) (c1 c2 : Nat) (m1 m2 : List Ex), v = .agg #[.int .i64 s.kind, .string (bs s.name), .string (bs s.typ), .int .i64 s.ex.kind, .int .i64 s.ex.n, .string (bs s.ex.s), .slice A1 m1.length c1, .int .i64 s.th.kind, .int .i64 s.th.n, .string (bs s.th.s), .slice A2 m2.length c2] ∧
  ExS w w.heap.size (.slice A1 m1.length c1) m1 ∧ Marked 1 m1 ∧ ndL m1 = ndL s.ex.kids ∧ ExS w w.heap.size (.slice A2 m2.length c2) m2 ∧ Marked (1 + 3 * ndL s.ex.kids) m2 ∧ ndL m2 = ndL s.th.kids
theorem StM.ext {s : Sm} {v : Value} {w w' : World} (h : StM s v w) (hb : Ext w w') : StM s v w' := by
  obtain ⟨A1, A2, c1, c2, m1, m2, h1, h2, h3, h4, h5, h6, h7⟩ := h
  exact ⟨A1, A2, c1, c2, m1, m2, h1, h2.ext hb, h3, h4, h5.ext hb, h6, h7⟩
set_option maxHeartbeats 1000000 in
/-- a statement's trees are marked: with what, and where -/
theorem markStmtM_any (s : Sm) (v : Value) (bl : List Nat) (w : World) (hO : SmOV 24 w v s bl) (hnd : bl.Nodup) (hw : ndL s.ex.kids + ndL s.th.kids ≤ 1048576) :
    Calls Tryz.prog 15 #[v, .int .i64 1] w fun e w' => e = .returned (.int .i64 ((1 + 3 * ndL s.ex.kids + 3 * ndL s.th.kids : Nat) : Int)) ∧ StM s v w' ∧ Foot w w' bl := by
  obtain ⟨A1, A2, c1, c2, b1, b2, rfl, h1, h2, h3, h4, h5, h6, rfl⟩ := hO
  obtain ⟨hn1, hn2, hn12⟩ := List.nodup_append.1 hnd
  have hnn := hw
  generalize hW0 : World.alloc w (.cells #[.int .i64 s.kind, .string (bs s.name), .string (bs s.typ), .int .i64 s.ex.kind, .int .i64 s.ex.n, .string (bs s.ex.s), .slice A1 s.ex.kids.length c1, .int .i64 s.th.kind, .int .i64 s.th.n, .string (bs s.th.s), .slice A2 s.th.kids.length c2] 26) = W0
  have hX := Blk.new w 26 #[.int .i64 s.kind, .string (bs s.name), .string (bs s.typ), .int .i64 s.ex.kind, .int .i64 s.ex.n, .string (bs s.ex.s), .slice A1 s.ex.kids.length c1, .int .i64 s.th.kind, .int .i64 s.th.n, .string (bs s.th.s), .slice A2 s.th.kids.length c2]
  have hb : Below w.heap.size w W0 := by rw [← hW0]; (repeat (first | with_reducible assumption | with_reducible exact Below.refl _ _ | with_reducible refine Below.setCell ?_ (by first | omega | (simp; done) | (simp; omega)) _ | with_reducible refine Below.alloc ?_ (by first | omega | (simp; done) | (simp; omega)) _ | with_reducible refine below_drewN ?_ _ | with_reducible refine Below.drew ?_))
  rw [hW0] at hX
  have C1 := Lib.hid (markExpr_any s.ex A1 c1 b1 W0 1 (h5.ext hb) hn1 (by omega) (by omega))
  have hl5 := h5.lt
  have hl6 := h6.lt
  have C2 := Lib.hid (fun (w' : World) (h : Foot W0 w' b1) => markExpr_any s.th A2 c2 b2 w' (1 + 3 * ndL s.ex.kids) ((h6.ext hb).same (fun q hq => h.2.2.2.2 q (by have := hl6 q hq; have := hb.size; omega) (fun hm => hn12 _ hm _ hq rfl))) hn2 (by omega) (by omega))
  have HB := Lib.hid hb
  have hxn : w.heap.size ∉ b1 := fun h => by have := hl5 _ h; omega
  have p := fun i => hX.cell i
  have p3 := p 3; have p4 := p 4; have p5 := p 5; have p6 := p 6; have p7 := p 7; have p8 := p 8; have p9 := p 9; have p10 := p 10
  simp at p3 p4 p5 p6 p7 p8 p9 p10
  have PK := Lib.hid (fun (w' : World) (h : Foot W0 w' b1) (i : Nat) => (hX.footZ h hxn).cell i)
  have HD := Lib.hid hn12
  have hk : 1 + 3 * ndL s.ex.kids = 1 + 3 * ndL s.ex.kids := rfl
  clear h5 h6 hnd hn1 hn2 hn12 hnn hb hxn p hl5 hl6 hk
  go_enter Tryz.func15, Tryz.ntmps15
  go_upto_region 1 with fail
  go_wp2_with fail
  refine C1.out.mono ?_
  rintro r w2 ⟨rfl, m1, hM1, hk1, hn1', hl1', hF⟩
  have HM1 := Lib.hid (And.intro hM1 (And.intro hk1 (And.intro hn1' hl1')))
  clear hM1 hk1 hn1' hl1'
  have q := PK.out w2 hF
  have q7 := q 7; have q8 := q 8; have q9 := q 9; have q10 := q 10
  simp at q7 q8 q9 q10
  have C3 := Lib.hid (C2.out w2 hF)
  have HF := Lib.hid hF
  clear q hF p3 p4 p5 p6 p7 p8 p9 p10
  go_wp2_with fail
  refine C3.out.mono ?_
  rintro r w3 ⟨rfl, m2, hM2, hk2, hn2', hl2', hF2⟩
  have HM2 := Lib.hid (And.intro hM2 (And.intro hk2 (And.intro hn2' hl2')))
  have HF2 := Lib.hid hF2
  clear hF2 hM2 hk2 hn2' hl2'
  go_wp2_with fail
  go_ret
  obtain ⟨a1, a2, a3, a4⟩ := HM1.out
  obtain ⟨b1', b2', b3, b4⟩ := HM2.out
  have ha := a1.same (fun q hq => HF2.out.2.2.2.2 q (a1.lt q hq) (fun hm => HD.out _ hq _ hm rfl))
  refine ⟨rfl, ⟨A1, A2, c1, c2, m1, m2, by rw [a4, b4], ?_, a2, a3, ?_, b2', b3⟩, (Foot.ext HB.out).trans ((HF.out.more (fun x hx => List.mem_append.2 (.inl hx))).trans (HF2.out.more (fun x hx => List.mem_append.2 (.inr hx))))⟩
  · rw [a4]; exact ha.exs
  · rw [b4]; exact b1'.exs
set_option maxHeartbeats 1000000 in
theorem heldStmt_any (s : Sm) (v : Value) (w : World) (h : StM s v w) (hw : ndL s.ex.kids + ndL s.th.kids ≤ 1048576) :
    Calls Tryz.prog 16 #[v, .int .i64 1] w fun e w' => e = .returned (.int .i64 ((1 + 3 * ndL s.ex.kids + 3 * ndL s.th.kids : Nat) : Int)) ∧ Below w.heap.size w w' := by
  obtain ⟨A1, A2, c1, c2, m1, m2, rfl, h1, h2, h3, h4, h5, h6⟩ := h
  generalize hW0 : World.alloc w (.cells #[.int .i64 s.kind, .string (bs s.name), .string (bs s.typ), .int .i64 s.ex.kind, .int .i64 s.ex.n, .string (bs s.ex.s), .slice A1 m1.length c1, .int .i64 s.th.kind, .int .i64 s.th.n, .string (bs s.th.s), .slice A2 m2.length c2] 26) = W0
  have hX := Blk.new w 26 #[.int .i64 s.kind, .string (bs s.name), .string (bs s.typ), .int .i64 s.ex.kind, .int .i64 s.ex.n, .string (bs s.ex.s), .slice A1 m1.length c1, .int .i64 s.th.kind, .int .i64 s.th.n, .string (bs s.th.s), .slice A2 m2.length c2]
  have hb : Below w.heap.size w W0 := by rw [← hW0]; (repeat (first | with_reducible assumption | with_reducible exact Below.refl _ _ | with_reducible refine Below.setCell ?_ (by first | omega | (simp; done) | (simp; omega)) _ | with_reducible refine Below.alloc ?_ (by first | omega | (simp; done) | (simp; omega)) _ | with_reducible refine below_drewN ?_ _ | with_reducible refine Below.drew ?_))
  rw [hW0] at hX
  have C1 := Lib.hid (heldExpr_any s.ex.kind s.ex.n s.ex.s A1 c1 m1 W0 1 (h1.ext hb) h2 (by omega) (by omega))
  have C2 := Lib.hid (fun (w' : World) (h : Below W0.heap.size W0 w') => heldExpr_any s.th.kind s.th.n s.th.s A2 c2 m2 w' (1 + 3 * ndL s.ex.kids) ((h4.ext hb).ext h) h5 (by omega) (by omega))
  rw [h3] at C1
  rw [h6] at C2
  have HB := Lib.hid hb
  have p := fun i => hX.cell i
  have p3 := p 3; have p4 := p 4; have p5 := p 5; have p6 := p 6
  simp at p3 p4 p5 p6
  have PK := Lib.hid (fun (w' : World) (h : Below W0.heap.size W0 w') (i : Nat) => (hX.below h hX.lt).cell i)
  have hn1 : ¬ ((1 + 3 * ndL s.ex.kids : Nat) : Int) < 0 := by omega
  have hn2 : ¬ ((1 + 3 * ndL s.ex.kids + 3 * ndL s.th.kids : Nat) : Int) < 0 := by omega
  clear h1 h2 h3 h4 h5 h6 hb p hX hw
  generalize 1 + 3 * ndL s.ex.kids = k1 at *
  generalize k1 + 3 * ndL s.th.kids = k2 at *
  go_enter Tryz.func16, Tryz.ntmps16
  go_upto_region 1 with fail
  go_wp2_with fail
  refine C1.out.mono ?_
  rintro r w2 ⟨rfl, hb2⟩
  have q := PK.out w2 hb2
  have q7 := q 7; have q8 := q 8; have q9 := q 9; have q10 := q 10
  simp at q7 q8 q9 q10
  have C3 := Lib.hid (C2.out w2 hb2)
  clear q p3 p4 p5 p6 C1 C2
  go_wp2_with fail
  refine C3.out.mono ?_
  rintro r w3 ⟨rfl, hb3⟩
  have hbb := HB.out
  go_wp2_with fail
  go_ret
  exact ⟨rfl, (hbb.ext hb2).ext hb3⟩
end Go.Proofs.YtgakjhaepdigpaaGreatDoor


/- The law FnExactStmtRead: for all arguments it answers true. -/
namespace Go.Proofs.YtgakjhaepdigpaaGreatDoor
set_option maxRecDepth 100000
set_option linter.unusedSimpArgs false
set_option linter.unusedVariables false
open Go.RowKit
attribute [local go_sem] bs_toList bs_get bs_size cS

theorem nd_ok {e : E} (h : e.Ok) : ndL e.ex.kids ≤ 100000 := by
  have h1 := ex_nd e
  have h2 := h.2.2
  rw [← Ex.nd_kids]
  omega
theorem rdSm_nd (line : Bytes) : ndL (rdSm line).ex.kids + ndL (rdSm line).th.kids ≤ 1048576 := by
  cases hr : rdS line with
  | none =>
    have : rdSm line = SE.none.sm := by unfold rdSm; rw [hr]
    rw [this]
    decide
  | some t =>
    have h1 := (rdS_iff.1 hr).1.1
    have : rdSm line = t.sm := by unfold rdSm; rw [hr]
    rw [this]
    rcases t.words_head with ⟨rfl, _⟩ | ⟨nm, ty, e, rfl⟩ | ⟨e, rfl⟩ | ⟨a, b, rfl⟩
    · decide
    · have := nd_ok (e := e) h1.2
      show ndL e.ex.kids + ndL [] ≤ 1048576
      have h0 : ndL [] = 0 := rfl
      omega
    · have := nd_ok (e := e) h1
      show ndL e.ex.kids + ndL [] ≤ 1048576
      have h0 : ndL [] = 0 := rfl
      omega
    · have := nd_ok (e := a) h1.1
      have := nd_ok (e := b) h1.2
      show ndL a.ex.kids + ndL b.ex.kids ≤ 1048576
      omega
theorem eqSm_any (s : Sm) (v u : Value) (W : World) (hv : SmV W W.heap.size v s) (hu : SmV W W.heap.size u s) : Calls Tryz.prog 14 #[v, u] W fun e w' => e = .returned (.bool true) ∧ Below W.heap.size W w' :=
  (eqStmt_any s s v u W hv hu).mono fun e w' ⟨h1, h2⟩ => ⟨by rw [h1]; simp, h2⟩
set_option maxHeartbeats 4000000 in
theorem lawStmtRead (W : World) (line : Bytes) (hE : EnvA W) : Calls Tryz.prog 3 #[.string (bs line)] W fun e w' => e = .returned (.bool true) ∧ Below W.heap.size W w' := by
  by_cases h1 : line.length ≤ 1048576
  rotate_left
  · have hd : decide ((1048576 : Int) < ((line.length : Nat) : Int)) = true := by rw [decide_eq_true_eq]; omega
    clear hE
    go_enter Tryz.func3, Tryz.ntmps3
    go_wp2_with fail
    go_ret
    exact ⟨rfl, Below.refl _ _⟩
  have hd : decide ((1048576 : Int) < ((line.length : Nat) : Int)) = false := by rw [decide_eq_false_iff_not]; omega
  have CS := Lib.hid (spStmtRead_any line W (by omega))
  have CI := Lib.hid (fun (w' : World) (h : Below W.heap.size W w') => imStmtRead_any line w' (by omega) (hE.ext h))
  unfold RsA at CS CI
  have hnd := rdSm_nd line
  generalize rdSm line = s at *
  generalize rdSOk line = ok at *
  have hoo : (ok != ok) = false := by cases ok <;> rfl
  have hoo2 : (!(ok == ok)) = false := by cases ok <;> rfl
  clear hE
  go_enter Tryz.func3, Tryz.ntmps3
  go_wp2_with fail
  refine CS.out.mono ?_
  rintro r w2 ⟨v2, rfl, hT2, hb2⟩
  obtain ⟨A1, A2, c1, c2, mid, rfl, _⟩ := id hT2
  go_upto_region 4 with fail
  generalize hW3 : World.alloc _ _ = W3
  have hB3 : Blk W3 w2.heap.size 26 (cS s.kind s.name s.typ s.ex.kind s.ex.n s.ex.s (.slice A1 s.ex.kids.length c1) s.th.kind s.th.n s.th.s (.slice A2 s.th.kids.length c2)) := by rw [← hW3]; exact Blk.new _ _ _
  have hb3 : Below w2.heap.size w2 W3 := by rw [← hW3]; (repeat (first | with_reducible assumption | with_reducible exact Below.refl _ _ | with_reducible refine Below.setCell ?_ (by first | omega | (simp; done) | (simp; omega)) _ | with_reducible refine Below.alloc ?_ (by first | omega | (simp; done) | (simp; omega)) _ | with_reducible refine below_drewN ?_ _ | with_reducible refine Below.drew ?_))
  clear hW3 CS
  have hT3 := hT2.ext hb3
  have hz3 := hB3.lt
  have hW3 := hb2.ext hb3
  have hzW := hb2.size
  go_wp2_with fail
  refine (CI.out _ hW3).mono ?_
  rintro r w4 ⟨v4, rfl, hT4, hb4⟩
  obtain ⟨A3, A4, c3, c4, mid2, rfl, _⟩ := id hT4
  go_upto_region 5 with fail
  generalize hW5 : World.alloc _ _ = W5
  have hB5 : Blk W5 w4.heap.size 26 (cS s.kind s.name s.typ s.ex.kind s.ex.n s.ex.s (.slice A3 s.ex.kids.length c3) s.th.kind s.th.n s.th.s (.slice A4 s.th.kids.length c4)) := by rw [← hW5]; exact Blk.new _ _ _
  have hb5 : Below w4.heap.size w4 W5 := by rw [← hW5]; (repeat (first | with_reducible assumption | with_reducible exact Below.refl _ _ | with_reducible refine Below.setCell ?_ (by first | omega | (simp; done) | (simp; omega)) _ | with_reducible refine Below.alloc ?_ (by first | omega | (simp; done) | (simp; omega)) _ | with_reducible refine below_drewN ?_ _ | with_reducible refine Below.drew ?_))
  clear hW5
  have hz4 := hb4.size
  have hz5 := hB5.lt
  have hB3a := (hB3.below hb4 hB3.lt).below hb5 (by omega)
  have hT3a := (hT3.ext hb4).ext hb5
  have hT5 := hT4.ext hb5
  have hW5 := (hW3.ext hb4).ext hb5
  have EQ := Lib.hid (eqSm_any s _ _ W5 hT5.smv hT3a.smv)
  unfold cS at EQ
  have z0 := (hB3a).frozen 0; have z1 := (hB3a).frozen 1; have z2 := (hB3a).frozen 2; have z3 := (hB3a).frozen 3; have z4 := (hB3a).frozen 4; have z5 := (hB3a).frozen 5; have z6 := (hB3a).frozen 6; have z7 := (hB3a).frozen 7; have z8 := (hB3a).frozen 8; have z9 := (hB3a).frozen 9; have z10 := (hB3a).frozen 10
  have b0 := (hB3a).cell 0; have b1 := (hB3a).cell 1; have b2 := (hB3a).cell 2; have b3 := (hB3a).cell 3; have b4 := (hB3a).cell 4; have b5 := (hB3a).cell 5; have b6 := (hB3a).cell 6; have b7 := (hB3a).cell 7; have b8 := (hB3a).cell 8; have b9 := (hB3a).cell 9; have b10 := (hB3a).cell 10
  simp [cS] at b0 b1 b2 b3 b4 b5 b6 b7 b8 b9 b10
  have y0 := (hB5).frozen 0; have y1 := (hB5).frozen 1; have y2 := (hB5).frozen 2; have y3 := (hB5).frozen 3; have y4 := (hB5).frozen 4; have y5 := (hB5).frozen 5; have y6 := (hB5).frozen 6; have y7 := (hB5).frozen 7; have y8 := (hB5).frozen 8; have y9 := (hB5).frozen 9; have y10 := (hB5).frozen 10
  have d0 := (hB5).cell 0; have d1 := (hB5).cell 1; have d2 := (hB5).cell 2; have d3 := (hB5).cell 3; have d4 := (hB5).cell 4; have d5 := (hB5).cell 5; have d6 := (hB5).cell 6; have d7 := (hB5).cell 7; have d8 := (hB5).cell 8; have d9 := (hB5).cell 9; have d10 := (hB5).cell 10
  simp [cS] at d0 d1 d2 d3 d4 d5 d6 d7 d8 d9 d10
  go_wp2_with fail
  refine EQ.out.mono ?_
  rintro r w6 ⟨rfl, hb6⟩
  clear b0 b1 b2 b3 b4 b5 b6 b7 b8 b9 b10 z0 z1 z2 z3 z4 z5 z6 z7 z8 z9 z10 d0 d1 d2 d3 d4 d5 d6 d7 d8 d9 d10 y0 y1 y2 y3 y4 y5 y6 y7 y8 y9 y10 EQ
  have hB3b := hB3a.below hb6 hB3a.lt
  have hB5b := hB5.below hb6 hB5.lt
  have hT3b := hT3a.ext hb6
  have hT5b := hT5.ext hb6
  have hW6 := hW5.ext hb6
  have hz6 := hb6.size
  obtain ⟨bl, hO, hOw⟩ := hT5b.smov
  have MK := Lib.hid (markStmtM_any s _ bl w6 hO hOw.2 hnd)
  unfold cS at MK
  have y0 := (hB5b).frozen 0; have y1 := (hB5b).frozen 1; have y2 := (hB5b).frozen 2; have y3 := (hB5b).frozen 3; have y4 := (hB5b).frozen 4; have y5 := (hB5b).frozen 5; have y6 := (hB5b).frozen 6; have y7 := (hB5b).frozen 7; have y8 := (hB5b).frozen 8; have y9 := (hB5b).frozen 9; have y10 := (hB5b).frozen 10
  have d0 := (hB5b).cell 0; have d1 := (hB5b).cell 1; have d2 := (hB5b).cell 2; have d3 := (hB5b).cell 3; have d4 := (hB5b).cell 4; have d5 := (hB5b).cell 5; have d6 := (hB5b).cell 6; have d7 := (hB5b).cell 7; have d8 := (hB5b).cell 8; have d9 := (hB5b).cell 9; have d10 := (hB5b).cell 10
  simp [cS] at d0 d1 d2 d3 d4 d5 d6 d7 d8 d9 d10
  go_wp2_with fail
  refine MK.out.mono ?_
  rintro r w7 ⟨rfl, hSM, hF⟩
  clear d0 d1 d2 d3 d4 d5 d6 d7 d8 d9 d10 y0 y1 y2 y3 y4 y5 y6 y7 y8 y9 y10 MK hO
  have hbl := hOw.1
  have hB3c := hB3b.footZ hF (fun h => by have := hbl _ h; omega)
  have hB5c := hB5b.footZ hF (fun h => by have := hbl _ h; omega)
  have hT3c : SmT W.heap.size w2.heap.size w7 _ s := hT3b.same (fun b h1 h2 => hF.2.2.2.2 b (by omega) (fun h => by have := hbl _ h; omega))
  have hW7 : Below W.heap.size W w7 := hW6.trans (hF.below (fun q hq => by have := hbl q hq; omega) hW6.size)
  have HD := Lib.hid (fun (w' : World) (h : Below w7.heap.size w7 w') => heldStmt_any s _ w' (hSM.ext h) hnd)
  unfold cS at HD
  have hn1 : ¬ ((1 + 3 * ndL s.ex.kids + 3 * ndL s.th.kids : Nat) : Int) < 0 := by omega
  have hz7 := hF.2.2.2.1
  generalize 1 + 3 * ndL s.ex.kids + 3 * ndL s.th.kids = kk at *
  clear hSM hF hT5b hB3b hB5b hT3b hT5 hT3a hB3a hB5 hT4
  have y0 := (hB5c).frozen 0; have y1 := (hB5c).frozen 1; have y2 := (hB5c).frozen 2; have y3 := (hB5c).frozen 3; have y4 := (hB5c).frozen 4; have y5 := (hB5c).frozen 5; have y6 := (hB5c).frozen 6; have y7 := (hB5c).frozen 7; have y8 := (hB5c).frozen 8; have y9 := (hB5c).frozen 9; have y10 := (hB5c).frozen 10
  have d0 := (hB5c).cell 0; have d1 := (hB5c).cell 1; have d2 := (hB5c).cell 2; have d3 := (hB5c).cell 3; have d4 := (hB5c).cell 4; have d5 := (hB5c).cell 5; have d6 := (hB5c).cell 6; have d7 := (hB5c).cell 7; have d8 := (hB5c).cell 8; have d9 := (hB5c).cell 9; have d10 := (hB5c).cell 10
  simp [cS] at d0 d1 d2 d3 d4 d5 d6 d7 d8 d9 d10
  go_wp2_with fail
  refine (HD.out _ (Below.refl _ _)).mono ?_
  rintro r w8 ⟨rfl, hb8⟩
  clear d0 d1 d2 d3 d4 d5 d6 d7 d8 d9 d10 y0 y1 y2 y3 y4 y5 y6 y7 y8 y9 y10
  have hW8 := hW7.ext hb8
  have hB3d := hB3c.below hb8 hB3c.lt
  have hB5d := hB5c.below hb8 hB5c.lt
  have hT3d := hT3c.ext hb8
  clear hB3c hB5c hT3c
  go_wp2_with fail
  refine (CI.out _ hW8).mono ?_
  rintro r w9 ⟨v9, rfl, hT9, hb9⟩
  obtain ⟨A5, A6, c5, c6, mid3, rfl, _⟩ := id hT9
  go_upto_region 16 with fail
  generalize hWX : World.alloc _ _ = WX
  have hB9 : Blk WX w9.heap.size 26 (cS s.kind s.name s.typ s.ex.kind s.ex.n s.ex.s (.slice A5 s.ex.kids.length c5) s.th.kind s.th.n s.th.s (.slice A6 s.th.kids.length c6)) := by rw [← hWX]; exact Blk.new _ _ _
  have hbX : Below w9.heap.size w9 WX := by rw [← hWX]; (repeat (first | with_reducible assumption | with_reducible exact Below.refl _ _ | with_reducible refine Below.setCell ?_ (by first | omega | (simp; done) | (simp; omega)) _ | with_reducible refine Below.alloc ?_ (by first | omega | (simp; done) | (simp; omega)) _ | with_reducible refine below_drewN ?_ _ | with_reducible refine Below.drew ?_))
  clear hWX
  have hz8 := hb8.size
  have hz9 := hb9.size
  have hB3e := (hB3d.below hb9 hB3d.lt).below hbX (by omega)
  have hB5e := (hB5d.below hb9 hB5d.lt).below hbX (by omega)
  have hT3e := (hT3d.ext hb9).ext hbX
  have hTX := hT9.ext hbX
  have hWX := (hW8.ext hb9).ext hbX
  have hb7X := (hb8.ext hb9).ext hbX
  have EQ := Lib.hid (eqSm_any s _ _ WX hTX.smv hT3e.smv)
  unfold cS at EQ
  clear CI hT3d hT9 hTX hT3e hB3d hB5d
  have z0 := (hB3e).frozen 0; have z1 := (hB3e).frozen 1; have z2 := (hB3e).frozen 2; have z3 := (hB3e).frozen 3; have z4 := (hB3e).frozen 4; have z5 := (hB3e).frozen 5; have z6 := (hB3e).frozen 6; have z7 := (hB3e).frozen 7; have z8 := (hB3e).frozen 8; have z9 := (hB3e).frozen 9; have z10 := (hB3e).frozen 10
  have b0 := (hB3e).cell 0; have b1 := (hB3e).cell 1; have b2 := (hB3e).cell 2; have b3 := (hB3e).cell 3; have b4 := (hB3e).cell 4; have b5 := (hB3e).cell 5; have b6 := (hB3e).cell 6; have b7 := (hB3e).cell 7; have b8 := (hB3e).cell 8; have b9 := (hB3e).cell 9; have b10 := (hB3e).cell 10
  simp [cS] at b0 b1 b2 b3 b4 b5 b6 b7 b8 b9 b10
  have y0 := (hB9).frozen 0; have y1 := (hB9).frozen 1; have y2 := (hB9).frozen 2; have y3 := (hB9).frozen 3; have y4 := (hB9).frozen 4; have y5 := (hB9).frozen 5; have y6 := (hB9).frozen 6; have y7 := (hB9).frozen 7; have y8 := (hB9).frozen 8; have y9 := (hB9).frozen 9; have y10 := (hB9).frozen 10
  have d0 := (hB9).cell 0; have d1 := (hB9).cell 1; have d2 := (hB9).cell 2; have d3 := (hB9).cell 3; have d4 := (hB9).cell 4; have d5 := (hB9).cell 5; have d6 := (hB9).cell 6; have d7 := (hB9).cell 7; have d8 := (hB9).cell 8; have d9 := (hB9).cell 9; have d10 := (hB9).cell 10
  simp [cS] at d0 d1 d2 d3 d4 d5 d6 d7 d8 d9 d10
  go_wp2_with fail
  refine EQ.out.mono ?_
  rintro r wa ⟨rfl, hba⟩
  clear b0 b1 b2 b3 b4 b5 b6 b7 b8 b9 b10 z0 z1 z2 z3 z4 z5 z6 z7 z8 z9 z10 d0 d1 d2 d3 d4 d5 d6 d7 d8 d9 d10 y0 y1 y2 y3 y4 y5 y6 y7 y8 y9 y10 EQ
  have hB5f := hB5e.below hba hB5e.lt
  have hWa := hWX.ext hba
  have HD2 := Lib.hid (HD.out _ (hb7X.ext hba))
  clear HD hB3e hB9 hB5e
  have y0 := (hB5f).frozen 0; have y1 := (hB5f).frozen 1; have y2 := (hB5f).frozen 2; have y3 := (hB5f).frozen 3; have y4 := (hB5f).frozen 4; have y5 := (hB5f).frozen 5; have y6 := (hB5f).frozen 6; have y7 := (hB5f).frozen 7; have y8 := (hB5f).frozen 8; have y9 := (hB5f).frozen 9; have y10 := (hB5f).frozen 10
  have d0 := (hB5f).cell 0; have d1 := (hB5f).cell 1; have d2 := (hB5f).cell 2; have d3 := (hB5f).cell 3; have d4 := (hB5f).cell 4; have d5 := (hB5f).cell 5; have d6 := (hB5f).cell 6; have d7 := (hB5f).cell 7; have d8 := (hB5f).cell 8; have d9 := (hB5f).cell 9; have d10 := (hB5f).cell 10
  simp [cS] at d0 d1 d2 d3 d4 d5 d6 d7 d8 d9 d10
  go_wp2_with fail
  refine HD2.out.mono ?_
  rintro r wb ⟨rfl, hbb⟩
  go_wp2_with fail
  go_ret
  exact ⟨rfl, hWa.ext hbb⟩
end Go.Proofs.YtgakjhaepdigpaaGreatDoor
