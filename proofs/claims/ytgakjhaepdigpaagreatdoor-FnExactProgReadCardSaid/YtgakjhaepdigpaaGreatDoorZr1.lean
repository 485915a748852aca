/- Without types, asked of any tree: the reference's and the program's; marks of one tree. -/
import Derived.Test.YtgakjhaepdigpaaGreatDoorBareI
import Derived.Test.YtgakjhaepdigpaaGreatDoorMks
import Derived.Test.YtgakjhaepdigpaaGreatDoorStLaw
import Derived.Test.YtgakjhaepdigpaaGreatDoorZm4
namespace Go.Proofs.YtgakjhaepdigpaaGreatDoor
set_option maxRecDepth 100000
set_option linter.unusedSimpArgs false
set_option linter.unusedVariables false
open Go.RowKit
attribute [local go_sem] bs_toList bs_get bs_size

open Classical in
noncomputable def bareX (x : Ex) : Ex := if h : ∃ e : E, x = e.ex ∧ e.Ok then h.choose.bare.ex else Ex.none
theorem bareX_e {e : E} (h : e.Ok) : bareX e.ex = e.bare.ex := by
  have hx : ∃ e' : E, e.ex = e'.ex ∧ e'.Ok := ⟨e, rfl, h⟩
  unfold bareX
  rw [dif_pos hx]
  exact congrArg (fun q => (E.bare q).ex) (E.ex_inj hx.choose_spec.1).symm
theorem bareX_no {x : Ex} (h : exOkB x = false) : bareX x = Ex.none := by
  unfold bareX
  rw [dif_neg]
  intro hx
  rw [E.ok_iff.2 hx] at h
  cases h
theorem ex_nd : ∀ e : E, e.ex.nd + 1 = e.cnt
  | .num n => by simp [E.ex, Ex.nd_mk, ndL, E.cnt]
  | .nam s => by simp [E.ex, Ex.nd_mk, ndL, E.cnt]
  | .two o a b => by
    have h1 := ex_nd a
    have h2 := ex_nd b
    simp [E.ex, Ex.nd_mk, ndL, E.cnt]
    omega
  | .cast t a => by
    have h1 := ex_nd a
    simp [E.ex, Ex.nd_mk, ndL, E.cnt]
    omega
theorem bareX_nd (x : Ex) : ndL (bareX x).kids ≤ 100 := by
  cases h : exOkB x
  · rw [bareX_no h]
    decide
  · obtain ⟨e, rfl, he⟩ := E.ok_iff.1 h
    rw [bareX_e he, ← Ex.nd_kids]
    have h1 := ex_nd e.bare
    have h2 := (E.bare_Ok he).2.2
    omega
/-- a tree's parts are marked; the tree itself, by value, is as it was -/
theorem markExpr_any (x : Ex) (A : Option Addr) (c : Nat) (bl : List Nat) (w : World) (k : Nat) (hO : ExO 24 w (.slice A x.kids.length c) x.kids bl) (hnd : bl.Nodup) (hk1 : 1 ≤ k) (hk2 : k + 3 * ndL x.kids ≤ 90000000) :
    Calls Tryz.prog 59 #[.agg #[.int .i64 x.kind, .int .i64 x.n, .string (bs x.s), .slice A x.kids.length c], .int .i64 (k : Int)] w fun e w' => e = .returned (.int .i64 ((k + 3 * ndL x.kids : Nat) : Int)) ∧ ∃ m, ExO 24 w' (.slice A x.kids.length c) m bl ∧ Marked k m ∧ ndL m = ndL x.kids ∧ m.length = x.kids.length ∧ Foot w w' bl := by
  have hb : Below w.heap.size w (w.alloc (.cells #[.int .i64 x.kind, .int .i64 x.n, .string (bs x.s), .slice A x.kids.length c] 24)) := by (repeat (first | with_reducible assumption | with_reducible exact Below.refl _ _ | with_reducible refine Below.setCell ?_ (by first | omega | (simp; done) | (simp; omega)) _ | with_reducible refine Below.alloc ?_ (by first | omega | (simp; done) | (simp; omega)) _ | with_reducible refine below_drewN ?_ _ | with_reducible refine Below.drew ?_))
  have H := Lib.hid (markExprS_n _ x.kids (Nat.le_refl _) _ bl _ k (hO.ext hb) hnd hk1 hk2)
  have HB := Lib.hid hb
  clear hO hb
  go_enter Tryz.func59, Tryz.ntmps59
  go_wp2_with fail
  refine H.out.mono ?_
  rintro r w2 ⟨rfl, m, hM, hmk, hnm, hlm, hF⟩
  have HX := Lib.hid (And.intro hM (And.intro hmk (And.intro hnm (And.intro hlm hF))))
  clear hM hmk hnm hlm hF
  go_wp2_with fail
  go_ret
  obtain ⟨hM, hmk, hnm, hlm, hF⟩ := HX.out
  exact ⟨rfl, m, hM, hmk, hnm, hlm, (Foot.ext HB.out).trans hF⟩
theorem heldExpr_any (p q : Int) (s : Bytes) (A : Option Addr) (c : Nat) (m : List Ex) (w : World) (k : Nat) (hS : ExS w w.heap.size (.slice A m.length c) m) (hM : Marked k m) (hk1 : 1 ≤ k) (hk2 : k + 3 * ndL m ≤ 90000000) :
    Calls Tryz.prog 60 #[.agg #[.int .i64 p, .int .i64 q, .string (bs s), .slice A m.length c], .int .i64 (k : Int)] w fun e w' => e = .returned (.int .i64 ((k + 3 * ndL m : Nat) : Int)) ∧ Below w.heap.size w w' := by
  have hb : Below w.heap.size w (w.alloc (.cells #[.int .i64 p, .int .i64 q, .string (bs s), .slice A m.length c] 24)) := by (repeat (first | with_reducible assumption | with_reducible exact Below.refl _ _ | with_reducible refine Below.setCell ?_ (by first | omega | (simp; done) | (simp; omega)) _ | with_reducible refine Below.alloc ?_ (by first | omega | (simp; done) | (simp; omega)) _ | with_reducible refine below_drewN ?_ _ | with_reducible refine Below.drew ?_))
  have H := Lib.hid (heldExprS_n _ m (Nat.le_refl _) _ _ k (hS.ext hb) hM hk1 hk2)
  have HB := Lib.hid hb
  have hnn : ¬ ((k + 3 * ndL m : Nat) : Int) < 0 := by omega
  clear hS hb
  go_enter Tryz.func60, Tryz.ntmps60
  go_wp2_with fail
  refine H.out.mono ?_
  rintro r w2 ⟨rfl, hb2⟩
  go_wp2_with fail
  go_ret
  exact ⟨rfl, by (repeat (first | with_reducible assumption | with_reducible exact Below.refl _ _ | with_reducible refine Below.setCell ?_ (by first | omega | (simp; done) | (simp; omega)) _ | with_reducible refine Below.alloc ?_ (by first | omega | (simp; done) | (simp; omega)) _ | with_reducible refine below_drewN ?_ _ | with_reducible refine Below.drew ?_ | with_reducible refine Below.trans ?_ (Below.mono hb2 (by first | omega | (simp; done) | (simp; omega)))))⟩
end Go.Proofs.YtgakjhaepdigpaaGreatDoor


/- A statement marked, and held as marked. -/
namespace Go.Proofs.YtgakjhaepdigpaaGreatDoor
set_option maxRecDepth 100000
set_option linter.unusedSimpArgs false
set_option linter.unusedVariables false
open Go.RowKit
attribute [local go_sem] bs_toList bs_get bs_size

/-- the trees of a statement's value are marked -/
def StM (s : Sm) (v : Value) (w : World) : Prop := ∃ (A1 A2 : Option Addr) (c1 c2 : Nat) (m1 m2 : List Ex), v = .agg #[.int .i64 s.kind, .string (bs s.name), .string (bs s.typ), .int .i64 s.ex.kind, .int .i64 s.ex.n, .string (bs s.ex.s), .slice A1 m1.length c1, .int .i64 s.th.kind, .int .i64 s.th.n, .string (bs s.th.s), .slice A2 m2.length c2] ∧
  ExS w w.heap.size (.slice A1 m1.length c1) m1 ∧ Marked 1 m1 ∧ ndL m1 = ndL s.ex.kids ∧ ExS w w.heap.size (.slice A2 m2.length c2) m2 ∧ Marked (1 + 3 * ndL s.ex.kids) m2 ∧ ndL m2 = ndL s.th.kids
theorem StM.ext {s : Sm} {v : Value} {w w' : World} (h : StM s v w) (hb : Ext w w') : StM s v w' := by
  obtain ⟨A1, A2, c1, c2, m1, m2, h1, h2, h3, h4, h5, h6, h7⟩ := h
  exact ⟨A1, A2, c1, c2, m1, m2, h1, h2.ext hb, h3, h4, h5.ext hb, h6, h7⟩
set_option maxHeartbeats 1000000 in
/-- a statement's trees are marked: with what, and where -/
theorem markStmtM_any (s : Sm) (v : Value) (bl : List Nat) (w : World) (hO : SmOV 24 w v s bl) (hnd : bl.Nodup) (hw : ndL s.ex.kids + ndL s.th.kids ≤ 1048576) :
    Calls Tryz.prog 15 #[v, .int .i64 1] w fun e w' => e = .returned (.int .i64 ((1 + 3 * ndL s.ex.kids + 3 * ndL s.th.kids : Nat) : Int)) ∧ StM s v w' ∧ Foot w w' bl := by
  obtain ⟨A1, A2, c1, c2, b1, b2, rfl, h1, h2, h3, h4, h5, h6, rfl⟩ := hO
  obtain ⟨hn1, hn2, hn12⟩ := List.nodup_append.1 hnd
  have hnn := hw
  generalize hW0 : World.alloc w (.cells #[.int .i64 s.kind, .string (bs s.name), .string (bs s.typ), .int .i64 s.ex.kind, .int .i64 s.ex.n, .string (bs s.ex.s), .slice A1 s.ex.kids.length c1, .int .i64 s.th.kind, .int .i64 s.th.n, .string (bs s.th.s), .slice A2 s.th.kids.length c2] 26) = W0
  have hX := Blk.new w 26 #[.int .i64 s.kind, .string (bs s.name), .string (bs s.typ), .int .i64 s.ex.kind, .int .i64 s.ex.n, .string (bs s.ex.s), .slice A1 s.ex.kids.length c1, .int .i64 s.th.kind, .int .i64 s.th.n, .string (bs s.th.s), .slice A2 s.th.kids.length c2]
  have hb : Below w.heap.size w W0 := by rw [← hW0]; (repeat (first | with_reducible assumption | with_reducible exact Below.refl _ _ | with_reducible refine Below.setCell ?_ (by first | omega | (simp; done) | (simp; omega)) _ | with_reducible refine Below.alloc ?_ (by first | omega | (simp; done) | (simp; omega)) _ | with_reducible refine below_drewN ?_ _ | with_reducible refine Below.drew ?_))
  rw [hW0] at hX
  have C1 := Lib.hid (markExpr_any s.ex A1 c1 b1 W0 1 (h5.ext hb) hn1 (by omega) (by omega))
  have hl5 := h5.lt
  have hl6 := h6.lt
  have C2 := Lib.hid (fun (w' : World) (h : Foot W0 w' b1) => markExpr_any s.th A2 c2 b2 w' (1 + 3 * ndL s.ex.kids) ((h6.ext hb).same (fun q hq => h.2.2.2.2 q (by have := hl6 q hq; have := hb.size; omega) (fun hm => hn12 _ hm _ hq rfl))) hn2 (by omega) (by omega))
  have HB := Lib.hid hb
  have hxn : w.heap.size ∉ b1 := fun h => by have := hl5 _ h; omega
  have p := fun i => hX.cell i
  have p3 := p 3; have p4 := p 4; have p5 := p 5; have p6 := p 6; have p7 := p 7; have p8 := p 8; have p9 := p 9; have p10 := p 10
  simp at p3 p4 p5 p6 p7 p8 p9 p10
  have PK := Lib.hid (fun (w' : World) (h : Foot W0 w' b1) (i : Nat) => (hX.footZ h hxn).cell i)
  have HD := Lib.hid hn12
  have hk : 1 + 3 * ndL s.ex.kids = 1 + 3 * ndL s.ex.kids := rfl
  clear h5 h6 hnd hn1 hn2 hn12 hnn hb hxn p hl5 hl6 hk
  go_enter Tryz.func15, Tryz.ntmps15
  go_upto_region 1 with fail
  go_wp2_with fail
  refine C1.out.mono ?_
  rintro r w2 ⟨rfl, m1, hM1, hk1, hn1', hl1', hF⟩
  have HM1 := Lib.hid (And.intro hM1 (And.intro hk1 (And.intro hn1' hl1')))
  clear hM1 hk1 hn1' hl1'
  have q := PK.out w2 hF
  have q7 := q 7; have q8 := q 8; have q9 := q 9; have q10 := q 10
  simp at q7 q8 q9 q10
  have C3 := Lib.hid (C2.out w2 hF)
  have HF := Lib.hid hF
  clear q hF p3 p4 p5 p6 p7 p8 p9 p10
  go_wp2_with fail
  refine C3.out.mono ?_
  rintro r w3 ⟨rfl, m2, hM2, hk2, hn2', hl2', hF2⟩
  have HM2 := Lib.hid (And.intro hM2 (And.intro hk2 (And.intro hn2' hl2')))
  have HF2 := Lib.hid hF2
  clear hF2 hM2 hk2 hn2' hl2'
  go_wp2_with fail
  go_ret
  obtain ⟨a1, a2, a3, a4⟩ := HM1.out
  obtain ⟨b1', b2', b3, b4⟩ := HM2.out
  have ha := a1.same (fun q hq => HF2.out.2.2.2.2 q (a1.lt q hq) (fun hm => HD.out _ hq _ hm rfl))
  refine ⟨rfl, ⟨A1, A2, c1, c2, m1, m2, by rw [a4, b4], ?_, a2, a3, ?_, b2', b3⟩, (Foot.ext HB.out).trans ((HF.out.more (fun x hx => List.mem_append.2 (.inl hx))).trans (HF2.out.more (fun x hx => List.mem_append.2 (.inr hx))))⟩
  · rw [a4]; exact ha.exs
  · rw [b4]; exact b1'.exs
set_option maxHeartbeats 1000000 in
theorem heldStmt_any (s : Sm) (v : Value) (w : World) (h : StM s v w) (hw : ndL s.ex.kids + ndL s.th.kids ≤ 1048576) :
    Calls Tryz.prog 16 #[v, .int .i64 1] w fun e w' => e = .returned (.int .i64 ((1 + 3 * ndL s.ex.kids + 3 * ndL s.th.kids : Nat) : Int)) ∧ Below w.heap.size w w' := by
  obtain ⟨A1, A2, c1, c2, m1, m2, rfl, h1, h2, h3, h4, h5, h6⟩ := h
  generalize hW0 : World.alloc w (.cells #[.int .i64 s.kind, .string (bs s.name), .string (bs s.typ), .int .i64 s.ex.kind, .int .i64 s.ex.n, .string (bs s.ex.s), .slice A1 m1.length c1, .int .i64 s.th.kind, .int .i64 s.th.n, .string (bs s.th.s), .slice A2 m2.length c2] 26) = W0
  have hX := Blk.new w 26 #[.int .i64 s.kind, .string (bs s.name), .string (bs s.typ), .int .i64 s.ex.kind, .int .i64 s.ex.n, .string (bs s.ex.s), .slice A1 m1.length c1, .int .i64 s.th.kind, .int .i64 s.th.n, .string (bs s.th.s), .slice A2 m2.length c2]
  have hb : Below w.heap.size w W0 := by rw [← hW0]; (repeat (first | with_reducible assumption | with_reducible exact Below.refl _ _ | with_reducible refine Below.setCell ?_ (by first | omega | (simp; done) | (simp; omega)) _ | with_reducible refine Below.alloc ?_ (by first | omega | (simp; done) | (simp; omega)) _ | with_reducible refine below_drewN ?_ _ | with_reducible refine Below.drew ?_))
  rw [hW0] at hX
  have C1 := Lib.hid (heldExpr_any s.ex.kind s.ex.n s.ex.s A1 c1 m1 W0 1 (h1.ext hb) h2 (by omega) (by omega))
  have C2 := Lib.hid (fun (w' : World) (h : Below W0.heap.size W0 w') => heldExpr_any s.th.kind s.th.n s.th.s A2 c2 m2 w' (1 + 3 * ndL s.ex.kids) ((h4.ext hb).ext h) h5 (by omega) (by omega))
  rw [h3] at C1
  rw [h6] at C2
  have HB := Lib.hid hb
  have p := fun i => hX.cell i
  have p3 := p 3; have p4 := p 4; have p5 := p 5; have p6 := p 6
  simp at p3 p4 p5 p6
  have PK := Lib.hid (fun (w' : World) (h : Below W0.heap.size W0 w') (i : Nat) => (hX.below h hX.lt).cell i)
  have hn1 : ¬ ((1 + 3 * ndL s.ex.kids : Nat) : Int) < 0 := by omega
  have hn2 : ¬ ((1 + 3 * ndL s.ex.kids + 3 * ndL s.th.kids : Nat) : Int) < 0 := by omega
  clear h1 h2 h3 h4 h5 h6 hb p hX hw
  generalize 1 + 3 * ndL s.ex.kids = k1 at *
  generalize k1 + 3 * ndL s.th.kids = k2 at *
  go_enter Tryz.func16, Tryz.ntmps16
  go_upto_region 1 with fail
  go_wp2_with fail
  refine C1.out.mono ?_
  rintro r w2 ⟨rfl, hb2⟩
  have q := PK.out w2 hb2
  have q7 := q 7; have q8 := q 8; have q9 := q 9; have q10 := q 10
  simp at q7 q8 q9 q10
  have C3 := Lib.hid (C2.out w2 hb2)
  clear q p3 p4 p5 p6 C1 C2
  go_wp2_with fail
  refine C3.out.mono ?_
  rintro r w3 ⟨rfl, hb3⟩
  have hbb := HB.out
  go_wp2_with fail
  go_ret
  exact ⟨rfl, (hbb.ext hb2).ext hb3⟩
end Go.Proofs.YtgakjhaepdigpaaGreatDoor
