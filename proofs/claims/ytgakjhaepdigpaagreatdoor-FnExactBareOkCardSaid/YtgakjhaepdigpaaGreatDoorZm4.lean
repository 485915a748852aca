/- A statement's trees are marked; a row of words is held as marked: the walks. -/
import Derived.Test.YtgakjhaepdigpaaGreatDoorStrs
import Derived.Test.YtgakjhaepdigpaaGreatDoorMks
import Derived.Test.YtgakjhaepdigpaaGreatDoorExLaw2
import Derived.Test.YtgakjhaepdigpaaGreatDoorStLaw
import Derived.Test.YtgakjhaepdigpaaGreatDoorZm7
import Derived.Test.YtgakjhaepdigpaaGreatDoorZm10
import Derived.Deep.RegionHeld3
import Derived.Deep.CutBlock
namespace Go.Proofs.YtgakjhaepdigpaaGreatDoor
set_option maxRecDepth 100000
set_option linter.unusedSimpArgs false
set_option linter.unusedVariables false
open Go.RowKit
attribute [local go_sem] bs_toList bs_get bs_size

theorem Fr.footZ {α : Type} {row : α → List Value} {k : Nat} {t : TypeId} {w w' : World} {lo : Nat} {v : Value} {l : List α} {bl : List Nat} (h : Fr row k t w lo v l) (hF : Foot w w' bl) (hd : ∀ x ∈ bl, x < lo) : Fr row k t w' lo v l := by
  rcases h.form with ⟨rfl, rfl⟩ | ⟨g, cap, cur, rfl, hlo, hc, hm, hB, hx⟩
  · exact .inl ⟨rfl, rfl⟩
  · exact .inr ⟨g, cap, cur, rfl, hlo, hc, hm, (hF.2.2.2.2 g hB.lt (fun h => by have := hd g h; omega)).trans hB, hx⟩
theorem Blk.footZ {w w' : World} {g : Nat} {t : TypeId} {cs : Array Value} {bl : List Nat} (h : Blk w g t cs) (hF : Foot w w' bl) (hn : g ∉ bl) : Blk w' g t cs := (hF.2.2.2.2 g h.lt hn).trans h
theorem SmOV.ext {t : TypeId} {w w' : World} {v : Value} {s : Sm} {bl : List Nat} (h : SmOV t w v s bl) (hb : Ext w w') : SmOV t w' v s bl := by
  obtain ⟨A1, A2, c1, c2, b1, b2, rfl, h1, h2, h3, h4, h5, h6, rfl⟩ := h
  exact ⟨A1, A2, c1, c2, b1, b2, rfl, h1, h2, h3, h4, h5.ext hb, h6.ext hb, rfl⟩
/-- a tree's parts are marked -/
theorem markExprZ (x : Ex) (A : Option Addr) (c : Nat) (bl : List Nat) (w : World) (k : Nat) (hO : ExO 24 w (.slice A x.kids.length c) x.kids bl) (hnd : bl.Nodup) (hk1 : 1 ≤ k) (hk2 : k + 3 * ndL x.kids ≤ 90000000) :
    Calls Tryz.prog 59 #[.agg #[.int .i64 x.kind, .int .i64 x.n, .string (bs x.s), .slice A x.kids.length c], .int .i64 (k : Int)] w fun e w' => e = .returned (.int .i64 ((k + 3 * ndL x.kids : Nat) : Int)) ∧ Foot w w' bl := by
  have hb : Below w.heap.size w (w.alloc (.cells #[.int .i64 x.kind, .int .i64 x.n, .string (bs x.s), .slice A x.kids.length c] 24)) := by (repeat (first | with_reducible assumption | with_reducible exact Below.refl _ _ | with_reducible refine Below.setCell ?_ (by first | omega | (simp; done) | (simp; omega)) _ | with_reducible refine Below.alloc ?_ (by first | omega | (simp; done) | (simp; omega)) _ | with_reducible refine below_drewN ?_ _ | with_reducible refine Below.drew ?_))
  have H := Lib.hid (markExprS_n _ x.kids (Nat.le_refl _) _ bl _ k (hO.ext hb) hnd hk1 hk2)
  have HB := Lib.hid hb
  clear hO hb
  go_enter Tryz.func59, Tryz.ntmps59
  go_wp2_with fail
  refine H.out.mono ?_
  rintro r w2 ⟨rfl, m, _, _, _, _, hF⟩
  have HX := Lib.hid hF
  clear hF
  go_wp2_with fail
  go_ret
  exact ⟨rfl, (Foot.ext HB.out).trans HX.out⟩
/-- a statement's trees are marked -/
theorem markStmt_any (s : Sm) (v : Value) (bl : List Nat) (w : World) (hO : SmOV 24 w v s bl) (hnd : bl.Nodup) (hw : s.wt ≤ 1048576) :
    Calls Tryz.prog 15 #[v, .int .i64 1] w fun e w' => ∃ k : Nat, e = .returned (.int .i64 k) ∧ Foot w w' bl := by
  obtain ⟨A1, A2, c1, c2, b1, b2, rfl, h1, h2, h3, h4, h5, h6, rfl⟩ := hO
  obtain ⟨hn1, hn2, hn12⟩ := List.nodup_append.1 hnd
  have hnn : ndL s.ex.kids + ndL s.th.kids ≤ s.wt := by
    have a1 := ndL_le s.ex.kids
    have a2 := ndL_le s.th.kids
    have a3 : s.ex.wt = s.ex.s.length + wtL s.ex.kids := by cases s.ex; exact Ex.wt_mk ..
    have a4 : s.th.wt = s.th.s.length + wtL s.th.kids := by cases s.th; exact Ex.wt_mk ..
    have a5 : s.wt = s.name.length + s.typ.length + s.ex.wt + s.th.wt := rfl
    omega
  generalize hW0 : World.alloc w (.cells #[.int .i64 s.kind, .string (bs s.name), .string (bs s.typ), .int .i64 s.ex.kind, .int .i64 s.ex.n, .string (bs s.ex.s), .slice A1 s.ex.kids.length c1, .int .i64 s.th.kind, .int .i64 s.th.n, .string (bs s.th.s), .slice A2 s.th.kids.length c2] 26) = W0
  have hX := Blk.new w 26 #[.int .i64 s.kind, .string (bs s.name), .string (bs s.typ), .int .i64 s.ex.kind, .int .i64 s.ex.n, .string (bs s.ex.s), .slice A1 s.ex.kids.length c1, .int .i64 s.th.kind, .int .i64 s.th.n, .string (bs s.th.s), .slice A2 s.th.kids.length c2]
  have hb : Below w.heap.size w W0 := by rw [← hW0]; (repeat (first | with_reducible assumption | with_reducible exact Below.refl _ _ | with_reducible refine Below.setCell ?_ (by first | omega | (simp; done) | (simp; omega)) _ | with_reducible refine Below.alloc ?_ (by first | omega | (simp; done) | (simp; omega)) _ | with_reducible refine below_drewN ?_ _ | with_reducible refine Below.drew ?_))
  rw [hW0] at hX
  have C1 := Lib.hid (markExprZ s.ex A1 c1 b1 W0 1 (h5.ext hb) hn1 (by omega) (by omega))
  have hl5 := h5.lt
  have hl6 := h6.lt
  have C2 := Lib.hid (fun (w' : World) (h : Foot W0 w' b1) => markExprZ s.th A2 c2 b2 w' (1 + 3 * ndL s.ex.kids) ((h6.ext hb).same (fun q hq => h.2.2.2.2 q (by have := hl6 q hq; have := hb.size; omega) (fun hm => hn12 _ hm _ hq rfl))) hn2 (by omega) (by omega))
  have HB := Lib.hid hb
  have hxn : w.heap.size ∉ b1 := fun h => by have := hl5 _ h; omega
  have p := fun i => hX.cell i
  have p3 := p 3; have p4 := p 4; have p5 := p 5; have p6 := p 6; have p7 := p 7; have p8 := p 8; have p9 := p 9; have p10 := p 10
  simp at p3 p4 p5 p6 p7 p8 p9 p10
  have PK := Lib.hid (fun (w' : World) (h : Foot W0 w' b1) (i : Nat) => (hX.footZ h hxn).cell i)
  generalize hk : 1 + 3 * ndL s.ex.kids = k at *
  clear h5 h6 hnd hn1 hn2 hn12 hnn hb hxn p hl5 hl6 hk
  go_enter Tryz.func15, Tryz.ntmps15
  go_upto_region 1 with fail
  go_wp2_with fail
  refine C1.out.mono ?_
  rintro r w2 ⟨rfl, hF⟩
  have q := PK.out w2 hF
  have q7 := q 7; have q8 := q 8; have q9 := q 9; have q10 := q 10
  simp at q7 q8 q9 q10
  have C3 := Lib.hid (C2.out w2 hF)
  have HF := Lib.hid hF
  clear q hF p3 p4 p5 p6 p7 p8 p9 p10
  go_wp2_with fail
  refine C3.out.mono ?_
  rintro r w3 ⟨rfl, hF2⟩
  have HF2 := Lib.hid hF2
  clear hF2
  go_wp2_with fail
  go_ret
  exact ⟨_, rfl, (Foot.ext HB.out).trans ((HF.out.more (fun x hx => List.mem_append.2 (.inl hx))).trans (HF2.out.more (fun x hx => List.mem_append.2 (.inr hx))))⟩
end Go.Proofs.YtgakjhaepdigpaaGreatDoor


/- Without types: the reference's and the program's walks. -/
namespace Go.Proofs.YtgakjhaepdigpaaGreatDoor
set_option maxRecDepth 100000
set_option linter.unusedSimpArgs false
set_option linter.unusedVariables false
open Go.RowKit
attribute [local go_sem] bs_toList bs_get bs_size

/-- trees gathered by append: a row of the call's own; what is below lies elsewhere -/
def GrP (B : Nat) (w : World) (u : Value) (l : List Ex) (fl : List FE) (bls : List (List Nat)) : Prop :=
  Gt feRow 4 24 B w u fl ∧ fl.length = l.length ∧ bls.length = l.length ∧
    (∀ (i : Nat) (f : FE) (e : Ex), fl[i]? = some f → l[i]? = some e → f.kind = e.kind ∧ f.n = e.n ∧ f.s = e.s ∧ f.s.length ≤ 9223372036854775807) ∧
    (∀ (i : Nat) (f : FE) (e : Ex) (b : List Nat), fl[i]? = some f → l[i]? = some e → bls[i]? = some b → ExO 24 w f.kv e.kids b) ∧
    ∀ q ∈ bls.flatten, B ≤ q ∧ q < w.heap.size ∧ u.ownBlock ≠ some q
theorem GrP.ext {B : Nat} {w w' : World} {u : Value} {l : List Ex} {fl : List FE} {bls : List (List Nat)} (h : GrP B w u l fl bls) (hb : Ext w w') : GrP B w' u l fl bls := by
  obtain ⟨h1, h2, h3, h4, h5, h6⟩ := h
  exact ⟨h1.ext hb, h2, h3, h4, fun i f e b a1 a2 a3 => (h5 i f e b a1 a2 a3).ext hb, fun q hq => ⟨(h6 q hq).1, Nat.lt_of_lt_of_le (h6 q hq).2.1 hb.size, (h6 q hq).2.2⟩⟩
def GrE (B : Nat) (w : World) (u : Value) (l : List Ex) : Prop := ∃ (fl : List FE) (bls : List (List Nat)), GrP B w u l fl bls
theorem GrE.nil (B : Nat) (w : World) : GrE B w (.slice none 0 0) [] := ⟨[], [], Gt.nil _ _ _ _ _, rfl, rfl, fun i f e h => by simp at h, fun i f e b h => by simp at h, fun q h => by simp at h⟩
theorem GrE.far {B g : Nat} {w : World} {u : Value} {l : List Ex} (h : GrE B w u l) (hg : g < B) (i : Nat) (v : Value) : GrE B (w.setCell ⟨g, i, none⟩ v) u l := by
  obtain ⟨fl, bls, h1, h2, h3, h4, h5, h6⟩ := h
  have hgr : w.grownBy (w.setCell ⟨g, i, none⟩ v) (some g) := by (repeat (first | with_reducible assumption | with_reducible exact grown_rfl _ _ | with_reducible refine grown_st ?_ _ _ | with_reducible refine grown_al ?_ _))
  refine ⟨fl, bls, h1.grown hgr ?_, h2, h3, h4, fun i' f e b a1 a2 a3 => (h5 i' f e b a1 a2 a3).same (fun x hx => ?_), fun q hq => ⟨(h6 q hq).1, by simpa using (h6 q hq).2.1, (h6 q hq).2.2⟩⟩
  · rcases hq : u.ownBlock with _ | q
    · exact .inl rfl
    · right
      intro e
      have := (h1.lt hq).1
      have := Option.some.inj e
      omega
  · exact Below.heap_setCell _ _ _ _ (by have := (h6 x (List.mem_flatten.2 ⟨b, List.mem_of_getElem? a3, hx⟩)).1; simp; omega)
theorem GrE.drk {B : Nat} {w : World} {u : Value} {l : List Ex} (h : GrE B w u l) : DrK B w u l := by
  obtain ⟨fl, bls, h1, h2, h3, h4, h5, h6⟩ := h
  rcases h1.2 with ⟨rfl, h0⟩ | ⟨g, cap, cur, rfl, hlo, hbk, hc, hm, hsz, ht⟩
  · obtain rfl : l = [] := List.length_eq_zero_iff.1 (by omega)
    exact DrK.nil _ _
  · rcases Nat.eq_zero_or_pos l.length with h0 | h0
    · obtain rfl : l = [] := List.length_eq_zero_iff.1 h0
      rw [h2]
      exact ⟨[], .nil _ cap hm, fun b h => by simp at h⟩
    · rw [h2]
      refine ⟨g :: bls.flatten, .mk g cap cur fl l bls h0 (by omega) hm hbk h2 h3 (fun i f hf j x hx => ?_) h4 h5, fun b hb => ?_⟩
      · have hx2 := flat_at' (row := feRow) (k := 4) (fun _ => rfl) fl i f hf j x hx
        rw [← ht, List.getElem?_take] at hx2
        split at hx2
        · simpa using hx2
        · cases hx2
      · rw [List.mem_cons] at hb
        rcases hb with rfl | hb
        · exact hlo
        · exact (h6 b hb).1
theorem GrP.push {B lo g cap : Nat} {w w' : World} {u : Value} {l : List Ex} {fl : List FE} {bls : List (List Nat)} {x : Ex} {f : FE} (h : GrP B w u l fl bls) (hd : DrE lo w (.agg #[.int .i64 f.kind, .int .i64 f.n, .string (bs f.s), f.kv]) x) (hlo : ∀ q, u.ownBlock = some q → q < lo) (hB : B ≤ lo)
    (hG : Gt feRow 4 24 B w' (.slice (some ⟨g, 0, none⟩) (fl.length + 1) cap) (fl ++ [f])) (hgr : w.grownBy w' u.ownBlock) (hat : u.ownBlock = some g ∨ g = w.heap.size) : GrE B w' (.slice (some ⟨g, 0, none⟩) (fl.length + 1) cap) (l ++ [x]) := by
  obtain ⟨_, h2, h3, h4, h5, h6⟩ := h
  obtain ⟨kv, he, hs, bl, hO, hl⟩ := hd
  simp at he
  obtain ⟨e1, e2, e3, e4⟩ := he
  have e3 := bs_inj e3
  have hO' := hO
  rw [← e4] at hO'
  have hne : ∀ q ∈ bl, u.ownBlock ≠ some q := fun q hq e => by have := hlo q e; have := hl q hq; omega
  refine ⟨fl ++ [f], bls ++ [bl], hG, by simp [h2], by simp [h3], fun i f' e' a1 a2 => ?_, fun i f' e' b' a1 a2 a3 => ?_, fun q hq => ?_⟩
  · rcases getElem?_snoc a1 with ⟨b1, b2⟩ | ⟨b1, rfl⟩
    · rw [List.getElem?_append_left (by omega)] at a2
      exact h4 i f' e' b2 a2
    · rw [b1, h2, List.getElem?_append_right (Nat.le_refl _), Nat.sub_self] at a2
      simp at a2
      subst a2
      exact ⟨e1, e2, e3, by rw [e3]; exact hs⟩
  · rcases getElem?_snoc a1 with ⟨b1, b2⟩ | ⟨b1, rfl⟩
    · rw [List.getElem?_append_left (by omega)] at a2 a3
      have hO2 := h5 i f' e' b' b2 a2 a3
      exact hO2.same (fun x hx => hgr.block x (hO2.lt x hx) (fun e => (h6 x (List.mem_flatten.2 ⟨b', List.mem_of_getElem? a3, hx⟩)).2.2 e.symm))
    · rw [b1, h2, List.getElem?_append_right (Nat.le_refl _), Nat.sub_self] at a2
      rw [b1, h2, ← h3, List.getElem?_append_right (Nat.le_refl _), Nat.sub_self] at a3
      simp at a2 a3
      subst a2 a3
      exact hO'.same (fun x hx => hgr.block x (hO.lt x hx) (fun e => hne x hx e.symm))
  · rw [List.flatten_append, List.mem_append] at hq
    have hz := hgr.size
    rcases hq with hq | hq
    · obtain ⟨c1, c2, c3⟩ := h6 q hq
      refine ⟨c1, by omega, fun e => ?_⟩
      simp [Value.ownBlock] at e
      rcases hat with hat | hat
      · exact c3 (by rw [hat, e])
      · omega
    · simp at hq
      have c1 := hl q hq
      have c2 := hO.lt q hq
      refine ⟨by omega, by omega, fun e => ?_⟩
      simp [Value.ownBlock] at e
      rcases hat with hat | hat
      · have := hlo g hat; omega
      · omega
section
variable {ops : Array Oper} {rest : List Oper} {o : Oper} {a : Act} {Q : Exit → Act → World → Prop} {w : World}
theorem app_stepE {K : Act → World → Prop} {E : Prop} (hgd : o.guard = none) (s x : Operand) (ho : o.op = .call { callee := .builtin .append, args := #[s, x], argTypes := #[22, 22] })
    (B : Nat) (v : Value) (l : List FE) (hs : a.eval s = v) (hv : Gt feRow 4 24 B w v l) (f : FE) (hone : ∀ u ∈ feRow f, u.oneCell' = true) (g0 : Nat) (hx : a.eval x = .slice (some ⟨g0, 0, none⟩) 1 1)
    (hc : ∀ (j : Nat) (u : Value), ([f].flatMap feRow)[j]? = some u → w.cell? ((⟨g0, 0, none⟩ : Addr).add j) = some u) (hl : l.length + 1 ≤ 1000000) (hB : B ≤ w.heap.size)
    (h : ∀ g cap w', Gt feRow 4 24 B w' (.slice (some ⟨g, 0, none⟩) (l.length + 1) cap) (l ++ [f]) → w.grownBy w' v.ownBlock → (v.ownBlock = some g ∨ g = w.heap.size) → K (a.put o.dst (.slice (some ⟨g, 0, none⟩) (l.length + 1) cap)) w') :
    if Region.wanted o (yielded ops a.tmps) = true then Oper.wp Tryz.prog o a w K Q else E :=
  app_step1 (row := feRow) (k := 4) (t := 24) (tS := 22) (l2 := [f]) (fun _ => rfl) (by decide) Tryz.underlying22 infoExpr (by decide) rfl hgd s x ho B v l hs hv ⟨g0, 0, none⟩ 1 (fun s hs => by simp at hs; subst hs; exact hone) hx hc (Nat.succ_pos 0) hl hB h
end
theorem fe_one {k n : Int} {s : Bytes} {A : Option Addr} {m c : Nat} : ∀ u ∈ feRow ⟨k, n, s, .slice A m c⟩, u.oneCell' = true := by
  intro u hu
  simp [feRow] at hu
  rcases hu with rfl | rfl | rfl | rfl <;> rfl
theorem news_fe {V : World} {n : Nat} {l : List FE} {t : TypeId} (h : V.heap.size = n) : ∀ (j : Nat) (u : Value), (l.flatMap feRow)[j]? = some u → (V.alloc (.cells (l.flatMap feRow).toArray t)).cell? ((⟨n, 0, none⟩ : Addr).add j) = some u := h ▸ World.news_of_block (heap_alloc_new V _)
def vEx (k n : Int) (s : Bytes) (kv : Value) : Value := .agg #[.int .i64 k, .int .i64 n, .string (bs s), kv]
theorem take_succ_ex {l : List Ex} {j : Nat} {x : Ex} (h : l[j]? = some x) : l.take (j + 1) = l.take j ++ [x] := by
  obtain ⟨hj, rfl⟩ := List.getElem?_eq_some_iff.1 h
  rw [List.take_succ_eq_append_getElem hj]

end Go.Proofs.YtgakjhaepdigpaaGreatDoor
