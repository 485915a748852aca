
/- The program's reader of a line's words. -/
import Derived.Test.YtgakjhaepdigpaaGreatDoorZm7
import Derived.Test.YtgakjhaepdigpaaGreatDoorRdE
import Derived.Test.YtgakjhaepdigpaaGreatDoorDwS
import Derived.Test.YtgakjhaepdigpaaGreatDoorStLaw
namespace Go.Proofs.YtgakjhaepdigpaaGreatDoor
set_option maxRecDepth 100000
set_option linter.unusedSimpArgs false
set_option linter.unusedVariables false
open Go.RowKit
attribute [local go_sem] bs_toList bs_get bs_size

theorem blkS11 {w : World} {g : Nat} {t : TypeId} {k : Int} {nm ty : Bytes} {k1 n1 : Int} {s1 : Bytes} {u1 : Value} {k2 n2 : Int} {s2 : Bytes} {u2 : Value} (h : Blk w g t (cS k nm ty k1 n1 s1 u1 k2 n2 s2 u2)) (v0 v1 v2 v3 v4 v5 v6 v7 v8 v9 v10 : Value) : Blk (((((((((((w.setCell ⟨g, 0, none⟩ v0).setCell ⟨g, 1, none⟩ v1).setCell ⟨g, 2, none⟩ v2).setCell ⟨g, 3, none⟩ v3).setCell ⟨g, 4, none⟩ v4).setCell ⟨g, 5, none⟩ v5).setCell ⟨g, 6, none⟩ v6).setCell ⟨g, 7, none⟩ v7).setCell ⟨g, 8, none⟩ v8).setCell ⟨g, 9, none⟩ v9).setCell ⟨g, 10, none⟩ v10) g t #[v0, v1, v2, v3, v4, v5, v6, v7, v8, v9, v10] := by
  have q := (((((((((((h.set_ 0 v0).set_ 1 v1).set_ 2 v2).set_ 3 v3).set_ 4 v4).set_ 5 v5).set_ 6 v6).set_ 7 v7).set_ 8 v8).set_ 9 v9).set_ 10 v10)
  simp [cS] at q
  exact q
/-- a statement of the call's own, by value: its trees' blocks lie between two bounds, each once -/
def SmT (lo hi : Nat) (w : World) (v : Value) (s : Sm) : Prop := ∃ (A1 A2 : Option Addr) (c1 c2 mid : Nat), v = .agg (cS s.kind s.name s.typ s.ex.kind s.ex.n s.ex.s (.slice A1 s.ex.kids.length c1) s.th.kind s.th.n s.th.s (.slice A2 s.th.kids.length c2)) ∧ s.name.length ≤ 1000 ∧ s.typ.length ≤ 1000 ∧
  TrM lo mid w (.agg #[.int .i64 s.ex.kind, .int .i64 s.ex.n, .string (bs s.ex.s), .slice A1 s.ex.kids.length c1]) s.ex ∧ TrM mid hi w (.agg #[.int .i64 s.th.kind, .int .i64 s.th.n, .string (bs s.th.s), .slice A2 s.th.kids.length c2]) s.th ∧ lo ≤ mid ∧ mid ≤ hi
theorem SmT.same {lo hi : Nat} {w w' : World} {v : Value} {s : Sm} (h : SmT lo hi w v s) (hb : ∀ b, lo ≤ b → b < hi → w'.heap[b]? = w.heap[b]?) : SmT lo hi w' v s := by
  obtain ⟨A1, A2, c1, c2, mid, h1, h2, h3, h4, h5, h6, h7⟩ := h
  exact ⟨A1, A2, c1, c2, mid, h1, h2, h3, h4.same (fun b k1 k2 => hb b k1 (by omega)), h5.same (fun b k1 k2 => hb b (by omega) k2), h6, h7⟩
theorem SmT.widen {lo hi lo' hi' : Nat} {w : World} {v : Value} {s : Sm} (h : SmT lo hi w v s) (k1 : lo' ≤ lo) (k2 : hi ≤ hi') : SmT lo' hi' w v s := by
  obtain ⟨A1, A2, c1, c2, mid, h1, h2, h3, h4, h5, h6, h7⟩ := h
  exact ⟨A1, A2, c1, c2, mid, h1, h2, h3, h4.widen k1 (Nat.le_refl _), h5.widen (Nat.le_refl _) k2, by omega, by omega⟩
theorem SmT.ext {lo hi : Nat} {w w' : World} {v : Value} {s : Sm} (h : SmT lo hi w v s) (hb : Ext w w') : SmT lo hi w' v s := by
  obtain ⟨A1, A2, c1, c2, mid, h1, h2, h3, h4, h5, h6, h7⟩ := h
  exact ⟨A1, A2, c1, c2, mid, h1, h2, h3, h4.ext hb, h5.ext hb, h6, h7⟩
theorem SmT.smov {lo hi : Nat} {w : World} {v : Value} {s : Sm} (h : SmT lo hi w v s) : ∃ bl, SmOV 24 w v s bl ∧ Own lo hi bl := by
  obtain ⟨A1, A2, c1, c2, mid, rfl, h2, h3, ⟨kv1, b1, e1, g1, o1, w1⟩, ⟨kv2, b2, e2, g2, o2, w2⟩, h6, h7⟩ := h
  have f1 : Value.slice A1 s.ex.kids.length c1 = kv1 := by simpa using e1
  have f2 : Value.slice A2 s.th.kids.length c2 = kv2 := by simpa using e2
  subst f1 f2
  exact ⟨b1 ++ b2, ⟨A1, A2, c1, c2, b1, b2, rfl, by omega, by omega, g1, g2, o1, o2, rfl⟩, w1.append w2 (Nat.le_refl _) h6 h7⟩
theorem SmT.smv {lo hi : Nat} {w : World} {v : Value} {s : Sm} (h : SmT lo hi w v s) : SmV w w.heap.size v s := by
  obtain ⟨bl, h1, _⟩ := h.smov
  exact h1.smv
theorem SmT.zero (lo : Nat) (w : World) : SmT lo lo w (.agg zS) SE.none.sm :=
  ⟨none, none, 0, 0, lo, rfl, by simp [SE.sm], by simp [SE.sm], TrM.leaf lo lo w 0 0 [] (by simp), TrM.leaf lo lo w 0 0 [] (by simp), Nat.le_refl _, Nat.le_refl _⟩
theorem RdL.yes {ws : List Bytes} {s : Sm} {b : Bool} (h : RdL ws s b) : RdL ws s true := fun t h1 h2 => ⟨(h t h1 h2).1, rfl⟩
theorem slb_from {w : World} {B b o n c m : Nat} {l : List Bytes} (h : SlB w B (.slice (some ⟨b, o, none⟩) n c) l) (hm : m ≤ l.length) (A : Option Addr) (hA : m < l.length → A = some ⟨b, o + m, none⟩) : SlB w B (.slice A (l.length - m) (c - m)) (l.drop m) := by
  obtain ⟨A', c', hv, hc, hx, hh⟩ := h
  obtain ⟨hA', _, rfl⟩ : some ⟨b, o, none⟩ = A' ∧ n = l.length ∧ c = c' := by injection hv; exact ⟨‹_›, ‹_›, ‹_›⟩
  refine ⟨A, c - m, by rw [List.length_drop], by rw [List.length_drop]; omega, by omega, fun h0 => ?_⟩
  rw [List.length_drop] at h0
  obtain ⟨b', o', hA2, hb, hy⟩ := hh (by omega)
  rw [← hA'] at hA2
  obtain ⟨rfl, rfl⟩ : b = b' ∧ o = o' := by injection hA2 with e; injection e; exact ⟨‹_›, ‹_›⟩
  exact ⟨b, o + m, hA (by omega), hb, fun i t ht j x hj => by
    have := hy (m + i) t (by rw [List.getElem?_drop] at ht; exact ht) j x hj
    rw [show o + (m + i) * 1 + j = o + m + i * 1 + j by omega] at this
    exact this⟩
/-- what the program's reader of words gives -/
def RsP (ws : List Bytes) (w : World) (e : Ending) (w' : World) : Prop := ∃ (v : Value) (s : Sm), e = .returned v ∧ SmT w.heap.size w'.heap.size w' v s ∧ RdL ws s true ∧ Below w.heap.size w w'
set_option maxHeartbeats 2000000 in
theorem imReadA_any (ws : List Bytes) (v : Value) (w : World) (hv : SlB w w.heap.size v ws) (hs : ∀ s ∈ ws, s.length ≤ 120) (hl : ws.length ≤ 120) (hE : EnvA w) (hAS : ws.length = 0 ∨ ∃ x, ws[0]? = some x ∧ ((5 < ws.length ∧ x = cLet) ∨ x = cSay)) : Calls Tryz.prog 57 #[v] w (RsP ws w) := by
  have ER := Lib.hid (fun (ls : List Bytes) (u : Value) (w' : World) (h : Below w.heap.size w w') (hu : SlB w' w'.heap.size u ls) (hls : ∀ s ∈ ls, s.length ≤ 100000000) => imExprRead_any ls u w' hu hls (hE.ext h))
  clear hE
  obtain ⟨A, c, rfl, hc, hm⟩ := id hv.val
  by_cases h0 : ws.length = 0
  · obtain rfl : ws = [] := List.length_eq_zero_iff.1 h0
    go_enter Tryz.func57, Tryz.ntmps57
    go_upto_region 2 with fail
    generalize hW : World.alloc (World.alloc w _) _ = W1
    have hbW : Below w.heap.size w W1 := by rw [← hW]; (repeat (first | with_reducible assumption | with_reducible exact Below.refl _ _ | with_reducible refine Below.setCell ?_ (by first | omega | (simp; done) | (simp; omega)) _ | with_reducible refine Below.alloc ?_ (by first | omega | (simp; done) | (simp; omega)) _ | with_reducible refine below_drewN ?_ _ | with_reducible refine Below.drew ?_))
    have hB2 : Blk W1 w.heap.size 26 zS := by rw [← hW]; exact (Blk.new _ _ _).alloc _
    have hB3 : Blk W1 (w.heap.size + 1) 26 zS := by rw [← hW]; exact Blk.new' (by simp)
    clear hW
    have z0 := (hB2).frozen 0; have z1 := (hB2).frozen 1; have z2 := (hB2).frozen 2; have z3 := (hB2).frozen 3; have z4 := (hB2).frozen 4; have z5 := (hB2).frozen 5; have z6 := (hB2).frozen 6; have z7 := (hB2).frozen 7; have z8 := (hB2).frozen 8; have z9 := (hB2).frozen 9; have z10 := (hB2).frozen 10
    have b0 := (hB2).cell 0; have b1 := (hB2).cell 1; have b2 := (hB2).cell 2; have b3 := (hB2).cell 3; have b4 := (hB2).cell 4; have b5 := (hB2).cell 5; have b6 := (hB2).cell 6; have b7 := (hB2).cell 7; have b8 := (hB2).cell 8; have b9 := (hB2).cell 9; have b10 := (hB2).cell 10
    simp [zS] at b0 b1 b2 b3 b4 b5 b6 b7 b8 b9 b10
    have y0 := (hB3).frozen 0; have y1 := (hB3).frozen 1; have y2 := (hB3).frozen 2; have y3 := (hB3).frozen 3; have y4 := (hB3).frozen 4; have y5 := (hB3).frozen 5; have y6 := (hB3).frozen 6; have y7 := (hB3).frozen 7; have y8 := (hB3).frozen 8; have y9 := (hB3).frozen 9; have y10 := (hB3).frozen 10
    have d0 := (hB3).cell 0; have d1 := (hB3).cell 1; have d2 := (hB3).cell 2; have d3 := (hB3).cell 3; have d4 := (hB3).cell 4; have d5 := (hB3).cell 5; have d6 := (hB3).cell 6; have d7 := (hB3).cell 7; have d8 := (hB3).cell 8; have d9 := (hB3).cell 9; have d10 := (hB3).cell 10
    simp [zS] at d0 d1 d2 d3 d4 d5 d6 d7 d8 d9 d10
    go_wp2_with fail
    refine bodyPost_ret (v := .agg zS) (by simp [results, Tryz.results57, go_sem, zS, bs_nil, *]) rfl ?_
    have hz := hbW.size
    exact ⟨_, SE.none.sm, rfl, (SmT.zero w.heap.size _).widen (Nat.le_refl _) (by simp; omega), RdL.nil, by (repeat (first | with_reducible assumption | with_reducible exact Below.refl _ _ | with_reducible refine Below.setCell ?_ (by first | omega | (simp; done) | (simp; omega)) _ | with_reducible refine Below.alloc ?_ (by first | omega | (simp; done) | (simp; omega)) _ | with_reducible refine below_drewN ?_ _ | with_reducible refine Below.drew ?_ | with_reducible refine Below.trans ?_ (Below.mono hbW (by first | omega | (simp; done) | (simp; omega)))))⟩
  obtain ⟨b, o, x0, rfl, hb, hg0, f0⟩ := str_at hv (i := 0) (by omega)
  rw [Nat.add_zero] at f0
  have hn0 : b ≠ w.heap.size := by omega
  have hn1 : b ≠ w.heap.size + 1 := by omega
  have hpos : (0 : Int) < (ws.length : Int) := by omega
  by_cases hA : 5 < ws.length ∧ x0 = cLet
  · obtain ⟨h5, rfl⟩ := hA
    have hd5 : decide ((5 : Int) < (ws.length : Int)) = true := by rw [decide_eq_true_eq]; omega
    obtain ⟨b', o', x1, e1, _, hg1, f1⟩ := str_at hv (i := 1) (by omega)
    obtain ⟨rfl, rfl⟩ : b = b' ∧ o = o' := by injection e1 with e; injection e; exact ⟨‹_›, ‹_›⟩
    obtain ⟨b', o', x3, e3, _, hg3, f3⟩ := str_at hv (i := 3) (by omega)
    obtain ⟨rfl, rfl⟩ : b = b' ∧ o = o' := by injection e3 with e; injection e; exact ⟨‹_›, ‹_›⟩
    go_enter Tryz.func57, Tryz.ntmps57
    go_upto_region 2 with fail
    generalize hW : World.alloc (World.alloc w _) _ = W1
    have hbW : Below w.heap.size w W1 := by rw [← hW]; (repeat (first | with_reducible assumption | with_reducible exact Below.refl _ _ | with_reducible refine Below.setCell ?_ (by first | omega | (simp; done) | (simp; omega)) _ | with_reducible refine Below.alloc ?_ (by first | omega | (simp; done) | (simp; omega)) _ | with_reducible refine below_drewN ?_ _ | with_reducible refine Below.drew ?_))
    have hB2 : Blk W1 w.heap.size 26 zS := by rw [← hW]; exact (Blk.new _ _ _).alloc _
    have hB3 : Blk W1 (w.heap.size + 1) 26 zS := by rw [← hW]; exact Blk.new' (by simp)
    clear hW
    have z0 := (hB2).frozen 0; have z1 := (hB2).frozen 1; have z2 := (hB2).frozen 2; have z3 := (hB2).frozen 3; have z4 := (hB2).frozen 4; have z5 := (hB2).frozen 5; have z6 := (hB2).frozen 6; have z7 := (hB2).frozen 7; have z8 := (hB2).frozen 8; have z9 := (hB2).frozen 9; have z10 := (hB2).frozen 10
    have b0 := (hB2).cell 0; have b1 := (hB2).cell 1; have b2 := (hB2).cell 2; have b3 := (hB2).cell 3; have b4 := (hB2).cell 4; have b5 := (hB2).cell 5; have b6 := (hB2).cell 6; have b7 := (hB2).cell 7; have b8 := (hB2).cell 8; have b9 := (hB2).cell 9; have b10 := (hB2).cell 10
    simp [zS] at b0 b1 b2 b3 b4 b5 b6 b7 b8 b9 b10
    have y0 := (hB3).frozen 0; have y1 := (hB3).frozen 1; have y2 := (hB3).frozen 2; have y3 := (hB3).frozen 3; have y4 := (hB3).frozen 4; have y5 := (hB3).frozen 5; have y6 := (hB3).frozen 6; have y7 := (hB3).frozen 7; have y8 := (hB3).frozen 8; have y9 := (hB3).frozen 9; have y10 := (hB3).frozen 10
    have d0 := (hB3).cell 0; have d1 := (hB3).cell 1; have d2 := (hB3).cell 2; have d3 := (hB3).cell 3; have d4 := (hB3).cell 4; have d5 := (hB3).cell 5; have d6 := (hB3).cell 6; have d7 := (hB3).cell 7; have d8 := (hB3).cell 8; have d9 := (hB3).cell 9; have d10 := (hB3).cell 10
    simp [zS] at d0 d1 d2 d3 d4 d5 d6 d7 d8 d9 d10
    have q0 := f0 ⟨W1, hbW⟩
    have q1 := f1 ⟨W1, hbW⟩
    have q3 := f3 ⟨W1, hbW⟩
    have l1 : (1 : Int) < (ws.length : Int) := by omega
    have l3 : (3 : Int) < (ws.length : Int) := by omega
    have l5 : (5 : Int) ≤ (ws.length : Int) := by omega
    have HB := Lib.hid (And.intro hB2 hB3)
    clear hB2 hB3
    go_upto_region 3 with fail
    go_region
    generalize hWE : World.drew _ = WE
    have hD2 : Blk WE w.heap.size 26 zS := by
      rw [← hWE]
      (repeat (first | with_reducible exact HB.out.1 | with_reducible refine Blk.far ?_ (by first | (simp; done) | (simp; omega)) _ | with_reducible refine Blk.drew ?_))
    have hD3 : Blk WE (w.heap.size + 1) 26 (cS 1 x1 x3 0 0 [] (.slice none 0 0) 0 0 [] (.slice none 0 0)) := by
      rw [← hWE]
      simpa [zS, cS] using (((HB.out.2.set_ 0 (.int .i64 1)).set_ 1 (.string (bs x1))).set_ 2 (.string (bs x3))).drew
    have hbE : Below w.heap.size w WE := by rw [← hWE]; (repeat (first | with_reducible assumption | with_reducible exact Below.refl _ _ | with_reducible refine Below.setCell ?_ (by first | omega | (simp; done) | (simp; omega)) _ | with_reducible refine Below.alloc ?_ (by first | omega | (simp; done) | (simp; omega)) _ | with_reducible refine below_drewN ?_ _ | with_reducible refine Below.drew ?_ | with_reducible refine Below.trans ?_ (Below.mono hbW (by first | omega | (simp; done) | (simp; omega)))))
    clear hWE b0 b1 b2 b3 b4 b5 b6 b7 b8 b9 b10 d0 d1 d2 d3 d4 d5 d6 d7 d8 d9 d10 z0 z1 z2 z3 z4 z5 z6 z7 z8 z9 z10 y0 y1 y2 y3 y4 y5 y6 y7 y8 y9 y10 q0 q1 q3 HB hbW
    have hzE := hD3.lt
    have E1 := Lib.hid (ER.out (ws.drop 5) _ WE hbE (slb_from (m := 5) (hv.ext hbE) (by omega) (some ⟨b, o + 5, none⟩) (fun _ => rfl)) (fun s h => by have := hs s (List.mem_of_mem_drop h); omega))
    have HR := Lib.hid (show RdL ws ⟨1, x1, x3, rdX (ws.drop 5), Ex.none⟩ true by have h := (RdL.slet h5 hg0).yes; rw [hg1, hg3] at h; exact h)
    have hx1 := hs x1 (List.mem_of_getElem? hg1)
    have hx3 := hs x3 (List.mem_of_getElem? hg3)
    unfold RdP at E1
    generalize rdX (ws.drop 5) = X at *
    go_wp2_with fail
    refine E1.out.mono ?_
    rintro r w2 ⟨v2, rfl, hT, hb2⟩
    obtain ⟨A2, c2, rfl, hc2, hm2, hs2⟩ := hT.form
    have hF2 := hD2.below hb2 hD2.lt
    have hF3 := hD3.below hb2 hD3.lt
    have hbw2 := hbE.ext hb2
    have hz2 := hb2.size
    have z0 := (hF2).frozen 0; have z1 := (hF2).frozen 1; have z2 := (hF2).frozen 2; have z3 := (hF2).frozen 3; have z4 := (hF2).frozen 4; have z5 := (hF2).frozen 5; have z6 := (hF2).frozen 6; have z7 := (hF2).frozen 7; have z8 := (hF2).frozen 8; have z9 := (hF2).frozen 9; have z10 := (hF2).frozen 10
    have b0 := (hF2).cell 0; have b1 := (hF2).cell 1; have b2 := (hF2).cell 2; have b3 := (hF2).cell 3; have b4 := (hF2).cell 4; have b5 := (hF2).cell 5; have b6 := (hF2).cell 6; have b7 := (hF2).cell 7; have b8 := (hF2).cell 8; have b9 := (hF2).cell 9; have b10 := (hF2).cell 10
    simp [zS] at b0 b1 b2 b3 b4 b5 b6 b7 b8 b9 b10
    have y0 := (hF3).frozen 0; have y1 := (hF3).frozen 1; have y2 := (hF3).frozen 2; have y3 := (hF3).frozen 3; have y4 := (hF3).frozen 4; have y5 := (hF3).frozen 5; have y6 := (hF3).frozen 6; have y7 := (hF3).frozen 7; have y8 := (hF3).frozen 8; have y9 := (hF3).frozen 9; have y10 := (hF3).frozen 10
    have d0 := (hF3).cell 0; have d1 := (hF3).cell 1; have d2 := (hF3).cell 2; have d3 := (hF3).cell 3; have d4 := (hF3).cell 4; have d5 := (hF3).cell 5; have d6 := (hF3).cell 6; have d7 := (hF3).cell 7; have d8 := (hF3).cell 8; have d9 := (hF3).cell 9; have d10 := (hF3).cell 10
    simp [cS] at d0 d1 d2 d3 d4 d5 d6 d7 d8 d9 d10
    have HX := Lib.hid (And.intro hT hbw2)
    clear hD2 hD3 hF2 hF3 hT hbw2 E1 f0 f1 f3
    go_wp2_with fail
    refine bodyPost_ret (v := .agg (cS 1 x1 x3 X.kind X.n X.s (.slice A2 X.kids.length c2) 0 0 [] (.slice none 0 0))) (by simp [results, Tryz.results57, go_sem, cS, bs_nil, *]) rfl ?_
    generalize hWF : World.setCell _ _ _ = WF
    have hK : ∀ b, w.heap.size + 2 ≤ b → WF.heap[b]? = w2.heap[b]? := by
      intro b h1
      rw [← hWF]
      (repeat (first | with_reducible rfl | with_reducible refine (Below.heap_setCell _ _ _ _ (by first | (simp; done) | (simp; omega))).trans ?_))
    have hzF : WF.heap.size = w2.heap.size := by rw [← hWF]; simp
    have hbF : Below w.heap.size w WF := by have hbx := HX.out.2; rw [← hWF]; (repeat (first | with_reducible assumption | with_reducible exact Below.refl _ _ | with_reducible refine Below.setCell ?_ (by first | omega | (simp; done) | (simp; omega)) _ | with_reducible refine Below.alloc ?_ (by first | omega | (simp; done) | (simp; omega)) _ | with_reducible refine below_drewN ?_ _ | with_reducible refine Below.drew ?_ | with_reducible refine Below.trans ?_ (Below.mono hbx (by first | omega | (simp; done) | (simp; omega)))))
    exact ⟨_, ⟨1, x1, x3, X, Ex.none⟩, rfl, ⟨A2, none, c2, 0, w2.heap.size, rfl, Nat.le_trans hx1 (by decide), Nat.le_trans hx3 (by decide), (HX.out.1.same (fun b h1 h2 => hK b (by omega))).widen (by omega) (Nat.le_refl _), TrM.leaf _ _ _ 0 0 [] (by simp), by omega, by omega⟩, HR.out, hbF⟩
  by_cases hS : x0 = cSay
  · subst hS
    have HR := Lib.hid (RdL.say hg0).yes
    obtain ⟨b5, hb5⟩ : ∃ b, decide ((5 : Int) < (ws.length : Int)) = b := ⟨_, rfl⟩
    have l1 : (1 : Int) ≤ (ws.length : Int) := by omega
    by_cases hc1 : c = 1
    all_goals
      go_enter Tryz.func57, Tryz.ntmps57
      go_upto_region 2 with fail
      generalize hW : World.alloc (World.alloc w _) _ = W1
      have hbW : Below w.heap.size w W1 := by rw [← hW]; (repeat (first | with_reducible assumption | with_reducible exact Below.refl _ _ | with_reducible refine Below.setCell ?_ (by first | omega | (simp; done) | (simp; omega)) _ | with_reducible refine Below.alloc ?_ (by first | omega | (simp; done) | (simp; omega)) _ | with_reducible refine below_drewN ?_ _ | with_reducible refine Below.drew ?_))
      have hB2 : Blk W1 w.heap.size 26 zS := by rw [← hW]; exact (Blk.new _ _ _).alloc _
      have hB3 : Blk W1 (w.heap.size + 1) 26 zS := by rw [← hW]; exact Blk.new' (by simp)
      clear hW
      have y0 := hB3.frozen 0
      have d0 := hB3.cell 0
      simp [zS] at d0
      have q0 := f0 ⟨W1, hbW⟩
      cases b5
      all_goals
        go_upto_region 7 with fail
        generalize hWE : World.setCell _ _ _ = WE
        have hD2 : Blk WE w.heap.size 26 zS := by rw [← hWE]; exact hB2.far (by simp) _
        have hD3 : Blk WE (w.heap.size + 1) 26 (cS 2 [] [] 0 0 [] (.slice none 0 0) 0 0 [] (.slice none 0 0)) := by
          rw [← hWE]
          simpa [zS, cS] using hB3.set_ 0 (.int .i64 2)
        have hbE : Below w.heap.size w WE := by rw [← hWE]; (repeat (first | with_reducible assumption | with_reducible exact Below.refl _ _ | with_reducible refine Below.setCell ?_ (by first | omega | (simp; done) | (simp; omega)) _ | with_reducible refine Below.alloc ?_ (by first | omega | (simp; done) | (simp; omega)) _ | with_reducible refine below_drewN ?_ _ | with_reducible refine Below.drew ?_ | with_reducible refine Below.trans ?_ (Below.mono hbW (by first | omega | (simp; done) | (simp; omega)))))
        clear hWE y0 d0 q0 hbW hB2 hB3
        have hzE := hD3.lt
        have E1 := Lib.hid (show ∀ (A' : Option Addr) (n' c' : Nat), n' = ws.length - 1 → c' = c - 1 → (1 < ws.length → A' = some ⟨b, o + 1, none⟩) → Calls Tryz.prog 33 #[.slice A' n' c'] WE (RdP (ws.drop 1) WE) from fun A' n' c' hn hc' hA' => by
          subst hn hc'
          exact ER.out (ws.drop 1) (.slice A' (ws.length - 1) (c - 1)) WE hbE (slb_from (m := 1) (hv.ext hbE) (by omega) A' hA') (fun s h => by have := hs s (List.mem_of_mem_drop h); omega))
        unfold RdP at E1
        generalize rdX (ws.drop 1) = X at *
        go_wp2_with fail
        first
          | (have hx1 : c = 1 := hc1; refine (E1.out (some ⟨b, o, none⟩) (ws.length - 1) 0 rfl (by omega) (by intro h; omega)).mono ?_; clear hx1)
          | refine (E1.out (some ⟨b, o + 1, none⟩) (ws.length - 1) (c - 1) rfl rfl (fun _ => rfl)).mono ?_
        rintro r w2 ⟨v2, rfl, hT, hb2⟩
        obtain ⟨A2, c2, rfl, hc2, hm2, hs2⟩ := hT.form
        have hF2 := hD2.below hb2 hD2.lt
        have hF3 := hD3.below hb2 hD3.lt
        have hbw2 := hbE.ext hb2
        have hz2 := hb2.size
        have z0 := (hF2).frozen 0; have z1 := (hF2).frozen 1; have z2 := (hF2).frozen 2; have z3 := (hF2).frozen 3; have z4 := (hF2).frozen 4; have z5 := (hF2).frozen 5; have z6 := (hF2).frozen 6; have z7 := (hF2).frozen 7; have z8 := (hF2).frozen 8; have z9 := (hF2).frozen 9; have z10 := (hF2).frozen 10
        have b0 := (hF2).cell 0; have b1 := (hF2).cell 1; have b2 := (hF2).cell 2; have b3 := (hF2).cell 3; have b4 := (hF2).cell 4; have b5 := (hF2).cell 5; have b6 := (hF2).cell 6; have b7 := (hF2).cell 7; have b8 := (hF2).cell 8; have b9 := (hF2).cell 9; have b10 := (hF2).cell 10
        simp [zS] at b0 b1 b2 b3 b4 b5 b6 b7 b8 b9 b10
        have y0 := (hF3).frozen 0; have y1 := (hF3).frozen 1; have y2 := (hF3).frozen 2; have y3 := (hF3).frozen 3; have y4 := (hF3).frozen 4; have y5 := (hF3).frozen 5; have y6 := (hF3).frozen 6; have y7 := (hF3).frozen 7; have y8 := (hF3).frozen 8; have y9 := (hF3).frozen 9; have y10 := (hF3).frozen 10
        have d0 := (hF3).cell 0; have d1 := (hF3).cell 1; have d2 := (hF3).cell 2; have d3 := (hF3).cell 3; have d4 := (hF3).cell 4; have d5 := (hF3).cell 5; have d6 := (hF3).cell 6; have d7 := (hF3).cell 7; have d8 := (hF3).cell 8; have d9 := (hF3).cell 9; have d10 := (hF3).cell 10
        simp [cS] at d0 d1 d2 d3 d4 d5 d6 d7 d8 d9 d10
        have HX := Lib.hid (And.intro hT hbw2)
        clear hD2 hD3 hF2 hF3 hT hbw2 E1
        go_wp2_with fail
        refine bodyPost_ret (v := .agg (cS 2 [] [] X.kind X.n X.s (.slice A2 X.kids.length c2) 0 0 [] (.slice none 0 0))) (by simp [results, Tryz.results57, go_sem, cS, bs_nil, *]) rfl ?_
        generalize hWF : World.setCell _ _ _ = WF
        have hK : ∀ b, w.heap.size + 2 ≤ b → WF.heap[b]? = w2.heap[b]? := by
          intro b h1
          rw [← hWF]
          (repeat (first | with_reducible rfl | with_reducible refine (Below.heap_setCell _ _ _ _ (by first | (simp; done) | (simp; omega))).trans ?_))
        have hzF : WF.heap.size = w2.heap.size := by rw [← hWF]; simp
        have hbF : Below w.heap.size w WF := by have hbx := HX.out.2; rw [← hWF]; (repeat (first | with_reducible assumption | with_reducible exact Below.refl _ _ | with_reducible refine Below.setCell ?_ (by first | omega | (simp; done) | (simp; omega)) _ | with_reducible refine Below.alloc ?_ (by first | omega | (simp; done) | (simp; omega)) _ | with_reducible refine below_drewN ?_ _ | with_reducible refine Below.drew ?_ | with_reducible refine Below.trans ?_ (Below.mono hbx (by first | omega | (simp; done) | (simp; omega)))))
        exact ⟨_, ⟨2, [], [], X, Ex.none⟩, rfl, ⟨A2, none, c2, 0, w2.heap.size, rfl, by simp, by simp, (HX.out.1.same (fun b h1 h2 => hK b (by omega))).widen (by omega) (Nat.le_refl _), TrM.leaf _ _ _ 0 0 [] (by simp), by omega, by omega⟩, HR.out, hbF⟩
  · exfalso
    rcases hAS with h | ⟨x, h1, h2⟩
    · exact h0 h
    · rw [hg0] at h1
      obtain rfl := Option.some.inj h1
      rcases h2 with h2 | h2
      · exact hA h2
      · exact hS h2
end Go.Proofs.YtgakjhaepdigpaaGreatDoor
