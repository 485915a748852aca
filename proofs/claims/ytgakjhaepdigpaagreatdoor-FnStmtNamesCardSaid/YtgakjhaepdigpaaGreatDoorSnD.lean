
/- Statements that are drawn for their names. -/
import Derived.Test.YtgakjhaepdigpaaGreatDoorDwPQ
import Derived.Deep.RegionLaw
import Derived.Deep.RegionHeld3
namespace Go.Proofs.YtgakjhaepdigpaaGreatDoor
set_option maxRecDepth 100000
set_option linter.unusedSimpArgs false
set_option linter.unusedVariables false
open Go.RowKit
attribute [local go_sem] bs_toList bs_get bs_size

theorem CodeV.later {w w' : World} {v : Value} {l : List Int} (h : CodeV w v l) (hb : Below w.heap.size w w') : CodeV w' v l := ⟨(h.1.below hb (Nat.le_refl _)).more hb.size, h.2⟩
theorem drawN_nw (v : Value) (l : List Int) (w : World) (hv : CodeV w v l) : Calls Tryz.prog 27 #[v] w fun e w' => ∃ (u : Value) (s : Sm), e = .returned u ∧ DrV w.heap.size w' u s ∧ Below w.heap.size w w' ∧ NoW s.ex ∧ NoW s.th := by
  have OP := Lib.hid (fun (w' : World) (h : Below w.heap.size w w') => l12Open_any v l w' ⟨(hv.1.below h (Nat.le_refl _)).more h.size, hv.2⟩)
  obtain ⟨A, c, rfl, hc, hm⟩ := hv.1.val
  clear hv
  go_enter Tryz.func27, Tryz.ntmps27
  go_upto_region 1 with fail
  generalize hW : World.alloc w _ = W1
  have hbW : Below w.heap.size w W1 := by rw [← hW]; (repeat (first | with_reducible assumption | with_reducible exact Below.refl _ _ | with_reducible refine Below.setCell ?_ (by first | omega | (simp; done) | (simp; omega)) _ | with_reducible refine Below.alloc ?_ (by first | omega | (simp; done) | (simp; omega)) _ | with_reducible refine below_drewN ?_ _ | with_reducible refine Below.drew ?_))
  have hB1 : Blk W1 w.heap.size 26 zS := by rw [← hW]; exact Blk.new _ _ _
  clear hW
  go_wp2_with fail
  refine (OP.out _ hbW).mono ?_
  rintro r w1 ⟨rfl, hR, hb1⟩
  go_wp2_with fail
  refine (l5Bent_nw _ _ _ hR (by omega)).mono ?_
  rintro r w2 ⟨u, s, p2, rfl, hV, hNN, hR2, hp2, hg2, hNe, hNt⟩
  have hz := hb1.size
  have hr1 := hR.lt
  have hlt := hB1.lt
  have hB2 := blk_gr (hB1.below hb1 hlt) hg2 (by omega)
  have hb02 : Below w.heap.size w w2 := (hbW.ext hb1).trans ((below_of_grown hg2 (Nat.le_refl _) hr1).mono (by have := hbW.size; omega))
  obtain ⟨k, nm, ty, k1, n1, s1, A1, m1, cp1, k2, n2, s2, A2, m2, cp2, x1, x2, rfl, rfl, hX1, hX2, hl1, hl2⟩ := (hV.less (lo' := w.heap.size + 1) (by omega)).form
  have z0 := (hB2).frozen 0; have z1 := (hB2).frozen 1; have z2 := (hB2).frozen 2; have z3 := (hB2).frozen 3; have z4 := (hB2).frozen 4; have z5 := (hB2).frozen 5; have z6 := (hB2).frozen 6; have z7 := (hB2).frozen 7; have z8 := (hB2).frozen 8; have z9 := (hB2).frozen 9; have z10 := (hB2).frozen 10
  have b0 := (hB2).cell 0; have b1 := (hB2).cell 1; have b2 := (hB2).cell 2; have b3 := (hB2).cell 3; have b4 := (hB2).cell 4; have b5 := (hB2).cell 5; have b6 := (hB2).cell 6; have b7 := (hB2).cell 7; have b8 := (hB2).cell 8; have b9 := (hB2).cell 9; have b10 := (hB2).cell 10
  simp [zS] at b0 b1 b2 b3 b4 b5 b6 b7 b8 b9 b10
  have HX := Lib.hid (And.intro hX1 (And.intro hX2 (And.intro hl1 (And.intro hl2 hb02))))
  clear hX1 hX2 hV hB2 hR2 hg2 hR hB1 hb02 hNN
  go_wp2_with fail
  refine bodyPost_ret (v := .agg (cS k nm ty k1 n1 s1 (.slice A1 m1 cp1) k2 n2 s2 (.slice A2 m2 cp2))) (by simp [results, Tryz.results27, go_sem, cS, bs_nil, *]) rfl ?_
  obtain ⟨hX1, hX2, hl1, hl2, hb02⟩ := HX.out
  exact ⟨_, ⟨k, nm, ty, x1, x2⟩, rfl, DrV.of ((hX1.grown (r := some w.heap.size) (by (repeat (first | with_reducible assumption | with_reducible exact grown_rfl _ _ | with_reducible refine grown_st ?_ _ _ | with_reducible refine grown_al ?_ _))) (fun q e => by have := Option.some.inj e; omega)).less (by omega)) ((hX2.grown (r := some w.heap.size) (by (repeat (first | with_reducible assumption | with_reducible exact grown_rfl _ _ | with_reducible refine grown_st ?_ _ _ | with_reducible refine grown_al ?_ _))) (fun q e => by have := Option.some.inj e; omega)).less (by omega)) hl1 hl2, by (repeat (first | with_reducible assumption | with_reducible exact Below.refl _ _ | with_reducible refine Below.setCell ?_ (by first | omega | (simp; done) | (simp; omega)) _ | with_reducible refine Below.alloc ?_ (by first | omega | (simp; done) | (simp; omega)) _ | with_reducible refine below_drewN ?_ _ | with_reducible refine Below.drew ?_ | with_reducible refine Below.trans ?_ (Below.mono hb02 (by first | omega | (simp; done) | (simp; omega))))), hNe, hNt⟩
theorem drawN_any (v : Value) (l : List Int) (w : World) (hv : CodeV w v l) : Calls Tryz.prog 27 #[v] w fun e w' => ∃ (u : Value) (s : Sm), e = .returned u ∧ DrV w.heap.size w' u s ∧ Below w.heap.size w w' := (drawN_nw v l w hv).mono fun _ _ ⟨u, s, h1, h2, h3, _⟩ => ⟨u, s, h1, h2, h3⟩
theorem DrV.ext {lo : Nat} {w w' : World} {v : Value} {s : Sm} (h : DrV lo w v s) (hb : Below w.heap.size w w') : DrV lo w' v s :=
  h.grown (r := none) ⟨hb.os, hb.tape, hb.output, hb.size, fun k hk _ => hb.block k hk⟩ (fun q e => by cases e)
theorem DrV.smvF {lo : Nat} {w w' : World} {v : Value} {s : Sm} (h : DrV lo w v s) (hb : Below w.heap.size w w') : SmV w' w'.heap.size v s := (h.ext hb).smv
end Go.Proofs.YtgakjhaepdigpaaGreatDoor
