
/- The law's reader of a line's words: when, any other. -/
import Derived.Test.YtgakjhaepdigpaaGreatDoorRsP
namespace Go.Proofs.YtgakjhaepdigpaaGreatDoor
set_option maxRecDepth 100000
set_option linter.unusedSimpArgs false
set_option linter.unusedVariables false
open Go.RowKit
attribute [local go_sem] bs_toList bs_get bs_size

set_option maxHeartbeats 4000000 in
theorem spReadNo_any (ws : List Bytes) (v : Value) (w : World) (hv : SlB w w.heap.size v ws) {x0 : Bytes} (hg0 : ws[0]? = some x0) (hA : ¬ (5 < ws.length ∧ ws[0]? = some cLet ∧ ws[2]? = some [58] ∧ ws[4]? = some [61])) (hS : x0 ≠ cSay) (hN : x0 = cWhen → ∀ k, 0 < k → sayAt ws ≠ some k) : Calls Tryz.prog 54 #[v] w (RrP ws w) := by
  have hpos0 : 0 < ws.length := (List.getElem?_eq_some_iff.1 hg0).1
  have HR := Lib.hid (RdL.no (w := ws) (fun e => by rw [e] at hpos0; simp at hpos0) hA (fun h => hS (by rw [hg0] at h; exact Option.some.inj h)) (fun h => hN (by rw [hg0] at h; exact Option.some.inj h)) SE.none.sm false)
  have IX := Lib.hid (fun (w' : World) (h : Below w.heap.size w w') => spSay_any ws v w' (hv.ext h))
  obtain ⟨A, c, rfl, hc, hm⟩ := id hv.val
  obtain ⟨b, o, x, rfl, hb, hg, f0⟩ := str_at hv (i := 0) hpos0
  rw [hg0] at hg
  obtain rfl := Option.some.inj hg
  rw [Nat.add_zero] at f0
  have hn0 : b ≠ w.heap.size := by omega
  have hn1 : b ≠ w.heap.size + 1 := by omega
  have l0 : (0 : Int) < (ws.length : Int) := by omega
  have lz : (((ws.length : Nat) : Int) == 0) = false := by rw [beq_eq_false_iff_ne]; omega
  have hS1 : (x0 == [115, 97, 121]) = false := by rw [beq_eq_false_iff_ne]; exact hS
  by_cases hl : x0 = cLet
  · subst hl
    have hA2 : 5 < ws.length → ws[2]? = some [58] → ws[4]? ≠ some [61] := fun h1 h2 h3 => hA ⟨h1, hg0, h2, h3⟩
    clear IX hA hN
    by_cases h5 : 5 < ws.length
    · have hd5 : decide ((5 : Int) < (ws.length : Int)) = true := by rw [decide_eq_true_eq]; omega
      obtain ⟨b', o', x2, e2, _, hg2', f2⟩ := str_at hv (i := 2) (by omega)
      obtain ⟨rfl, rfl⟩ : b = b' ∧ o = o' := by injection e2 with e; injection e; exact ⟨‹_›, ‹_›⟩
      obtain ⟨b', o', x4, e4, _, hg4', f4⟩ := str_at hv (i := 4) (by omega)
      obtain ⟨rfl, rfl⟩ : b = b' ∧ o = o' := by injection e4 with e; injection e; exact ⟨‹_›, ‹_›⟩
      have l2 : (2 : Int) < (ws.length : Int) := by omega
      have l4 : (4 : Int) < (ws.length : Int) := by omega
      by_cases h2 : x2 = [58]
      · subst h2
        have h4 : (x4 == [61]) = false := by
          rw [beq_eq_false_iff_ne]
          rintro rfl
          exact hA2 h5 hg2' hg4'
        go_enter Tryz.func54, Tryz.ntmps54
        go_upto_region 2 with fail
        generalize hW : World.alloc (World.alloc w _) _ = W1
        have hbW : Below w.heap.size w W1 := by rw [← hW]; (repeat (first | with_reducible assumption | with_reducible exact Below.refl _ _ | with_reducible refine Below.setCell ?_ (by first | omega | (simp; done) | (simp; omega)) _ | with_reducible refine Below.alloc ?_ (by first | omega | (simp; done) | (simp; omega)) _ | with_reducible refine below_drewN ?_ _ | with_reducible refine Below.drew ?_))
        have hB2 : Blk W1 w.heap.size 26 zS := by rw [← hW]; exact (Blk.new _ _ _).alloc _
        have hB3 : Blk W1 (w.heap.size + 1) 26 zS := by rw [← hW]; exact Blk.new' (by simp)
        clear hW
        have z0 := (hB2).frozen 0; have z1 := (hB2).frozen 1; have z2 := (hB2).frozen 2; have z3 := (hB2).frozen 3; have z4 := (hB2).frozen 4; have z5 := (hB2).frozen 5; have z6 := (hB2).frozen 6; have z7 := (hB2).frozen 7; have z8 := (hB2).frozen 8; have z9 := (hB2).frozen 9; have z10 := (hB2).frozen 10
        have b0 := (hB2).cell 0; have b1 := (hB2).cell 1; have b2 := (hB2).cell 2; have b3 := (hB2).cell 3; have b4 := (hB2).cell 4; have b5 := (hB2).cell 5; have b6 := (hB2).cell 6; have b7 := (hB2).cell 7; have b8 := (hB2).cell 8; have b9 := (hB2).cell 9; have b10 := (hB2).cell 10
        simp [zS] at b0 b1 b2 b3 b4 b5 b6 b7 b8 b9 b10
        have y0 := (hB3).frozen 0; have y1 := (hB3).frozen 1; have y2 := (hB3).frozen 2; have y3 := (hB3).frozen 3; have y4 := (hB3).frozen 4; have y5 := (hB3).frozen 5; have y6 := (hB3).frozen 6; have y7 := (hB3).frozen 7; have y8 := (hB3).frozen 8; have y9 := (hB3).frozen 9; have y10 := (hB3).frozen 10
        have d0 := (hB3).cell 0; have d1 := (hB3).cell 1; have d2 := (hB3).cell 2; have d3 := (hB3).cell 3; have d4 := (hB3).cell 4; have d5 := (hB3).cell 5; have d6 := (hB3).cell 6; have d7 := (hB3).cell 7; have d8 := (hB3).cell 8; have d9 := (hB3).cell 9; have d10 := (hB3).cell 10
        simp [zS] at d0 d1 d2 d3 d4 d5 d6 d7 d8 d9 d10
        have q0 := f0 ⟨W1, hbW⟩
        have hz := hbW.size
        have q2 := f2 ⟨W1, hbW⟩
        have q4 := f4 ⟨W1, hbW⟩
        go_wp2_with fail
        refine bodyPost_ret (v := .tuple #[.agg zS, .bool false]) (by simp [results, Tryz.results54, go_sem, zS, bs_nil, *]) rfl ?_
        exact ⟨_, SE.none.sm, false, rfl, (SmT.zero w.heap.size _).widen (Nat.le_refl _) (by simp; omega), HR.out, by (repeat (first | with_reducible assumption | with_reducible exact Below.refl _ _ | with_reducible refine Below.setCell ?_ (by first | omega | (simp; done) | (simp; omega)) _ | with_reducible refine Below.alloc ?_ (by first | omega | (simp; done) | (simp; omega)) _ | with_reducible refine below_drewN ?_ _ | with_reducible refine Below.drew ?_ | with_reducible refine Below.trans ?_ (Below.mono hbW (by first | omega | (simp; done) | (simp; omega)))))⟩
      · have h2b : (x2 == [58]) = false := by rw [beq_eq_false_iff_ne]; exact h2
        go_enter Tryz.func54, Tryz.ntmps54
        go_upto_region 2 with fail
        generalize hW : World.alloc (World.alloc w _) _ = W1
        have hbW : Below w.heap.size w W1 := by rw [← hW]; (repeat (first | with_reducible assumption | with_reducible exact Below.refl _ _ | with_reducible refine Below.setCell ?_ (by first | omega | (simp; done) | (simp; omega)) _ | with_reducible refine Below.alloc ?_ (by first | omega | (simp; done) | (simp; omega)) _ | with_reducible refine below_drewN ?_ _ | with_reducible refine Below.drew ?_))
        have hB2 : Blk W1 w.heap.size 26 zS := by rw [← hW]; exact (Blk.new _ _ _).alloc _
        have hB3 : Blk W1 (w.heap.size + 1) 26 zS := by rw [← hW]; exact Blk.new' (by simp)
        clear hW
        have z0 := (hB2).frozen 0; have z1 := (hB2).frozen 1; have z2 := (hB2).frozen 2; have z3 := (hB2).frozen 3; have z4 := (hB2).frozen 4; have z5 := (hB2).frozen 5; have z6 := (hB2).frozen 6; have z7 := (hB2).frozen 7; have z8 := (hB2).frozen 8; have z9 := (hB2).frozen 9; have z10 := (hB2).frozen 10
        have b0 := (hB2).cell 0; have b1 := (hB2).cell 1; have b2 := (hB2).cell 2; have b3 := (hB2).cell 3; have b4 := (hB2).cell 4; have b5 := (hB2).cell 5; have b6 := (hB2).cell 6; have b7 := (hB2).cell 7; have b8 := (hB2).cell 8; have b9 := (hB2).cell 9; have b10 := (hB2).cell 10
        simp [zS] at b0 b1 b2 b3 b4 b5 b6 b7 b8 b9 b10
        have y0 := (hB3).frozen 0; have y1 := (hB3).frozen 1; have y2 := (hB3).frozen 2; have y3 := (hB3).frozen 3; have y4 := (hB3).frozen 4; have y5 := (hB3).frozen 5; have y6 := (hB3).frozen 6; have y7 := (hB3).frozen 7; have y8 := (hB3).frozen 8; have y9 := (hB3).frozen 9; have y10 := (hB3).frozen 10
        have d0 := (hB3).cell 0; have d1 := (hB3).cell 1; have d2 := (hB3).cell 2; have d3 := (hB3).cell 3; have d4 := (hB3).cell 4; have d5 := (hB3).cell 5; have d6 := (hB3).cell 6; have d7 := (hB3).cell 7; have d8 := (hB3).cell 8; have d9 := (hB3).cell 9; have d10 := (hB3).cell 10
        simp [zS] at d0 d1 d2 d3 d4 d5 d6 d7 d8 d9 d10
        have q0 := f0 ⟨W1, hbW⟩
        have hz := hbW.size
        have q2 := f2 ⟨W1, hbW⟩
        go_wp2_with fail
        refine bodyPost_ret (v := .tuple #[.agg zS, .bool false]) (by simp [results, Tryz.results54, go_sem, zS, bs_nil, *]) rfl ?_
        exact ⟨_, SE.none.sm, false, rfl, (SmT.zero w.heap.size _).widen (Nat.le_refl _) (by simp; omega), HR.out, by (repeat (first | with_reducible assumption | with_reducible exact Below.refl _ _ | with_reducible refine Below.setCell ?_ (by first | omega | (simp; done) | (simp; omega)) _ | with_reducible refine Below.alloc ?_ (by first | omega | (simp; done) | (simp; omega)) _ | with_reducible refine below_drewN ?_ _ | with_reducible refine Below.drew ?_ | with_reducible refine Below.trans ?_ (Below.mono hbW (by first | omega | (simp; done) | (simp; omega)))))⟩
    · have hd5 : decide ((5 : Int) < (ws.length : Int)) = false := by rw [decide_eq_false_iff_not]; omega
      go_enter Tryz.func54, Tryz.ntmps54
      go_upto_region 2 with fail
      generalize hW : World.alloc (World.alloc w _) _ = W1
      have hbW : Below w.heap.size w W1 := by rw [← hW]; (repeat (first | with_reducible assumption | with_reducible exact Below.refl _ _ | with_reducible refine Below.setCell ?_ (by first | omega | (simp; done) | (simp; omega)) _ | with_reducible refine Below.alloc ?_ (by first | omega | (simp; done) | (simp; omega)) _ | with_reducible refine below_drewN ?_ _ | with_reducible refine Below.drew ?_))
      have hB2 : Blk W1 w.heap.size 26 zS := by rw [← hW]; exact (Blk.new _ _ _).alloc _
      have hB3 : Blk W1 (w.heap.size + 1) 26 zS := by rw [← hW]; exact Blk.new' (by simp)
      clear hW
      have z0 := (hB2).frozen 0; have z1 := (hB2).frozen 1; have z2 := (hB2).frozen 2; have z3 := (hB2).frozen 3; have z4 := (hB2).frozen 4; have z5 := (hB2).frozen 5; have z6 := (hB2).frozen 6; have z7 := (hB2).frozen 7; have z8 := (hB2).frozen 8; have z9 := (hB2).frozen 9; have z10 := (hB2).frozen 10
      have b0 := (hB2).cell 0; have b1 := (hB2).cell 1; have b2 := (hB2).cell 2; have b3 := (hB2).cell 3; have b4 := (hB2).cell 4; have b5 := (hB2).cell 5; have b6 := (hB2).cell 6; have b7 := (hB2).cell 7; have b8 := (hB2).cell 8; have b9 := (hB2).cell 9; have b10 := (hB2).cell 10
      simp [zS] at b0 b1 b2 b3 b4 b5 b6 b7 b8 b9 b10
      have y0 := (hB3).frozen 0; have y1 := (hB3).frozen 1; have y2 := (hB3).frozen 2; have y3 := (hB3).frozen 3; have y4 := (hB3).frozen 4; have y5 := (hB3).frozen 5; have y6 := (hB3).frozen 6; have y7 := (hB3).frozen 7; have y8 := (hB3).frozen 8; have y9 := (hB3).frozen 9; have y10 := (hB3).frozen 10
      have d0 := (hB3).cell 0; have d1 := (hB3).cell 1; have d2 := (hB3).cell 2; have d3 := (hB3).cell 3; have d4 := (hB3).cell 4; have d5 := (hB3).cell 5; have d6 := (hB3).cell 6; have d7 := (hB3).cell 7; have d8 := (hB3).cell 8; have d9 := (hB3).cell 9; have d10 := (hB3).cell 10
      simp [zS] at d0 d1 d2 d3 d4 d5 d6 d7 d8 d9 d10
      have q0 := f0 ⟨W1, hbW⟩
      have hz := hbW.size
      go_wp2_with fail
      refine bodyPost_ret (v := .tuple #[.agg zS, .bool false]) (by simp [results, Tryz.results54, go_sem, zS, bs_nil, *]) rfl ?_
      exact ⟨_, SE.none.sm, false, rfl, (SmT.zero w.heap.size _).widen (Nat.le_refl _) (by simp; omega), HR.out, by (repeat (first | with_reducible assumption | with_reducible exact Below.refl _ _ | with_reducible refine Below.setCell ?_ (by first | omega | (simp; done) | (simp; omega)) _ | with_reducible refine Below.alloc ?_ (by first | omega | (simp; done) | (simp; omega)) _ | with_reducible refine below_drewN ?_ _ | with_reducible refine Below.drew ?_ | with_reducible refine Below.trans ?_ (Below.mono hbW (by first | omega | (simp; done) | (simp; omega)))))⟩
  · have hL1 : (x0 == [108, 101, 116]) = false := by rw [beq_eq_false_iff_ne]; exact hl
    by_cases hw : x0 = cWhen
    · subst hw
      obtain ⟨i, hi, hi0⟩ : ∃ i : Int, idxL cSay ws = i ∧ i ≤ 0 := by
        rcases idx_say (ws := ws) with ⟨k, h1, h2, _⟩ | ⟨_, h2⟩
        · refine ⟨_, h2, ?_⟩
          by_cases hk : 0 < k
          · exact absurd h1 (hN rfl k hk)
          · omega
        · exact ⟨_, h2, by omega⟩
      rw [hi] at IX
      have hid : decide (0 < i) = false := by rw [decide_eq_false_iff_not]; omega
      go_enter Tryz.func54, Tryz.ntmps54
      go_upto_region 2 with fail
      generalize hW : World.alloc (World.alloc w _) _ = W1
      have hbW : Below w.heap.size w W1 := by rw [← hW]; (repeat (first | with_reducible assumption | with_reducible exact Below.refl _ _ | with_reducible refine Below.setCell ?_ (by first | omega | (simp; done) | (simp; omega)) _ | with_reducible refine Below.alloc ?_ (by first | omega | (simp; done) | (simp; omega)) _ | with_reducible refine below_drewN ?_ _ | with_reducible refine Below.drew ?_))
      have hB2 : Blk W1 w.heap.size 26 zS := by rw [← hW]; exact (Blk.new _ _ _).alloc _
      have hB3 : Blk W1 (w.heap.size + 1) 26 zS := by rw [← hW]; exact Blk.new' (by simp)
      clear hW
      have z0 := (hB2).frozen 0; have z1 := (hB2).frozen 1; have z2 := (hB2).frozen 2; have z3 := (hB2).frozen 3; have z4 := (hB2).frozen 4; have z5 := (hB2).frozen 5; have z6 := (hB2).frozen 6; have z7 := (hB2).frozen 7; have z8 := (hB2).frozen 8; have z9 := (hB2).frozen 9; have z10 := (hB2).frozen 10
      have b0 := (hB2).cell 0; have b1 := (hB2).cell 1; have b2 := (hB2).cell 2; have b3 := (hB2).cell 3; have b4 := (hB2).cell 4; have b5 := (hB2).cell 5; have b6 := (hB2).cell 6; have b7 := (hB2).cell 7; have b8 := (hB2).cell 8; have b9 := (hB2).cell 9; have b10 := (hB2).cell 10
      simp [zS] at b0 b1 b2 b3 b4 b5 b6 b7 b8 b9 b10
      have y0 := (hB3).frozen 0; have y1 := (hB3).frozen 1; have y2 := (hB3).frozen 2; have y3 := (hB3).frozen 3; have y4 := (hB3).frozen 4; have y5 := (hB3).frozen 5; have y6 := (hB3).frozen 6; have y7 := (hB3).frozen 7; have y8 := (hB3).frozen 8; have y9 := (hB3).frozen 9; have y10 := (hB3).frozen 10
      have d0 := (hB3).cell 0; have d1 := (hB3).cell 1; have d2 := (hB3).cell 2; have d3 := (hB3).cell 3; have d4 := (hB3).cell 4; have d5 := (hB3).cell 5; have d6 := (hB3).cell 6; have d7 := (hB3).cell 7; have d8 := (hB3).cell 8; have d9 := (hB3).cell 9; have d10 := (hB3).cell 10
      simp [zS] at d0 d1 d2 d3 d4 d5 d6 d7 d8 d9 d10
      have q0 := f0 ⟨W1, hbW⟩
      have hz := hbW.size
      go_wp2_with fail
      refine (IX.out _ hbW).mono ?_
      rintro r _ ⟨rfl, rfl⟩
      go_wp2_with fail
      refine bodyPost_ret (v := .tuple #[.agg zS, .bool false]) (by simp [results, Tryz.results54, go_sem, zS, bs_nil, *]) rfl ?_
      exact ⟨_, SE.none.sm, false, rfl, (SmT.zero w.heap.size _).widen (Nat.le_refl _) (by simp; omega), HR.out, by (repeat (first | with_reducible assumption | with_reducible exact Below.refl _ _ | with_reducible refine Below.setCell ?_ (by first | omega | (simp; done) | (simp; omega)) _ | with_reducible refine Below.alloc ?_ (by first | omega | (simp; done) | (simp; omega)) _ | with_reducible refine below_drewN ?_ _ | with_reducible refine Below.drew ?_ | with_reducible refine Below.trans ?_ (Below.mono hbW (by first | omega | (simp; done) | (simp; omega)))))⟩
    · have hW1 : (x0 == [119, 104, 101, 110]) = false := by rw [beq_eq_false_iff_ne]; exact hw
      clear IX
      go_enter Tryz.func54, Tryz.ntmps54
      go_upto_region 2 with fail
      generalize hW : World.alloc (World.alloc w _) _ = W1
      have hbW : Below w.heap.size w W1 := by rw [← hW]; (repeat (first | with_reducible assumption | with_reducible exact Below.refl _ _ | with_reducible refine Below.setCell ?_ (by first | omega | (simp; done) | (simp; omega)) _ | with_reducible refine Below.alloc ?_ (by first | omega | (simp; done) | (simp; omega)) _ | with_reducible refine below_drewN ?_ _ | with_reducible refine Below.drew ?_))
      have hB2 : Blk W1 w.heap.size 26 zS := by rw [← hW]; exact (Blk.new _ _ _).alloc _
      have hB3 : Blk W1 (w.heap.size + 1) 26 zS := by rw [← hW]; exact Blk.new' (by simp)
      clear hW
      have z0 := (hB2).frozen 0; have z1 := (hB2).frozen 1; have z2 := (hB2).frozen 2; have z3 := (hB2).frozen 3; have z4 := (hB2).frozen 4; have z5 := (hB2).frozen 5; have z6 := (hB2).frozen 6; have z7 := (hB2).frozen 7; have z8 := (hB2).frozen 8; have z9 := (hB2).frozen 9; have z10 := (hB2).frozen 10
      have b0 := (hB2).cell 0; have b1 := (hB2).cell 1; have b2 := (hB2).cell 2; have b3 := (hB2).cell 3; have b4 := (hB2).cell 4; have b5 := (hB2).cell 5; have b6 := (hB2).cell 6; have b7 := (hB2).cell 7; have b8 := (hB2).cell 8; have b9 := (hB2).cell 9; have b10 := (hB2).cell 10
      simp [zS] at b0 b1 b2 b3 b4 b5 b6 b7 b8 b9 b10
      have y0 := (hB3).frozen 0; have y1 := (hB3).frozen 1; have y2 := (hB3).frozen 2; have y3 := (hB3).frozen 3; have y4 := (hB3).frozen 4; have y5 := (hB3).frozen 5; have y6 := (hB3).frozen 6; have y7 := (hB3).frozen 7; have y8 := (hB3).frozen 8; have y9 := (hB3).frozen 9; have y10 := (hB3).frozen 10
      have d0 := (hB3).cell 0; have d1 := (hB3).cell 1; have d2 := (hB3).cell 2; have d3 := (hB3).cell 3; have d4 := (hB3).cell 4; have d5 := (hB3).cell 5; have d6 := (hB3).cell 6; have d7 := (hB3).cell 7; have d8 := (hB3).cell 8; have d9 := (hB3).cell 9; have d10 := (hB3).cell 10
      simp [zS] at d0 d1 d2 d3 d4 d5 d6 d7 d8 d9 d10
      have q0 := f0 ⟨W1, hbW⟩
      have hz := hbW.size
      go_wp2_with fail
      refine bodyPost_ret (v := .tuple #[.agg zS, .bool false]) (by simp [results, Tryz.results54, go_sem, zS, bs_nil, *]) rfl ?_
      exact ⟨_, SE.none.sm, false, rfl, (SmT.zero w.heap.size _).widen (Nat.le_refl _) (by simp; omega), HR.out, by (repeat (first | with_reducible assumption | with_reducible exact Below.refl _ _ | with_reducible refine Below.setCell ?_ (by first | omega | (simp; done) | (simp; omega)) _ | with_reducible refine Below.alloc ?_ (by first | omega | (simp; done) | (simp; omega)) _ | with_reducible refine below_drewN ?_ _ | with_reducible refine Below.drew ?_ | with_reducible refine Below.trans ?_ (Below.mono hbW (by first | omega | (simp; done) | (simp; omega)))))⟩
end Go.Proofs.YtgakjhaepdigpaaGreatDoor
