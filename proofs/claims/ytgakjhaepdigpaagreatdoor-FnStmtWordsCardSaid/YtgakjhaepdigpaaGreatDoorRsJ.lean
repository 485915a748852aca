
/- The program's reader of a line's words: a line that begins with when, any other. -/
import Derived.Test.YtgakjhaepdigpaaGreatDoorRsI
namespace Go.Proofs.YtgakjhaepdigpaaGreatDoor
set_option maxRecDepth 100000
set_option linter.unusedSimpArgs false
set_option linter.unusedVariables false
open Go.RowKit
attribute [local go_sem] bs_toList bs_get bs_size

theorem idx_say {ws : List Bytes} : (∃ k, sayAt ws = some k ∧ idxL cSay ws = (k : Int) ∧ k < ws.length) ∨ (sayAt ws = none ∧ idxL cSay ws = -1) := by
  unfold sayAt idxL
  cases h : ws.findIdx? (fun x => x == cSay) with
  | none => exact .inr ⟨rfl, rfl⟩
  | some k => exact .inl ⟨k, rfl, rfl, (List.findIdx?_eq_some_iff_getElem.1 h).1⟩
set_option maxHeartbeats 2000000 in
theorem imReadC_any (ws : List Bytes) (v : Value) (w : World) (hv : SlB w w.heap.size v ws) {x0 : Bytes} (hg0 : ws[0]? = some x0) (hA : ¬ (5 < ws.length ∧ x0 = cLet)) (hS : x0 ≠ cSay) (hW0 : x0 ≠ cWhen) : Calls Tryz.prog 57 #[v] w (RsP ws w) := by
  have hpos0 : 0 < ws.length := (List.getElem?_eq_some_iff.1 hg0).1
  obtain ⟨A, c, rfl, hc, hm⟩ := id hv.val
  obtain ⟨b, o, x, rfl, hb, hg, f0⟩ := str_at hv (i := 0) hpos0
  rw [hg0] at hg
  obtain rfl := Option.some.inj hg
  rw [Nat.add_zero] at f0
  have hpos : (0 : Int) < (ws.length : Int) := by omega
  have HR := Lib.hid (RdL.no' (w := ws) (fun e => by rw [e] at hpos0; simp at hpos0) (fun h => hA ⟨h.1, by rw [hg0] at h; exact Option.some.inj h.2⟩) (fun h => hS (by rw [hg0] at h; exact Option.some.inj h)) (fun h => hW0 (by rw [hg0] at h; exact Option.some.inj h)) SE.none.sm true)
  have hA1 : 5 < ws.length → (x0 == [108, 101, 116]) = false := fun h => by rw [beq_eq_false_iff_ne]; exact fun e => hA ⟨h, e⟩
  have hS1 : (x0 == [115, 97, 121]) = false := by rw [beq_eq_false_iff_ne]; exact hS
  have hW1 : (x0 == [119, 104, 101, 110]) = false := by rw [beq_eq_false_iff_ne]; exact hW0
  obtain ⟨big, hb5⟩ : ∃ b, decide ((5 : Int) < (ws.length : Int)) = b := ⟨_, rfl⟩
  go_enter Tryz.func57, Tryz.ntmps57
  go_upto_region 2 with fail
  generalize hW : World.alloc (World.alloc w _) _ = W1
  have hbW : Below w.heap.size w W1 := by rw [← hW]; (repeat (first | with_reducible assumption | with_reducible exact Below.refl _ _ | with_reducible refine Below.setCell ?_ (by first | omega | (simp; done) | (simp; omega)) _ | with_reducible refine Below.alloc ?_ (by first | omega | (simp; done) | (simp; omega)) _ | with_reducible refine below_drewN ?_ _ | with_reducible refine Below.drew ?_))
  have hB2 : Blk W1 w.heap.size 26 zS := by rw [← hW]; exact (Blk.new _ _ _).alloc _
  have hB3 : Blk W1 (w.heap.size + 1) 26 zS := by rw [← hW]; exact Blk.new' (by simp)
  clear hW
  have z0 := (hB2).frozen 0; have z1 := (hB2).frozen 1; have z2 := (hB2).frozen 2; have z3 := (hB2).frozen 3; have z4 := (hB2).frozen 4; have z5 := (hB2).frozen 5; have z6 := (hB2).frozen 6; have z7 := (hB2).frozen 7; have z8 := (hB2).frozen 8; have z9 := (hB2).frozen 9; have z10 := (hB2).frozen 10
  have b0 := (hB2).cell 0; have b1 := (hB2).cell 1; have b2 := (hB2).cell 2; have b3 := (hB2).cell 3; have b4 := (hB2).cell 4; have b5 := (hB2).cell 5; have b6 := (hB2).cell 6; have b7 := (hB2).cell 7; have b8 := (hB2).cell 8; have b9 := (hB2).cell 9; have b10 := (hB2).cell 10
  simp [zS] at b0 b1 b2 b3 b4 b5 b6 b7 b8 b9 b10
  have y0 := (hB3).frozen 0; have y1 := (hB3).frozen 1; have y2 := (hB3).frozen 2; have y3 := (hB3).frozen 3; have y4 := (hB3).frozen 4; have y5 := (hB3).frozen 5; have y6 := (hB3).frozen 6; have y7 := (hB3).frozen 7; have y8 := (hB3).frozen 8; have y9 := (hB3).frozen 9; have y10 := (hB3).frozen 10
  have d0 := (hB3).cell 0; have d1 := (hB3).cell 1; have d2 := (hB3).cell 2; have d3 := (hB3).cell 3; have d4 := (hB3).cell 4; have d5 := (hB3).cell 5; have d6 := (hB3).cell 6; have d7 := (hB3).cell 7; have d8 := (hB3).cell 8; have d9 := (hB3).cell 9; have d10 := (hB3).cell 10
  simp [zS] at d0 d1 d2 d3 d4 d5 d6 d7 d8 d9 d10
  have q0 := f0 ⟨W1, hbW⟩
  have hz := hbW.size
  cases big
  · go_wp2_with fail
    refine bodyPost_ret (v := .agg zS) (by simp [results, Tryz.results57, go_sem, zS, bs_nil, *]) rfl ?_
    exact ⟨_, SE.none.sm, rfl, (SmT.zero w.heap.size _).widen (Nat.le_refl _) (by simp; omega), HR.out, by (repeat (first | with_reducible assumption | with_reducible exact Below.refl _ _ | with_reducible refine Below.setCell ?_ (by first | omega | (simp; done) | (simp; omega)) _ | with_reducible refine Below.alloc ?_ (by first | omega | (simp; done) | (simp; omega)) _ | with_reducible refine below_drewN ?_ _ | with_reducible refine Below.drew ?_ | with_reducible refine Below.trans ?_ (Below.mono hbW (by first | omega | (simp; done) | (simp; omega)))))⟩
  · have hL1 := hA1 (by have := of_decide_eq_true hb5; omega)
    go_wp2_with fail
    refine bodyPost_ret (v := .agg zS) (by simp [results, Tryz.results57, go_sem, zS, bs_nil, *]) rfl ?_
    exact ⟨_, SE.none.sm, rfl, (SmT.zero w.heap.size _).widen (Nat.le_refl _) (by simp; omega), HR.out, by (repeat (first | with_reducible assumption | with_reducible exact Below.refl _ _ | with_reducible refine Below.setCell ?_ (by first | omega | (simp; done) | (simp; omega)) _ | with_reducible refine Below.alloc ?_ (by first | omega | (simp; done) | (simp; omega)) _ | with_reducible refine below_drewN ?_ _ | with_reducible refine Below.drew ?_ | with_reducible refine Below.trans ?_ (Below.mono hbW (by first | omega | (simp; done) | (simp; omega)))))⟩
set_option maxHeartbeats 2000000 in
theorem imReadWN_any (ws : List Bytes) (v : Value) (w : World) (hv : SlB w w.heap.size v ws) (hg0 : ws[0]? = some cWhen) (hN : ∀ k, 0 < k → sayAt ws ≠ some k) : Calls Tryz.prog 57 #[v] w (RsP ws w) := by
  have hpos0 : 0 < ws.length := (List.getElem?_eq_some_iff.1 hg0).1
  have HR := Lib.hid (RdL.whenNo hg0 hN ⟨3, [], [], Ex.none, Ex.none⟩ true)
  obtain ⟨A, c, rfl, hc, hm⟩ := id hv.val
  obtain ⟨b, o, x, rfl, hb, hg, f0⟩ := str_at hv (i := 0) hpos0
  rw [hg0] at hg
  obtain rfl := Option.some.inj hg
  rw [Nat.add_zero] at f0
  have hn0 : b ≠ w.heap.size := by omega
  have hn1 : b ≠ w.heap.size + 1 := by omega
  have hpos : (0 : Int) < (ws.length : Int) := by omega
  obtain ⟨big, hb5⟩ : ∃ b, decide ((5 : Int) < (ws.length : Int)) = b := ⟨_, rfl⟩
  obtain ⟨i, hi, hi0⟩ : ∃ i : Int, idxL cSay ws = i ∧ i ≤ 0 := by
    rcases idx_say (ws := ws) with ⟨k, h1, h2, _⟩ | ⟨_, h2⟩
    · refine ⟨_, h2, ?_⟩
      by_cases hk : 0 < k
      · exact absurd h1 (hN k hk)
      · omega
    · exact ⟨_, h2, by omega⟩
  have IX := Lib.hid (fun (w' : World) (h : Below w.heap.size w w') => hi ▸ index_any ws cSay _ w' (hv.ext h))
  have hid : decide (0 < i) = false := by rw [decide_eq_false_iff_not]; omega
  clear hi hN
  go_enter Tryz.func57, Tryz.ntmps57
  go_upto_region 2 with fail
  generalize hW : World.alloc (World.alloc w _) _ = W1
  have hbW : Below w.heap.size w W1 := by rw [← hW]; (repeat (first | with_reducible assumption | with_reducible exact Below.refl _ _ | with_reducible refine Below.setCell ?_ (by first | omega | (simp; done) | (simp; omega)) _ | with_reducible refine Below.alloc ?_ (by first | omega | (simp; done) | (simp; omega)) _ | with_reducible refine below_drewN ?_ _ | with_reducible refine Below.drew ?_))
  have hB2 : Blk W1 w.heap.size 26 zS := by rw [← hW]; exact (Blk.new _ _ _).alloc _
  have hB3 : Blk W1 (w.heap.size + 1) 26 zS := by rw [← hW]; exact Blk.new' (by simp)
  clear hW
  have HB := Lib.hid (And.intro hB2 hB3)
  have q0 := f0 ⟨W1, hbW⟩
  have y0 := hB3.frozen 0
  have d0 := hB3.cell 0
  simp [zS] at d0
  clear hB2 hB3
  cases big
  all_goals
    go_upto_region 10 with fail
    generalize hWE : World.setCell _ _ _ = WE
    have hD2 : Blk WE w.heap.size 26 zS := by rw [← hWE]; exact HB.out.1.far (by simp) _
    have hD3 : Blk WE (w.heap.size + 1) 26 (cS 3 [] [] 0 0 [] (.slice none 0 0) 0 0 [] (.slice none 0 0)) := by
      rw [← hWE]
      simpa [zS, cS] using HB.out.2.set_ 0 (.int .i64 3)
    have hbE : Below w.heap.size w WE := by rw [← hWE]; (repeat (first | with_reducible assumption | with_reducible exact Below.refl _ _ | with_reducible refine Below.setCell ?_ (by first | omega | (simp; done) | (simp; omega)) _ | with_reducible refine Below.alloc ?_ (by first | omega | (simp; done) | (simp; omega)) _ | with_reducible refine below_drewN ?_ _ | with_reducible refine Below.drew ?_ | with_reducible refine Below.trans ?_ (Below.mono hbW (by first | omega | (simp; done) | (simp; omega)))))
    clear hWE y0 d0 q0 hbW HB
    have hzE := hD3.lt
    have z0 := (hD2).frozen 0; have z1 := (hD2).frozen 1; have z2 := (hD2).frozen 2; have z3 := (hD2).frozen 3; have z4 := (hD2).frozen 4; have z5 := (hD2).frozen 5; have z6 := (hD2).frozen 6; have z7 := (hD2).frozen 7; have z8 := (hD2).frozen 8; have z9 := (hD2).frozen 9; have z10 := (hD2).frozen 10
    have b0 := (hD2).cell 0; have b1 := (hD2).cell 1; have b2 := (hD2).cell 2; have b3 := (hD2).cell 3; have b4 := (hD2).cell 4; have b5 := (hD2).cell 5; have b6 := (hD2).cell 6; have b7 := (hD2).cell 7; have b8 := (hD2).cell 8; have b9 := (hD2).cell 9; have b10 := (hD2).cell 10
    simp [zS] at b0 b1 b2 b3 b4 b5 b6 b7 b8 b9 b10
    have y0 := (hD3).frozen 0; have y1 := (hD3).frozen 1; have y2 := (hD3).frozen 2; have y3 := (hD3).frozen 3; have y4 := (hD3).frozen 4; have y5 := (hD3).frozen 5; have y6 := (hD3).frozen 6; have y7 := (hD3).frozen 7; have y8 := (hD3).frozen 8; have y9 := (hD3).frozen 9; have y10 := (hD3).frozen 10
    have d0 := (hD3).cell 0; have d1 := (hD3).cell 1; have d2 := (hD3).cell 2; have d3 := (hD3).cell 3; have d4 := (hD3).cell 4; have d5 := (hD3).cell 5; have d6 := (hD3).cell 6; have d7 := (hD3).cell 7; have d8 := (hD3).cell 8; have d9 := (hD3).cell 9; have d10 := (hD3).cell 10
    simp [cS] at d0 d1 d2 d3 d4 d5 d6 d7 d8 d9 d10
    clear hD2 hD3
    go_wp2_with fail
    refine (IX.out _ hbE).mono ?_
    rintro r _ ⟨rfl, rfl⟩
    go_wp2_with fail
    refine bodyPost_ret (v := .agg (cS 3 [] [] 0 0 [] (.slice none 0 0) 0 0 [] (.slice none 0 0))) (by simp [results, Tryz.results57, go_sem, cS, bs_nil, *]) rfl ?_
    exact ⟨_, ⟨3, [], [], Ex.none, Ex.none⟩, rfl, ⟨none, none, 0, 0, w.heap.size, rfl, by simp, by simp, TrM.leaf _ _ _ 0 0 [] (by simp), TrM.leaf _ _ _ 0 0 [] (by simp), Nat.le_refl _, by simp; omega⟩, HR.out, by (repeat (first | with_reducible assumption | with_reducible exact Below.refl _ _ | with_reducible refine Below.setCell ?_ (by first | omega | (simp; done) | (simp; omega)) _ | with_reducible refine Below.alloc ?_ (by first | omega | (simp; done) | (simp; omega)) _ | with_reducible refine below_drewN ?_ _ | with_reducible refine Below.drew ?_ | with_reducible refine Below.trans ?_ (Below.mono hbE (by first | omega | (simp; done) | (simp; omega)))))⟩
end Go.Proofs.YtgakjhaepdigpaaGreatDoor
