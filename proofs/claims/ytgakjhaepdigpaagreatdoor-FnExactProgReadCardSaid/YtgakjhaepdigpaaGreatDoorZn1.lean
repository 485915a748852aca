/- The program's reader of a line's words: a line that begins with when, any other. -/
import Derived.Test.YtgakjhaepdigpaaGreatDoorRsI
import Derived.Test.YtgakjhaepdigpaaGreatDoorImSs
namespace Go.Proofs.YtgakjhaepdigpaaGreatDoor
set_option maxRecDepth 100000
set_option linter.unusedSimpArgs false
set_option linter.unusedVariables false
open Go.RowKit
attribute [local go_sem] bs_toList bs_get bs_size

theorem idx_say {ws : List Bytes} : (∃ k, sayAt ws = some k ∧ idxL cSay ws = (k : Int) ∧ k < ws.length) ∨ (sayAt ws = none ∧ idxL cSay ws = -1) := by
  unfold sayAt idxL
  cases h : ws.findIdx? (fun x => x == cSay) with
  | none => exact .inr ⟨rfl, rfl⟩
  | some k => exact .inl ⟨k, rfl, rfl, (List.findIdx?_eq_some_iff_getElem.1 h).1⟩
set_option maxHeartbeats 2000000 in
theorem imReadC_any (ws : List Bytes) (v : Value) (w : World) (hv : SlB w w.heap.size v ws) {x0 : Bytes} (hg0 : ws[0]? = some x0) (hA : ¬ (5 < ws.length ∧ x0 = cLet)) (hS : x0 ≠ cSay) (hW0 : x0 ≠ cWhen) : Calls Tryz.prog 57 #[v] w (RsP ws w) := by
  have hpos0 : 0 < ws.length := (List.getElem?_eq_some_iff.1 hg0).1
  obtain ⟨A, c, rfl, hc, hm⟩ := id hv.val
  obtain ⟨b, o, x, rfl, hb, hg, f0⟩ := str_at hv (i := 0) hpos0
  rw [hg0] at hg
  obtain rfl := Option.some.inj hg
  rw [Nat.add_zero] at f0
  have hpos : (0 : Int) < (ws.length : Int) := by omega
  have HR := Lib.hid (RdL.no' (w := ws) (fun e => by rw [e] at hpos0; simp at hpos0) (fun h => hA ⟨h.1, by rw [hg0] at h; exact Option.some.inj h.2⟩) (fun h => hS (by rw [hg0] at h; exact Option.some.inj h)) (fun h => hW0 (by rw [hg0] at h; exact Option.some.inj h)) SE.none.sm true)
  have hA1 : 5 < ws.length → (x0 == [108, 101, 116]) = false := fun h => by rw [beq_eq_false_iff_ne]; exact fun e => hA ⟨h, e⟩
  have hS1 : (x0 == [115, 97, 121]) = false := by rw [beq_eq_false_iff_ne]; exact hS
  have hW1 : (x0 == [119, 104, 101, 110]) = false := by rw [beq_eq_false_iff_ne]; exact hW0
  obtain ⟨big, hb5⟩ : ∃ b, decide ((5 : Int) < (ws.length : Int)) = b := ⟨_, rfl⟩
  go_enter Tryz.func57, Tryz.ntmps57
  go_upto_region 2 with fail
  generalize hW : World.alloc (World.alloc w _) _ = W1
  have hbW : Below w.heap.size w W1 := by rw [← hW]; (repeat (first | with_reducible assumption | with_reducible exact Below.refl _ _ | with_reducible refine Below.setCell ?_ (by first | omega | (simp; done) | (simp; omega)) _ | with_reducible refine Below.alloc ?_ (by first | omega | (simp; done) | (simp; omega)) _ | with_reducible refine below_drewN ?_ _ | with_reducible refine Below.drew ?_))
  have hB2 : Blk W1 w.heap.size 26 zS := by rw [← hW]; exact (Blk.new _ _ _).alloc _
  have hB3 : Blk W1 (w.heap.size + 1) 26 zS := by rw [← hW]; exact Blk.new' (by simp)
  clear hW
  have z0 := (hB2).frozen 0; have z1 := (hB2).frozen 1; have z2 := (hB2).frozen 2; have z3 := (hB2).frozen 3; have z4 := (hB2).frozen 4; have z5 := (hB2).frozen 5; have z6 := (hB2).frozen 6; have z7 := (hB2).frozen 7; have z8 := (hB2).frozen 8; have z9 := (hB2).frozen 9; have z10 := (hB2).frozen 10
  have b0 := (hB2).cell 0; have b1 := (hB2).cell 1; have b2 := (hB2).cell 2; have b3 := (hB2).cell 3; have b4 := (hB2).cell 4; have b5 := (hB2).cell 5; have b6 := (hB2).cell 6; have b7 := (hB2).cell 7; have b8 := (hB2).cell 8; have b9 := (hB2).cell 9; have b10 := (hB2).cell 10
  simp [zS] at b0 b1 b2 b3 b4 b5 b6 b7 b8 b9 b10
  have y0 := (hB3).frozen 0; have y1 := (hB3).frozen 1; have y2 := (hB3).frozen 2; have y3 := (hB3).frozen 3; have y4 := (hB3).frozen 4; have y5 := (hB3).frozen 5; have y6 := (hB3).frozen 6; have y7 := (hB3).frozen 7; have y8 := (hB3).frozen 8; have y9 := (hB3).frozen 9; have y10 := (hB3).frozen 10
  have d0 := (hB3).cell 0; have d1 := (hB3).cell 1; have d2 := (hB3).cell 2; have d3 := (hB3).cell 3; have d4 := (hB3).cell 4; have d5 := (hB3).cell 5; have d6 := (hB3).cell 6; have d7 := (hB3).cell 7; have d8 := (hB3).cell 8; have d9 := (hB3).cell 9; have d10 := (hB3).cell 10
  simp [zS] at d0 d1 d2 d3 d4 d5 d6 d7 d8 d9 d10
  have q0 := f0 ⟨W1, hbW⟩
  have hz := hbW.size
  cases big
  · go_wp2_with fail
    refine bodyPost_ret (v := .agg zS) (by simp [results, Tryz.results57, go_sem, zS, bs_nil, *]) rfl ?_
    exact ⟨_, SE.none.sm, rfl, (SmT.zero w.heap.size _).widen (Nat.le_refl _) (by simp; omega), HR.out, by (repeat (first | with_reducible assumption | with_reducible exact Below.refl _ _ | with_reducible refine Below.setCell ?_ (by first | omega | (simp; done) | (simp; omega)) _ | with_reducible refine Below.alloc ?_ (by first | omega | (simp; done) | (simp; omega)) _ | with_reducible refine below_drewN ?_ _ | with_reducible refine Below.drew ?_ | with_reducible refine Below.trans ?_ (Below.mono hbW (by first | omega | (simp; done) | (simp; omega)))))⟩
  · have hL1 := hA1 (by have := of_decide_eq_true hb5; omega)
    go_wp2_with fail
    refine bodyPost_ret (v := .agg zS) (by simp [results, Tryz.results57, go_sem, zS, bs_nil, *]) rfl ?_
    exact ⟨_, SE.none.sm, rfl, (SmT.zero w.heap.size _).widen (Nat.le_refl _) (by simp; omega), HR.out, by (repeat (first | with_reducible assumption | with_reducible exact Below.refl _ _ | with_reducible refine Below.setCell ?_ (by first | omega | (simp; done) | (simp; omega)) _ | with_reducible refine Below.alloc ?_ (by first | omega | (simp; done) | (simp; omega)) _ | with_reducible refine below_drewN ?_ _ | with_reducible refine Below.drew ?_ | with_reducible refine Below.trans ?_ (Below.mono hbW (by first | omega | (simp; done) | (simp; omega)))))⟩
set_option maxHeartbeats 2000000 in
theorem imReadWN_any (ws : List Bytes) (v : Value) (w : World) (hv : SlB w w.heap.size v ws) (hg0 : ws[0]? = some cWhen) (hN : ∀ k, 0 < k → sayAt ws ≠ some k) : Calls Tryz.prog 57 #[v] w (RsP ws w) := by
  have hpos0 : 0 < ws.length := (List.getElem?_eq_some_iff.1 hg0).1
  have HR := Lib.hid (RdL.whenNo hg0 hN ⟨3, [], [], Ex.none, Ex.none⟩ true)
  obtain ⟨A, c, rfl, hc, hm⟩ := id hv.val
  obtain ⟨b, o, x, rfl, hb, hg, f0⟩ := str_at hv (i := 0) hpos0
  rw [hg0] at hg
  obtain rfl := Option.some.inj hg
  rw [Nat.add_zero] at f0
  have hn0 : b ≠ w.heap.size := by omega
  have hn1 : b ≠ w.heap.size + 1 := by omega
  have hpos : (0 : Int) < (ws.length : Int) := by omega
  obtain ⟨big, hb5⟩ : ∃ b, decide ((5 : Int) < (ws.length : Int)) = b := ⟨_, rfl⟩
  obtain ⟨i, hi, hi0⟩ : ∃ i : Int, idxL cSay ws = i ∧ i ≤ 0 := by
    rcases idx_say (ws := ws) with ⟨k, h1, h2, _⟩ | ⟨_, h2⟩
    · refine ⟨_, h2, ?_⟩
      by_cases hk : 0 < k
      · exact absurd h1 (hN k hk)
      · omega
    · exact ⟨_, h2, by omega⟩
  have IX := Lib.hid (fun (w' : World) (h : Below w.heap.size w w') => hi ▸ index_any ws cSay _ w' (hv.ext h))
  have hid : decide (0 < i) = false := by rw [decide_eq_false_iff_not]; omega
  clear hi hN
  go_enter Tryz.func57, Tryz.ntmps57
  go_upto_region 2 with fail
  generalize hW : World.alloc (World.alloc w _) _ = W1
  have hbW : Below w.heap.size w W1 := by rw [← hW]; (repeat (first | with_reducible assumption | with_reducible exact Below.refl _ _ | with_reducible refine Below.setCell ?_ (by first | omega | (simp; done) | (simp; omega)) _ | with_reducible refine Below.alloc ?_ (by first | omega | (simp; done) | (simp; omega)) _ | with_reducible refine below_drewN ?_ _ | with_reducible refine Below.drew ?_))
  have hB2 : Blk W1 w.heap.size 26 zS := by rw [← hW]; exact (Blk.new _ _ _).alloc _
  have hB3 : Blk W1 (w.heap.size + 1) 26 zS := by rw [← hW]; exact Blk.new' (by simp)
  clear hW
  have HB := Lib.hid (And.intro hB2 hB3)
  have q0 := f0 ⟨W1, hbW⟩
  have y0 := hB3.frozen 0
  have d0 := hB3.cell 0
  simp [zS] at d0
  clear hB2 hB3
  cases big
  all_goals
    go_upto_region 10 with fail
    generalize hWE : World.setCell _ _ _ = WE
    have hD2 : Blk WE w.heap.size 26 zS := by rw [← hWE]; exact HB.out.1.far (by simp) _
    have hD3 : Blk WE (w.heap.size + 1) 26 (cS 3 [] [] 0 0 [] (.slice none 0 0) 0 0 [] (.slice none 0 0)) := by
      rw [← hWE]
      simpa [zS, cS] using HB.out.2.set_ 0 (.int .i64 3)
    have hbE : Below w.heap.size w WE := by rw [← hWE]; (repeat (first | with_reducible assumption | with_reducible exact Below.refl _ _ | with_reducible refine Below.setCell ?_ (by first | omega | (simp; done) | (simp; omega)) _ | with_reducible refine Below.alloc ?_ (by first | omega | (simp; done) | (simp; omega)) _ | with_reducible refine below_drewN ?_ _ | with_reducible refine Below.drew ?_ | with_reducible refine Below.trans ?_ (Below.mono hbW (by first | omega | (simp; done) | (simp; omega)))))
    clear hWE y0 d0 q0 hbW HB
    have hzE := hD3.lt
    have z0 := (hD2).frozen 0; have z1 := (hD2).frozen 1; have z2 := (hD2).frozen 2; have z3 := (hD2).frozen 3; have z4 := (hD2).frozen 4; have z5 := (hD2).frozen 5; have z6 := (hD2).frozen 6; have z7 := (hD2).frozen 7; have z8 := (hD2).frozen 8; have z9 := (hD2).frozen 9; have z10 := (hD2).frozen 10
    have b0 := (hD2).cell 0; have b1 := (hD2).cell 1; have b2 := (hD2).cell 2; have b3 := (hD2).cell 3; have b4 := (hD2).cell 4; have b5 := (hD2).cell 5; have b6 := (hD2).cell 6; have b7 := (hD2).cell 7; have b8 := (hD2).cell 8; have b9 := (hD2).cell 9; have b10 := (hD2).cell 10
    simp [zS] at b0 b1 b2 b3 b4 b5 b6 b7 b8 b9 b10
    have y0 := (hD3).frozen 0; have y1 := (hD3).frozen 1; have y2 := (hD3).frozen 2; have y3 := (hD3).frozen 3; have y4 := (hD3).frozen 4; have y5 := (hD3).frozen 5; have y6 := (hD3).frozen 6; have y7 := (hD3).frozen 7; have y8 := (hD3).frozen 8; have y9 := (hD3).frozen 9; have y10 := (hD3).frozen 10
    have d0 := (hD3).cell 0; have d1 := (hD3).cell 1; have d2 := (hD3).cell 2; have d3 := (hD3).cell 3; have d4 := (hD3).cell 4; have d5 := (hD3).cell 5; have d6 := (hD3).cell 6; have d7 := (hD3).cell 7; have d8 := (hD3).cell 8; have d9 := (hD3).cell 9; have d10 := (hD3).cell 10
    simp [cS] at d0 d1 d2 d3 d4 d5 d6 d7 d8 d9 d10
    clear hD2 hD3
    go_wp2_with fail
    refine (IX.out _ hbE).mono ?_
    rintro r _ ⟨rfl, rfl⟩
    go_wp2_with fail
    refine bodyPost_ret (v := .agg (cS 3 [] [] 0 0 [] (.slice none 0 0) 0 0 [] (.slice none 0 0))) (by simp [results, Tryz.results57, go_sem, cS, bs_nil, *]) rfl ?_
    exact ⟨_, ⟨3, [], [], Ex.none, Ex.none⟩, rfl, ⟨none, none, 0, 0, w.heap.size, rfl, by simp, by simp, TrM.leaf _ _ _ 0 0 [] (by simp), TrM.leaf _ _ _ 0 0 [] (by simp), Nat.le_refl _, by simp; omega⟩, HR.out, by (repeat (first | with_reducible assumption | with_reducible exact Below.refl _ _ | with_reducible refine Below.setCell ?_ (by first | omega | (simp; done) | (simp; omega)) _ | with_reducible refine Below.alloc ?_ (by first | omega | (simp; done) | (simp; omega)) _ | with_reducible refine below_drewN ?_ _ | with_reducible refine Below.drew ?_ | with_reducible refine Below.trans ?_ (Below.mono hbE (by first | omega | (simp; done) | (simp; omega)))))⟩
end Go.Proofs.YtgakjhaepdigpaaGreatDoor


/- The program's reader of a line's words: a line that begins with when and holds say. -/
namespace Go.Proofs.YtgakjhaepdigpaaGreatDoor
set_option maxRecDepth 100000
set_option linter.unusedSimpArgs false
set_option linter.unusedVariables false
open Go.RowKit
attribute [local go_sem] bs_toList bs_get bs_size

set_option maxHeartbeats 4000000 in
theorem imReadW_any (ws : List Bytes) (v : Value) (w : World) (hv : SlB w w.heap.size v ws) (hs : ∀ s ∈ ws, s.length ≤ 120) (hl : ws.length ≤ 120) (hE : EnvA w) (hg0 : ws[0]? = some cWhen) (k : Nat) (hk : sayAt ws = some k) (hk0 : 0 < k) : Calls Tryz.prog 57 #[v] w (RsP ws w) := by
  have ER := Lib.hid (fun (ls : List Bytes) (u : Value) (w' : World) (h : Below w.heap.size w w') (hu : SlB w' w'.heap.size u ls) (hls : ∀ s ∈ ls, s.length ≤ 100000000) => imExprRead_any ls u w' hu hls (hE.ext h))
  clear hE
  have hpos0 : 0 < ws.length := (List.getElem?_eq_some_iff.1 hg0).1
  have HR := Lib.hid (RdL.when hg0 hk).yes
  obtain ⟨A, c, rfl, hc, hm⟩ := id hv.val
  obtain ⟨b, o, x, rfl, hb, hg, f0⟩ := str_at hv (i := 0) hpos0
  rw [hg0] at hg
  obtain rfl := Option.some.inj hg
  rw [Nat.add_zero] at f0
  have hn0 : b ≠ w.heap.size := by omega
  have hn1 : b ≠ w.heap.size + 1 := by omega
  have hpos : (0 : Int) < (ws.length : Int) := by omega
  obtain ⟨big, hb5⟩ : ∃ b, decide ((5 : Int) < (ws.length : Int)) = b := ⟨_, rfl⟩
  obtain ⟨hi, hkl⟩ : idxL cSay ws = (k : Int) ∧ k < ws.length := by
    rcases idx_say (ws := ws) with ⟨k', h1, h2, h3⟩ | ⟨h1, _⟩
    · rw [hk] at h1
      obtain rfl := Option.some.inj h1
      exact ⟨h2, h3⟩
    · rw [hk] at h1; cases h1
  have IX := Lib.hid (fun (w' : World) (h : Below w.heap.size w w') => hi ▸ index_any ws cSay _ w' (hv.ext h))
  have hid : decide ((0 : Int) < (k : Int)) = true := by rw [decide_eq_true_eq]; omega
  clear hi hk
  have SA := Lib.hid (fun (w' : World) (h : Below w.heap.size w w') => show SlB w' w'.heap.size (.slice (some ⟨b, o + 1, none⟩) (k - 1) (c - 1)) ((ws.take k).drop 1) by
    have h1 := slb_from (m := 1) ((hv.ext h).take (show k ≤ ws.length by omega)) (by rw [List.length_take]; omega) (some ⟨b, o + 1, none⟩) (fun _ => rfl)
    rw [List.length_take, Nat.min_eq_left (by omega)] at h1
    exact h1)
  have SB := Lib.hid (show ∀ (A' : Option Addr) (n' c' : Nat), n' = ws.length - (k + 1) → c' = c - (k + 1) → (k + 1 < ws.length → A' = some ⟨b, o + (k + 1), none⟩) → ∀ w', Below w.heap.size w w' → SlB w' w'.heap.size (.slice A' n' c') (ws.drop (k + 1)) from fun A' n' c' hn hc' hA' w' h => by
    subst hn hc'
    exact slb_from (m := k + 1) (hv.ext h) (by omega) A' hA')
  have hw1 : IntKind.i64.wrap ((k : Int) + 1) = (k : Int) + 1 := by rw [IntKind.wrap_i64]; omega
  have l1 : (1 : Int) ≤ (k : Int) := by omega
  have l2 : (k : Int) ≤ (ws.length : Int) := by omega
  have l3 : (k : Int) + 1 ≤ (ws.length : Int) := by omega
  have l4 : (0 : Int) ≤ (k : Int) + 1 := by omega
  have l5 : ((k : Int) + 1).toNat = k + 1 := by omega
  have l6 : (k : Int) ≤ (c : Int) := by omega
  go_enter Tryz.func57, Tryz.ntmps57
  go_upto_region 2 with fail
  generalize hW : World.alloc (World.alloc w _) _ = W1
  have hbW : Below w.heap.size w W1 := by rw [← hW]; (repeat (first | with_reducible assumption | with_reducible exact Below.refl _ _ | with_reducible refine Below.setCell ?_ (by first | omega | (simp; done) | (simp; omega)) _ | with_reducible refine Below.alloc ?_ (by first | omega | (simp; done) | (simp; omega)) _ | with_reducible refine below_drewN ?_ _ | with_reducible refine Below.drew ?_))
  have hB2 : Blk W1 w.heap.size 26 zS := by rw [← hW]; exact (Blk.new _ _ _).alloc _
  have hB3 : Blk W1 (w.heap.size + 1) 26 zS := by rw [← hW]; exact Blk.new' (by simp)
  clear hW
  have HB := Lib.hid (And.intro hB2 hB3)
  have q0 := f0 ⟨W1, hbW⟩
  have y0 := hB3.frozen 0
  have d0 := hB3.cell 0
  simp [zS] at d0
  clear hB2 hB3
  cases big
  all_goals
    go_upto_region 10 with fail
    generalize hWE : World.setCell _ _ _ = WE
    have hD2 : Blk WE w.heap.size 26 zS := by rw [← hWE]; exact HB.out.1.far (by simp) _
    have hD3 : Blk WE (w.heap.size + 1) 26 (cS 3 [] [] 0 0 [] (.slice none 0 0) 0 0 [] (.slice none 0 0)) := by
      rw [← hWE]
      simpa [zS, cS] using HB.out.2.set_ 0 (.int .i64 3)
    have hbE : Below w.heap.size w WE := by rw [← hWE]; (repeat (first | with_reducible assumption | with_reducible exact Below.refl _ _ | with_reducible refine Below.setCell ?_ (by first | omega | (simp; done) | (simp; omega)) _ | with_reducible refine Below.alloc ?_ (by first | omega | (simp; done) | (simp; omega)) _ | with_reducible refine below_drewN ?_ _ | with_reducible refine Below.drew ?_ | with_reducible refine Below.trans ?_ (Below.mono hbW (by first | omega | (simp; done) | (simp; omega)))))
    clear hWE y0 d0 q0 hbW HB
    have hzE := hD3.lt
    have E1 := Lib.hid (ER.out ((ws.take k).drop 1) _ WE hbE (SA.out WE hbE) (fun s h => by have := hs s (List.mem_of_mem_take (List.mem_of_mem_drop h)); omega))
    have E2 := Lib.hid (fun (A' : Option Addr) (n' c' : Nat) (hn : n' = ws.length - (k + 1)) (hc' : c' = c - (k + 1)) (hA' : k + 1 < ws.length → A' = some ⟨b, o + (k + 1), none⟩) (w' : World) (h : Below w.heap.size w w') => ER.out (ws.drop (k + 1)) _ w' h (SB.out A' n' c' hn hc' hA' w' h) (fun s h => by have := hs s (List.mem_of_mem_drop h); omega))
    unfold RdP at E1 E2
    generalize rdX ((ws.take k).drop 1) = X at *
    generalize rdX (ws.drop (k + 1)) = Y at *
    clear SA SB ER
    go_wp2_with fail
    refine (IX.out _ hbE).mono ?_
    rintro r _ ⟨rfl, rfl⟩
    go_wp2_with fail
    refine E1.out.mono ?_
    rintro r w2 ⟨v2, rfl, hT, hb2⟩
    obtain ⟨A2, c2, rfl, hc2, hm2, hs2⟩ := hT.form
    have hF2 := hD2.below hb2 hD2.lt
    have hF3 := hD3.below hb2 hD3.lt
    have hbw2 := hbE.ext hb2
    have hz2 := hb2.size
    have HX := Lib.hid (And.intro hT (And.intro hbw2 (And.intro hF2 hF3)))
    have y3 := hF3.frozen 3; have y4 := hF3.frozen 4; have y5 := hF3.frozen 5; have y6 := hF3.frozen 6
    have d3 := hF3.cell 3; have d4 := hF3.cell 4; have d5 := hF3.cell 5; have d6 := hF3.cell 6
    simp [cS] at d3 d4 d5 d6
    clear hD2 hD3 hF2 hF3 hT hbw2 E1 IX
    go_upto_region 13 with fail
    generalize hWG : World.setCell _ _ _ = WG
    have hG2 : Blk WG w.heap.size 26 zS := by
      rw [← hWG]
      (repeat (first | with_reducible exact HX.out.2.2.1 | with_reducible refine Blk.far ?_ (by first | (simp; done) | (simp; omega)) _))
    have hG3 : Blk WG (w.heap.size + 1) 26 (cS 3 [] [] X.kind X.n X.s (.slice A2 X.kids.length c2) 0 0 [] (.slice none 0 0)) := by
      rw [← hWG]
      simpa [cS] using (((HX.out.2.2.2.set_ 3 (.int .i64 X.kind)).set_ 4 (.int .i64 X.n)).set_ 5 (.string (bs X.s))).set_ 6 (.slice A2 X.kids.length c2)
    have hKG : ∀ b, w.heap.size + 2 ≤ b → WG.heap[b]? = w2.heap[b]? := by
      intro b h1
      rw [← hWG]
      (repeat (first | with_reducible rfl | with_reducible refine (Below.heap_setCell _ _ _ _ (by first | (simp; done) | (simp; omega))).trans ?_))
    have hzG : WG.heap.size = w2.heap.size := by rw [← hWG]; simp
    have hbG : Below w.heap.size w WG := by have hbx := HX.out.2.1; rw [← hWG]; (repeat (first | with_reducible assumption | with_reducible exact Below.refl _ _ | with_reducible refine Below.setCell ?_ (by first | omega | (simp; done) | (simp; omega)) _ | with_reducible refine Below.alloc ?_ (by first | omega | (simp; done) | (simp; omega)) _ | with_reducible refine below_drewN ?_ _ | with_reducible refine Below.drew ?_ | with_reducible refine Below.trans ?_ (Below.mono hbx (by first | omega | (simp; done) | (simp; omega)))))
    have hTG : TrM WE.heap.size WG.heap.size WG (.agg #[.int .i64 X.kind, .int .i64 X.n, .string (bs X.s), .slice A2 X.kids.length c2]) X := (HX.out.1.same (fun b h1 h2 => hKG b (by omega))).widen (Nat.le_refl _) (by omega)
    clear hWG hKG HX y3 y4 y5 y6 d3 d4 d5 d6
    by_cases hck : c = k + 1
    all_goals
      go_wp2_with fail
      first
        | (have hx1 : c = k + 1 := hck; refine (E2.out (some ⟨b, o, none⟩) (ws.length - (k + 1)) 0 rfl (by omega) (by intro h; omega) _ hbG).mono ?_; clear hx1)
        | refine (E2.out (some ⟨b, o + (k + 1), none⟩) (ws.length - (k + 1)) (c - (k + 1)) rfl rfl (fun _ => rfl) _ hbG).mono ?_
      rintro r w4 ⟨v4, rfl, hU, hb4⟩
      obtain ⟨A4, c4, rfl, hc4, hm4, hs4⟩ := hU.form
      have hH2 := hG2.below hb4 hG2.lt
      have hH3 := hG3.below hb4 hG3.lt
      have hbw4 := hbG.ext hb4
      have hz4 := hb4.size
      have z0 := (hH2).frozen 0; have z1 := (hH2).frozen 1; have z2 := (hH2).frozen 2; have z3 := (hH2).frozen 3; have z4 := (hH2).frozen 4; have z5 := (hH2).frozen 5; have z6 := (hH2).frozen 6; have z7 := (hH2).frozen 7; have z8 := (hH2).frozen 8; have z9 := (hH2).frozen 9; have z10 := (hH2).frozen 10
      have b0 := (hH2).cell 0; have b1 := (hH2).cell 1; have b2 := (hH2).cell 2; have b3 := (hH2).cell 3; have b4 := (hH2).cell 4; have b5 := (hH2).cell 5; have b6 := (hH2).cell 6; have b7 := (hH2).cell 7; have b8 := (hH2).cell 8; have b9 := (hH2).cell 9; have b10 := (hH2).cell 10
      simp [zS] at b0 b1 b2 b3 b4 b5 b6 b7 b8 b9 b10
      have y0 := (hH3).frozen 0; have y1 := (hH3).frozen 1; have y2 := (hH3).frozen 2; have y3 := (hH3).frozen 3; have y4 := (hH3).frozen 4; have y5 := (hH3).frozen 5; have y6 := (hH3).frozen 6; have y7 := (hH3).frozen 7; have y8 := (hH3).frozen 8; have y9 := (hH3).frozen 9; have y10 := (hH3).frozen 10
      have d0 := (hH3).cell 0; have d1 := (hH3).cell 1; have d2 := (hH3).cell 2; have d3 := (hH3).cell 3; have d4 := (hH3).cell 4; have d5 := (hH3).cell 5; have d6 := (hH3).cell 6; have d7 := (hH3).cell 7; have d8 := (hH3).cell 8; have d9 := (hH3).cell 9; have d10 := (hH3).cell 10
      simp [cS] at d0 d1 d2 d3 d4 d5 d6 d7 d8 d9 d10
      have HY := Lib.hid (And.intro (hTG.ext hb4) (And.intro hU hbw4))
      clear hG2 hG3 hH2 hH3 hTG hU hbw4 E2
      go_wp2_with fail
      refine bodyPost_ret (v := .agg (cS 3 [] [] X.kind X.n X.s (.slice A2 X.kids.length c2) Y.kind Y.n Y.s (.slice A4 Y.kids.length c4))) (by simp [results, Tryz.results57, go_sem, cS, bs_nil, *]) rfl ?_
      generalize hWF : World.setCell _ _ _ = WF
      have hK : ∀ b, w.heap.size + 2 ≤ b → WF.heap[b]? = w4.heap[b]? := by
        intro b h1
        rw [← hWF]
        (repeat (first | with_reducible rfl | with_reducible refine (Below.heap_setCell _ _ _ _ (by first | (simp; done) | (simp; omega))).trans ?_))
      have hzF : WF.heap.size = w4.heap.size := by rw [← hWF]; simp
      have hbF : Below w.heap.size w WF := by have hbx := HY.out.2.2; rw [← hWF]; (repeat (first | with_reducible assumption | with_reducible exact Below.refl _ _ | with_reducible refine Below.setCell ?_ (by first | omega | (simp; done) | (simp; omega)) _ | with_reducible refine Below.alloc ?_ (by first | omega | (simp; done) | (simp; omega)) _ | with_reducible refine below_drewN ?_ _ | with_reducible refine Below.drew ?_ | with_reducible refine Below.trans ?_ (Below.mono hbx (by first | omega | (simp; done) | (simp; omega)))))
      exact ⟨_, ⟨3, [], [], X, Y⟩, rfl, ⟨A2, A4, c2, c4, WG.heap.size, rfl, by simp, by simp, (HY.out.1.same (fun b h1 h2 => hK b (by omega))).widen (by omega) (Nat.le_refl _), (HY.out.2.1.same (fun b h1 h2 => hK b (by omega))).widen (Nat.le_refl _) (by omega), by omega, by omega⟩, HR.out, hbF⟩
theorem imReadStmt_any (ws : List Bytes) (v : Value) (w : World) (hv : SlB w w.heap.size v ws) (hs : ∀ s ∈ ws, s.length ≤ 120) (hl : ws.length ≤ 120) (hE : EnvA w) : Calls Tryz.prog 57 #[v] w (RsP ws w) := by
  by_cases h0 : ws.length = 0
  · exact imReadA_any ws v w hv hs hl hE (.inl h0)
  have hg : ws[0]? = some ws[0] := List.getElem?_eq_getElem (by omega)
  generalize ws[0] = x at hg
  by_cases hA : 5 < ws.length ∧ x = cLet
  · exact imReadA_any ws v w hv hs hl hE (.inr ⟨x, hg, .inl hA⟩)
  by_cases hS : x = cSay
  · exact imReadA_any ws v w hv hs hl hE (.inr ⟨x, hg, .inr hS⟩)
  by_cases hW : x = cWhen
  · subst hW
    by_cases hk : ∃ k, 0 < k ∧ sayAt ws = some k
    · obtain ⟨k, h1, h2⟩ := hk
      exact imReadW_any ws v w hv hs hl hE hg k h2 h1
    · exact imReadWN_any ws v w hv hg (fun k h1 h2 => hk ⟨k, h1, h2⟩)
  · exact imReadC_any ws v w hv hg hA hS hW
end Go.Proofs.YtgakjhaepdigpaaGreatDoor


/- The program's reader of a line. -/
namespace Go.Proofs.YtgakjhaepdigpaaGreatDoor
set_option maxRecDepth 100000
set_option linter.unusedSimpArgs false
set_option linter.unusedVariables false
open Go.RowKit
attribute [local go_sem] bs_toList bs_get bs_size cS

/-- what a line is read as -/
def RsA (line : Bytes) (w : World) (e : Ending) (w' : World) : Prop := ∃ v : Value, e = .returned (.tuple #[v, .bool (rdSOk line)]) ∧ SmT w.heap.size w'.heap.size w' v (rdSm line) ∧ Below w.heap.size w w'
theorem RsA.no {line : Bytes} {w w' : World} (h : rdSOk line = false ∧ rdSm line = SE.none.sm) (hb : Below w.heap.size w w') : RsA line w (.returned (.tuple #[.agg zS, .bool false])) w' :=
  ⟨_, by rw [h.1], by rw [h.2]; exact (SmT.zero w.heap.size w').widen (Nat.le_refl _) hb.size, hb⟩
set_option maxHeartbeats 4000000 in
theorem imStmtRead_any (line : Bytes) (w : World) (hs : line.length ≤ 100000000) (hE : EnvA w) : Calls Tryz.prog 13 #[.string (bs line)] w (RsA line w) := by
  have WO := Lib.hid (fun (w' : World) (h : Below w.heap.size w w') => imWordsOf_any line w' hs (hE.ext h))
  have RS := Lib.hid (fun (ws : List Bytes) (v : Value) (w' : World) (h : Below w.heap.size w w') (hv : SlB w' w'.heap.size v ws) (h1 : ∀ s ∈ ws, s.length ≤ 120) (h2 : ws.length ≤ 120) => imReadStmt_any ws v w' hv h1 h2 (hE.ext h))
  have OK := Lib.hid (fun (s : Sm) (v : Value) (w' : World) (h : Below w.heap.size w w') (hv : SmV w' w'.heap.size v s) => imStmtOk_any s v w' hv (hE.ext h).env)
  have TX := Lib.hid (fun (s : Sm) (v : Value) (w' : World) (h : Below w.heap.size w w') (hv : SmV w' w'.heap.size v s) => imStmtText_any s v w' hv (hE.ext h).env)
  clear hE
  go_enter Tryz.func13, Tryz.ntmps13
  go_upto_region 1 with fail
  generalize hW : World.alloc w _ = W1
  have hbW : Below w.heap.size w W1 := by rw [← hW]; (repeat (first | with_reducible assumption | with_reducible exact Below.refl _ _ | with_reducible refine Below.setCell ?_ (by first | omega | (simp; done) | (simp; omega)) _ | with_reducible refine Below.alloc ?_ (by first | omega | (simp; done) | (simp; omega)) _ | with_reducible refine below_drewN ?_ _ | with_reducible refine Below.drew ?_))
  have hB2 : Blk W1 w.heap.size 26 zS := by rw [← hW]; exact Blk.new _ _ _
  clear hW
  go_wp2_with fail
  refine (WO.out _ hbW).mono ?_
  rintro r w2 ⟨u, ws, ok, rfl, hS, h1, h2, hor, hb2⟩
  have hbw2 := hbW.ext hb2
  have HO := Lib.hid hor
  obtain ⟨A, c, rfl, _, _⟩ := id hS.val
  have R1 := Lib.hid (RS.out ws _ w2 hbw2 hS h1 h2)
  clear RS WO hS h1 h2 hor
  go_wp2_with fail
  refine R1.out.mono ?_
  rintro r w3 ⟨v, s, rfl, hT, hRd, hb3⟩
  have hV := hT.smv
  obtain ⟨A1, A2, c1, c2, mid, rfl, hrest⟩ := id hT
  clear hrest
  have hzW1 := hB2.lt
  have hB2' := (hB2.below hb2 hB2.lt).below hb3 (by have := hB2.lt; have := hb2.size; omega)
  have hbw3 := hbw2.ext hb3
  clear hB2
  go_upto_region 3 with fail
  generalize hWB : World.alloc _ _ = wB
  have hB6 : Blk wB w3.heap.size 26 (cS s.kind s.name s.typ s.ex.kind s.ex.n s.ex.s (.slice A1 s.ex.kids.length c1) s.th.kind s.th.n s.th.s (.slice A2 s.th.kids.length c2)) := by rw [← hWB]; exact Blk.new _ _ _
  have hbB : Below w3.heap.size w3 wB := by rw [← hWB]; (repeat (first | with_reducible assumption | with_reducible exact Below.refl _ _ | with_reducible refine Below.setCell ?_ (by first | omega | (simp; done) | (simp; omega)) _ | with_reducible refine Below.alloc ?_ (by first | omega | (simp; done) | (simp; omega)) _ | with_reducible refine below_drewN ?_ _ | with_reducible refine Below.drew ?_))
  clear hWB
  have hbwB := hbw3.ext hbB
  have hF2 := hB2'.below hbB hB2'.lt
  have O1 := Lib.hid (OK.out s _ wB hbwB (hV.ext hbB))
  have T1 := Lib.hid (fun (w' : World) (h : Below wB.heap.size wB w') => TX.out s _ w' (hbwB.ext h) ((hV.ext hbB).ext h))
  have HT := Lib.hid (And.intro hT (And.intro hRd (And.intro hb3 hbB)))
  unfold cS at O1 T1
  clear hV hT hRd OK TX hb3 hB2'
  cases ok
  · have HN := Lib.hid (show rdSOk line = false ∧ rdSm line = SE.none.sm from rdL_none (by rcases HO.out with ⟨h, _⟩ | ⟨_, h⟩; cases h; exact h))
    have z0 := (hF2).frozen 0; have z1 := (hF2).frozen 1; have z2 := (hF2).frozen 2; have z3 := (hF2).frozen 3; have z4 := (hF2).frozen 4; have z5 := (hF2).frozen 5; have z6 := (hF2).frozen 6; have z7 := (hF2).frozen 7; have z8 := (hF2).frozen 8; have z9 := (hF2).frozen 9; have z10 := (hF2).frozen 10
    have b0 := (hF2).cell 0; have b1 := (hF2).cell 1; have b2 := (hF2).cell 2; have b3 := (hF2).cell 3; have b4 := (hF2).cell 4; have b5 := (hF2).cell 5; have b6 := (hF2).cell 6; have b7 := (hF2).cell 7; have b8 := (hF2).cell 8; have b9 := (hF2).cell 9; have b10 := (hF2).cell 10
    simp [zS] at b0 b1 b2 b3 b4 b5 b6 b7 b8 b9 b10
    clear HO O1 T1 hB6 hF2
    go_wp2_with fail
    refine bodyPost_ret (v := .tuple #[.agg zS, .bool false]) (by simp [results, Tryz.results13, go_sem, zS, bs_nil, *]) rfl ?_
    exact RsA.no HN.out (by (repeat (first | with_reducible assumption | with_reducible exact Below.refl _ _ | with_reducible refine Below.setCell ?_ (by first | omega | (simp; done) | (simp; omega)) _ | with_reducible refine Below.alloc ?_ (by first | omega | (simp; done) | (simp; omega)) _ | with_reducible refine below_drewN ?_ _ | with_reducible refine Below.drew ?_ | with_reducible refine Below.trans ?_ (Below.mono hbwB (by first | omega | (simp; done) | (simp; omega))))))
  · have hlw : lineW line = some ws := by rcases HO.out with ⟨_, h⟩ | ⟨h, _⟩; exact h; cases h
    have ANS := Lib.hid (rdL_ans hlw HT.out.2.1)
    have y0 := (hB6).frozen 0; have y1 := (hB6).frozen 1; have y2 := (hB6).frozen 2; have y3 := (hB6).frozen 3; have y4 := (hB6).frozen 4; have y5 := (hB6).frozen 5; have y6 := (hB6).frozen 6; have y7 := (hB6).frozen 7; have y8 := (hB6).frozen 8; have y9 := (hB6).frozen 9; have y10 := (hB6).frozen 10
    have d0 := (hB6).cell 0; have d1 := (hB6).cell 1; have d2 := (hB6).cell 2; have d3 := (hB6).cell 3; have d4 := (hB6).cell 4; have d5 := (hB6).cell 5; have d6 := (hB6).cell 6; have d7 := (hB6).cell 7; have d8 := (hB6).cell 8; have d9 := (hB6).cell 9; have d10 := (hB6).cell 10
    simp [cS] at d0 d1 d2 d3 d4 d5 d6 d7 d8 d9 d10
    cases hk : smOkB s
    · have HN := Lib.hid (show rdSOk line = false ∧ rdSm line = SE.none.sm by
        have h1 : rdSOk line = false := by rw [ANS.out.1, hk]; simp
        exact ⟨h1, ANS.out.2.2 h1⟩)
      rw [hk] at O1
      clear T1
      go_wp2_with fail
      refine O1.out.mono ?_
      rintro r w4 ⟨rfl, hb4⟩
      have hG2 := hF2.below hb4 hF2.lt
      have hbw4 := hbwB.ext hb4
      have z0 := (hG2).frozen 0; have z1 := (hG2).frozen 1; have z2 := (hG2).frozen 2; have z3 := (hG2).frozen 3; have z4 := (hG2).frozen 4; have z5 := (hG2).frozen 5; have z6 := (hG2).frozen 6; have z7 := (hG2).frozen 7; have z8 := (hG2).frozen 8; have z9 := (hG2).frozen 9; have z10 := (hG2).frozen 10
      have b0 := (hG2).cell 0; have b1 := (hG2).cell 1; have b2 := (hG2).cell 2; have b3 := (hG2).cell 3; have b4 := (hG2).cell 4; have b5 := (hG2).cell 5; have b6 := (hG2).cell 6; have b7 := (hG2).cell 7; have b8 := (hG2).cell 8; have b9 := (hG2).cell 9; have b10 := (hG2).cell 10
      simp [zS] at b0 b1 b2 b3 b4 b5 b6 b7 b8 b9 b10
      clear hB6 hF2 hG2 d0 d1 d2 d3 d4 d5 d6 d7 d8 d9 d10
      go_wp2_with fail
      refine bodyPost_ret (v := .tuple #[.agg zS, .bool false]) (by simp [results, Tryz.results13, go_sem, zS, bs_nil, *]) rfl ?_
      exact RsA.no HN.out (by (repeat (first | with_reducible assumption | with_reducible exact Below.refl _ _ | with_reducible refine Below.setCell ?_ (by first | omega | (simp; done) | (simp; omega)) _ | with_reducible refine Below.alloc ?_ (by first | omega | (simp; done) | (simp; omega)) _ | with_reducible refine below_drewN ?_ _ | with_reducible refine Below.drew ?_ | with_reducible refine Below.trans ?_ (Below.mono hbw4 (by first | omega | (simp; done) | (simp; omega))))))
    · rw [hk] at O1
      have T2 := Lib.hid (fun (w' : World) (h : Below wB.heap.size wB w') => (T1.out w' h).mono (R' := fun r w'' => r = .returned (.string (bs (smText s))) ∧ Below w'.heap.size w' w'') fun e w'' ⟨h1, h2⟩ => ⟨by rw [h1, if_pos hk], h2⟩)
      have AN := Lib.hid (show (smText s = line → rdSOk line = true ∧ rdSm line = s) ∧ (smText s ≠ line → rdSOk line = false ∧ rdSm line = SE.none.sm) from
        ⟨fun h => by
          have h1 : rdSOk line = true := by simp [ANS.out.1, hk, h]
          exact ⟨h1, ANS.out.2.1 h1⟩, fun h => by
          have h1 : rdSOk line = false := by simp [ANS.out.1, hk, h]
          exact ⟨h1, ANS.out.2.2 h1⟩⟩)
      clear ANS T1 HO hlw
      generalize smText s = tx at *
      go_wp2_with fail
      refine O1.out.mono ?_
      rintro r w4 ⟨rfl, hb4⟩
      have hG2 := hF2.below hb4 hF2.lt
      have hG6 := hB6.below hb4 hB6.lt
      have hbw4 := hbwB.ext hb4
      clear d0 d1 d2 d3 d4 d5 d6 d7 d8 d9 d10 y0 y1 y2 y3 y4 y5 y6 y7 y8 y9 y10 hB6 hF2
      have y0 := (hG6).frozen 0; have y1 := (hG6).frozen 1; have y2 := (hG6).frozen 2; have y3 := (hG6).frozen 3; have y4 := (hG6).frozen 4; have y5 := (hG6).frozen 5; have y6 := (hG6).frozen 6; have y7 := (hG6).frozen 7; have y8 := (hG6).frozen 8; have y9 := (hG6).frozen 9; have y10 := (hG6).frozen 10
      have d0 := (hG6).cell 0; have d1 := (hG6).cell 1; have d2 := (hG6).cell 2; have d3 := (hG6).cell 3; have d4 := (hG6).cell 4; have d5 := (hG6).cell 5; have d6 := (hG6).cell 6; have d7 := (hG6).cell 7; have d8 := (hG6).cell 8; have d9 := (hG6).cell 9; have d10 := (hG6).cell 10
      simp [cS] at d0 d1 d2 d3 d4 d5 d6 d7 d8 d9 d10
      go_wp2_with fail
      refine (T2.out _ hb4).mono ?_
      rintro r w5 ⟨rfl, hb5⟩
      have hH2 := hG2.below hb5 hG2.lt
      have hH6 := hG6.below hb5 hG6.lt
      have hbw5 := hbw4.ext hb5
      have hb35 := HT.out.2.2.2.ext (hb4.ext hb5)
      clear d0 d1 d2 d3 d4 d5 d6 d7 d8 d9 d10 y0 y1 y2 y3 y4 y5 y6 y7 y8 y9 y10 hG6 hG2
      have y0 := (hH6).frozen 0; have y1 := (hH6).frozen 1; have y2 := (hH6).frozen 2; have y3 := (hH6).frozen 3; have y4 := (hH6).frozen 4; have y5 := (hH6).frozen 5; have y6 := (hH6).frozen 6; have y7 := (hH6).frozen 7; have y8 := (hH6).frozen 8; have y9 := (hH6).frozen 9; have y10 := (hH6).frozen 10
      have d0 := (hH6).cell 0; have d1 := (hH6).cell 1; have d2 := (hH6).cell 2; have d3 := (hH6).cell 3; have d4 := (hH6).cell 4; have d5 := (hH6).cell 5; have d6 := (hH6).cell 6; have d7 := (hH6).cell 7; have d8 := (hH6).cell 8; have d9 := (hH6).cell 9; have d10 := (hH6).cell 10
      simp [cS] at d0 d1 d2 d3 d4 d5 d6 d7 d8 d9 d10
      have z0 := (hH2).frozen 0; have z1 := (hH2).frozen 1; have z2 := (hH2).frozen 2; have z3 := (hH2).frozen 3; have z4 := (hH2).frozen 4; have z5 := (hH2).frozen 5; have z6 := (hH2).frozen 6; have z7 := (hH2).frozen 7; have z8 := (hH2).frozen 8; have z9 := (hH2).frozen 9; have z10 := (hH2).frozen 10
      have b0 := (hH2).cell 0; have b1 := (hH2).cell 1; have b2 := (hH2).cell 2; have b3 := (hH2).cell 3; have b4 := (hH2).cell 4; have b5 := (hH2).cell 5; have b6 := (hH2).cell 6; have b7 := (hH2).cell 7; have b8 := (hH2).cell 8; have b9 := (hH2).cell 9; have b10 := (hH2).cell 10
      simp [zS] at b0 b1 b2 b3 b4 b5 b6 b7 b8 b9 b10
      have hlt2 := hH2.lt
      clear hH6 hH2
      by_cases he : tx = line
      · have hne : (tx == line) = true := by simp [he]
        have hAN := Lib.hid (AN.out.1 he)
        clear AN he
        go_wp2_with fail
        refine bodyPost_ret (v := .tuple #[.agg (cS s.kind s.name s.typ s.ex.kind s.ex.n s.ex.s (.slice A1 s.ex.kids.length c1) s.th.kind s.th.n s.th.s (.slice A2 s.th.kids.length c2)), .bool true]) (by simp [results, Tryz.results13, go_sem, cS, bs_nil, *]) rfl ?_
        generalize hWF : World.setCell _ _ _ = WF
        have hK : ∀ b, w.heap.size + 1 ≤ b → WF.heap[b]? = w5.heap[b]? := by
          intro b h1
          rw [← hWF]
          (repeat (first | with_reducible rfl | with_reducible refine (Below.heap_setCell _ _ _ _ (by first | (simp; done) | (simp; omega))).trans ?_))
        have hzF : WF.heap.size = w5.heap.size := by rw [← hWF]; simp
        have hbF : Below w.heap.size w WF := by rw [← hWF]; (repeat (first | with_reducible assumption | with_reducible exact Below.refl _ _ | with_reducible refine Below.setCell ?_ (by first | omega | (simp; done) | (simp; omega)) _ | with_reducible refine Below.alloc ?_ (by first | omega | (simp; done) | (simp; omega)) _ | with_reducible refine below_drewN ?_ _ | with_reducible refine Below.drew ?_ | with_reducible refine Below.trans ?_ (Below.mono hbw5 (by first | omega | (simp; done) | (simp; omega)))))
        have hz1 := hb35.size
        have hz0 := hb2.size
        have hzW := hbw2.size
        exact ⟨_, by rw [hAN.out.1], by rw [hAN.out.2]; exact ((HT.out.1.ext hb35).same (fun b h1 h2 => hK b (by omega))).widen (by omega) (by omega), hbF⟩
      · have hne : (tx == line) = false := by simp [he]
        have hAN := Lib.hid (AN.out.2 he)
        clear AN he d0 d1 d2 d3 d4 d5 d6 d7 d8 d9 d10 y0 y1 y2 y3 y4 y5 y6 y7 y8 y9 y10
        go_wp2_with fail
        refine bodyPost_ret (v := .tuple #[.agg zS, .bool false]) (by simp [results, Tryz.results13, go_sem, zS, bs_nil, *]) rfl ?_
        exact RsA.no hAN.out (by (repeat (first | with_reducible assumption | with_reducible exact Below.refl _ _ | with_reducible refine Below.setCell ?_ (by first | omega | (simp; done) | (simp; omega)) _ | with_reducible refine Below.alloc ?_ (by first | omega | (simp; done) | (simp; omega)) _ | with_reducible refine below_drewN ?_ _ | with_reducible refine Below.drew ?_ | with_reducible refine Below.trans ?_ (Below.mono hbw5 (by first | omega | (simp; done) | (simp; omega))))))
end Go.Proofs.YtgakjhaepdigpaaGreatDoor
