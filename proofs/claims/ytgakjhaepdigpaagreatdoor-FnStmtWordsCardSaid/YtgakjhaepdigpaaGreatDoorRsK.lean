
/- The program's reader of a line's words: a line that begins with when and holds say. -/
import Derived.Test.YtgakjhaepdigpaaGreatDoorRsJ
namespace Go.Proofs.YtgakjhaepdigpaaGreatDoor
set_option maxRecDepth 100000
set_option linter.unusedSimpArgs false
set_option linter.unusedVariables false
open Go.RowKit
attribute [local go_sem] bs_toList bs_get bs_size

set_option maxHeartbeats 4000000 in
theorem imReadW_any (ws : List Bytes) (v : Value) (w : World) (hv : SlB w w.heap.size v ws) (hs : ∀ s ∈ ws, s.length ≤ 120) (hl : ws.length ≤ 120) (hE : EnvA w) (hg0 : ws[0]? = some cWhen) (k : Nat) (hk : sayAt ws = some k) (hk0 : 0 < k) : Calls Tryz.prog 57 #[v] w (RsP ws w) := by
  have ER := Lib.hid (fun (ls : List Bytes) (u : Value) (w' : World) (h : Below w.heap.size w w') (hu : SlB w' w'.heap.size u ls) (hls : ∀ s ∈ ls, s.length ≤ 100000000) => imExprRead_any ls u w' hu hls (hE.ext h))
  clear hE
  have hpos0 : 0 < ws.length := (List.getElem?_eq_some_iff.1 hg0).1
  have HR := Lib.hid (RdL.when hg0 hk).yes
  obtain ⟨A, c, rfl, hc, hm⟩ := id hv.val
  obtain ⟨b, o, x, rfl, hb, hg, f0⟩ := str_at hv (i := 0) hpos0
  rw [hg0] at hg
  obtain rfl := Option.some.inj hg
  rw [Nat.add_zero] at f0
  have hn0 : b ≠ w.heap.size := by omega
  have hn1 : b ≠ w.heap.size + 1 := by omega
  have hpos : (0 : Int) < (ws.length : Int) := by omega
  obtain ⟨big, hb5⟩ : ∃ b, decide ((5 : Int) < (ws.length : Int)) = b := ⟨_, rfl⟩
  obtain ⟨hi, hkl⟩ : idxL cSay ws = (k : Int) ∧ k < ws.length := by
    rcases idx_say (ws := ws) with ⟨k', h1, h2, h3⟩ | ⟨h1, _⟩
    · rw [hk] at h1
      obtain rfl := Option.some.inj h1
      exact ⟨h2, h3⟩
    · rw [hk] at h1; cases h1
  have IX := Lib.hid (fun (w' : World) (h : Below w.heap.size w w') => hi ▸ index_any ws cSay _ w' (hv.ext h))
  have hid : decide ((0 : Int) < (k : Int)) = true := by rw [decide_eq_true_eq]; omega
  clear hi hk
  have SA := Lib.hid (fun (w' : World) (h : Below w.heap.size w w') => show SlB w' w'.heap.size (.slice (some ⟨b, o + 1, none⟩) (k - 1) (c - 1)) ((ws.take k).drop 1) by
    have h1 := slb_from (m := 1) ((hv.ext h).take (show k ≤ ws.length by omega)) (by rw [List.length_take]; omega) (some ⟨b, o + 1, none⟩) (fun _ => rfl)
    rw [List.length_take, Nat.min_eq_left (by omega)] at h1
    exact h1)
  have SB := Lib.hid (show ∀ (A' : Option Addr) (n' c' : Nat), n' = ws.length - (k + 1) → c' = c - (k + 1) → (k + 1 < ws.length → A' = some ⟨b, o + (k + 1), none⟩) → ∀ w', Below w.heap.size w w' → SlB w' w'.heap.size (.slice A' n' c') (ws.drop (k + 1)) from fun A' n' c' hn hc' hA' w' h => by
    subst hn hc'
    exact slb_from (m := k + 1) (hv.ext h) (by omega) A' hA')
  have hw1 : IntKind.i64.wrap ((k : Int) + 1) = (k : Int) + 1 := by rw [IntKind.wrap_i64]; omega
  have l1 : (1 : Int) ≤ (k : Int) := by omega
  have l2 : (k : Int) ≤ (ws.length : Int) := by omega
  have l3 : (k : Int) + 1 ≤ (ws.length : Int) := by omega
  have l4 : (0 : Int) ≤ (k : Int) + 1 := by omega
  have l5 : ((k : Int) + 1).toNat = k + 1 := by omega
  have l6 : (k : Int) ≤ (c : Int) := by omega
  go_enter Tryz.func57, Tryz.ntmps57
  go_upto_region 2 with fail
  generalize hW : World.alloc (World.alloc w _) _ = W1
  have hbW : Below w.heap.size w W1 := by rw [← hW]; (repeat (first | with_reducible assumption | with_reducible exact Below.refl _ _ | with_reducible refine Below.setCell ?_ (by first | omega | (simp; done) | (simp; omega)) _ | with_reducible refine Below.alloc ?_ (by first | omega | (simp; done) | (simp; omega)) _ | with_reducible refine below_drewN ?_ _ | with_reducible refine Below.drew ?_))
  have hB2 : Blk W1 w.heap.size 26 zS := by rw [← hW]; exact (Blk.new _ _ _).alloc _
  have hB3 : Blk W1 (w.heap.size + 1) 26 zS := by rw [← hW]; exact Blk.new' (by simp)
  clear hW
  have HB := Lib.hid (And.intro hB2 hB3)
  have q0 := f0 ⟨W1, hbW⟩
  have y0 := hB3.frozen 0
  have d0 := hB3.cell 0
  simp [zS] at d0
  clear hB2 hB3
  cases big
  all_goals
    go_upto_region 10 with fail
    generalize hWE : World.setCell _ _ _ = WE
    have hD2 : Blk WE w.heap.size 26 zS := by rw [← hWE]; exact HB.out.1.far (by simp) _
    have hD3 : Blk WE (w.heap.size + 1) 26 (cS 3 [] [] 0 0 [] (.slice none 0 0) 0 0 [] (.slice none 0 0)) := by
      rw [← hWE]
      simpa [zS, cS] using HB.out.2.set_ 0 (.int .i64 3)
    have hbE : Below w.heap.size w WE := by rw [← hWE]; (repeat (first | with_reducible assumption | with_reducible exact Below.refl _ _ | with_reducible refine Below.setCell ?_ (by first | omega | (simp; done) | (simp; omega)) _ | with_reducible refine Below.alloc ?_ (by first | omega | (simp; done) | (simp; omega)) _ | with_reducible refine below_drewN ?_ _ | with_reducible refine Below.drew ?_ | with_reducible refine Below.trans ?_ (Below.mono hbW (by first | omega | (simp; done) | (simp; omega)))))
    clear hWE y0 d0 q0 hbW HB
    have hzE := hD3.lt
    have E1 := Lib.hid (ER.out ((ws.take k).drop 1) _ WE hbE (SA.out WE hbE) (fun s h => by have := hs s (List.mem_of_mem_take (List.mem_of_mem_drop h)); omega))
    have E2 := Lib.hid (fun (A' : Option Addr) (n' c' : Nat) (hn : n' = ws.length - (k + 1)) (hc' : c' = c - (k + 1)) (hA' : k + 1 < ws.length → A' = some ⟨b, o + (k + 1), none⟩) (w' : World) (h : Below w.heap.size w w') => ER.out (ws.drop (k + 1)) _ w' h (SB.out A' n' c' hn hc' hA' w' h) (fun s h => by have := hs s (List.mem_of_mem_drop h); omega))
    unfold RdP at E1 E2
    generalize rdX ((ws.take k).drop 1) = X at *
    generalize rdX (ws.drop (k + 1)) = Y at *
    clear SA SB ER
    go_wp2_with fail
    refine (IX.out _ hbE).mono ?_
    rintro r _ ⟨rfl, rfl⟩
    go_wp2_with fail
    refine E1.out.mono ?_
    rintro r w2 ⟨v2, rfl, hT, hb2⟩
    obtain ⟨A2, c2, rfl, hc2, hm2, hs2⟩ := hT.form
    have hF2 := hD2.below hb2 hD2.lt
    have hF3 := hD3.below hb2 hD3.lt
    have hbw2 := hbE.ext hb2
    have hz2 := hb2.size
    have HX := Lib.hid (And.intro hT (And.intro hbw2 (And.intro hF2 hF3)))
    have y3 := hF3.frozen 3; have y4 := hF3.frozen 4; have y5 := hF3.frozen 5; have y6 := hF3.frozen 6
    have d3 := hF3.cell 3; have d4 := hF3.cell 4; have d5 := hF3.cell 5; have d6 := hF3.cell 6
    simp [cS] at d3 d4 d5 d6
    clear hD2 hD3 hF2 hF3 hT hbw2 E1 IX
    go_upto_region 13 with fail
    generalize hWG : World.setCell _ _ _ = WG
    have hG2 : Blk WG w.heap.size 26 zS := by
      rw [← hWG]
      (repeat (first | with_reducible exact HX.out.2.2.1 | with_reducible refine Blk.far ?_ (by first | (simp; done) | (simp; omega)) _))
    have hG3 : Blk WG (w.heap.size + 1) 26 (cS 3 [] [] X.kind X.n X.s (.slice A2 X.kids.length c2) 0 0 [] (.slice none 0 0)) := by
      rw [← hWG]
      simpa [cS] using (((HX.out.2.2.2.set_ 3 (.int .i64 X.kind)).set_ 4 (.int .i64 X.n)).set_ 5 (.string (bs X.s))).set_ 6 (.slice A2 X.kids.length c2)
    have hKG : ∀ b, w.heap.size + 2 ≤ b → WG.heap[b]? = w2.heap[b]? := by
      intro b h1
      rw [← hWG]
      (repeat (first | with_reducible rfl | with_reducible refine (Below.heap_setCell _ _ _ _ (by first | (simp; done) | (simp; omega))).trans ?_))
    have hzG : WG.heap.size = w2.heap.size := by rw [← hWG]; simp
    have hbG : Below w.heap.size w WG := by have hbx := HX.out.2.1; rw [← hWG]; (repeat (first | with_reducible assumption | with_reducible exact Below.refl _ _ | with_reducible refine Below.setCell ?_ (by first | omega | (simp; done) | (simp; omega)) _ | with_reducible refine Below.alloc ?_ (by first | omega | (simp; done) | (simp; omega)) _ | with_reducible refine below_drewN ?_ _ | with_reducible refine Below.drew ?_ | with_reducible refine Below.trans ?_ (Below.mono hbx (by first | omega | (simp; done) | (simp; omega)))))
    have hTG : TrM WE.heap.size WG.heap.size WG (.agg #[.int .i64 X.kind, .int .i64 X.n, .string (bs X.s), .slice A2 X.kids.length c2]) X := (HX.out.1.same (fun b h1 h2 => hKG b (by omega))).widen (Nat.le_refl _) (by omega)
    clear hWG hKG HX y3 y4 y5 y6 d3 d4 d5 d6
    by_cases hck : c = k + 1
    all_goals
      go_wp2_with fail
      first
        | (have hx1 : c = k + 1 := hck; refine (E2.out (some ⟨b, o, none⟩) (ws.length - (k + 1)) 0 rfl (by omega) (by intro h; omega) _ hbG).mono ?_; clear hx1)
        | refine (E2.out (some ⟨b, o + (k + 1), none⟩) (ws.length - (k + 1)) (c - (k + 1)) rfl rfl (fun _ => rfl) _ hbG).mono ?_
      rintro r w4 ⟨v4, rfl, hU, hb4⟩
      obtain ⟨A4, c4, rfl, hc4, hm4, hs4⟩ := hU.form
      have hH2 := hG2.below hb4 hG2.lt
      have hH3 := hG3.below hb4 hG3.lt
      have hbw4 := hbG.ext hb4
      have hz4 := hb4.size
      have z0 := (hH2).frozen 0; have z1 := (hH2).frozen 1; have z2 := (hH2).frozen 2; have z3 := (hH2).frozen 3; have z4 := (hH2).frozen 4; have z5 := (hH2).frozen 5; have z6 := (hH2).frozen 6; have z7 := (hH2).frozen 7; have z8 := (hH2).frozen 8; have z9 := (hH2).frozen 9; have z10 := (hH2).frozen 10
      have b0 := (hH2).cell 0; have b1 := (hH2).cell 1; have b2 := (hH2).cell 2; have b3 := (hH2).cell 3; have b4 := (hH2).cell 4; have b5 := (hH2).cell 5; have b6 := (hH2).cell 6; have b7 := (hH2).cell 7; have b8 := (hH2).cell 8; have b9 := (hH2).cell 9; have b10 := (hH2).cell 10
      simp [zS] at b0 b1 b2 b3 b4 b5 b6 b7 b8 b9 b10
      have y0 := (hH3).frozen 0; have y1 := (hH3).frozen 1; have y2 := (hH3).frozen 2; have y3 := (hH3).frozen 3; have y4 := (hH3).frozen 4; have y5 := (hH3).frozen 5; have y6 := (hH3).frozen 6; have y7 := (hH3).frozen 7; have y8 := (hH3).frozen 8; have y9 := (hH3).frozen 9; have y10 := (hH3).frozen 10
      have d0 := (hH3).cell 0; have d1 := (hH3).cell 1; have d2 := (hH3).cell 2; have d3 := (hH3).cell 3; have d4 := (hH3).cell 4; have d5 := (hH3).cell 5; have d6 := (hH3).cell 6; have d7 := (hH3).cell 7; have d8 := (hH3).cell 8; have d9 := (hH3).cell 9; have d10 := (hH3).cell 10
      simp [cS] at d0 d1 d2 d3 d4 d5 d6 d7 d8 d9 d10
      have HY := Lib.hid (And.intro (hTG.ext hb4) (And.intro hU hbw4))
      clear hG2 hG3 hH2 hH3 hTG hU hbw4 E2
      go_wp2_with fail
      refine bodyPost_ret (v := .agg (cS 3 [] [] X.kind X.n X.s (.slice A2 X.kids.length c2) Y.kind Y.n Y.s (.slice A4 Y.kids.length c4))) (by simp [results, Tryz.results57, go_sem, cS, bs_nil, *]) rfl ?_
      generalize hWF : World.setCell _ _ _ = WF
      have hK : ∀ b, w.heap.size + 2 ≤ b → WF.heap[b]? = w4.heap[b]? := by
        intro b h1
        rw [← hWF]
        (repeat (first | with_reducible rfl | with_reducible refine (Below.heap_setCell _ _ _ _ (by first | (simp; done) | (simp; omega))).trans ?_))
      have hzF : WF.heap.size = w4.heap.size := by rw [← hWF]; simp
      have hbF : Below w.heap.size w WF := by have hbx := HY.out.2.2; rw [← hWF]; (repeat (first | with_reducible assumption | with_reducible exact Below.refl _ _ | with_reducible refine Below.setCell ?_ (by first | omega | (simp; done) | (simp; omega)) _ | with_reducible refine Below.alloc ?_ (by first | omega | (simp; done) | (simp; omega)) _ | with_reducible refine below_drewN ?_ _ | with_reducible refine Below.drew ?_ | with_reducible refine Below.trans ?_ (Below.mono hbx (by first | omega | (simp; done) | (simp; omega)))))
      exact ⟨_, ⟨3, [], [], X, Y⟩, rfl, ⟨A2, A4, c2, c4, WG.heap.size, rfl, by simp, by simp, (HY.out.1.same (fun b h1 h2 => hK b (by omega))).widen (by omega) (Nat.le_refl _), (HY.out.2.1.same (fun b h1 h2 => hK b (by omega))).widen (Nat.le_refl _) (by omega), by omega, by omega⟩, HR.out, hbF⟩
theorem imReadStmt_any (ws : List Bytes) (v : Value) (w : World) (hv : SlB w w.heap.size v ws) (hs : ∀ s ∈ ws, s.length ≤ 120) (hl : ws.length ≤ 120) (hE : EnvA w) : Calls Tryz.prog 57 #[v] w (RsP ws w) := by
  by_cases h0 : ws.length = 0
  · exact imReadA_any ws v w hv hs hl hE (.inl h0)
  have hg : ws[0]? = some ws[0] := List.getElem?_eq_getElem (by omega)
  generalize ws[0] = x at hg
  by_cases hA : 5 < ws.length ∧ x = cLet
  · exact imReadA_any ws v w hv hs hl hE (.inr ⟨x, hg, .inl hA⟩)
  by_cases hS : x = cSay
  · exact imReadA_any ws v w hv hs hl hE (.inr ⟨x, hg, .inr hS⟩)
  by_cases hW : x = cWhen
  · subst hW
    by_cases hk : ∃ k, 0 < k ∧ sayAt ws = some k
    · obtain ⟨k, h1, h2⟩ := hk
      exact imReadW_any ws v w hv hs hl hE hg k h2 h1
    · exact imReadWN_any ws v w hv hg (fun k h1 h2 => hk ⟨k, h1, h2⟩)
  · exact imReadC_any ws v w hv hg hA hS hW
end Go.Proofs.YtgakjhaepdigpaaGreatDoor
