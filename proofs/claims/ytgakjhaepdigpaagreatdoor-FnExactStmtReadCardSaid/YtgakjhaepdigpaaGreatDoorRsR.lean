
/- The law's reader of a line's words: when with say; all of it; the law's reader of a line. -/
import Derived.Test.YtgakjhaepdigpaaGreatDoorRsQ
import Derived.Test.YtgakjhaepdigpaaGreatDoorRsL
import Derived.Test.YtgakjhaepdigpaaGreatDoorStOk
namespace Go.Proofs.YtgakjhaepdigpaaGreatDoor
set_option maxRecDepth 100000
set_option linter.unusedSimpArgs false
set_option linter.unusedVariables false
open Go.RowKit
attribute [local go_sem] bs_toList bs_get bs_size

set_option maxHeartbeats 4000000 in
theorem spReadW_any (ws : List Bytes) (v : Value) (w : World) (hv : SlB w w.heap.size v ws) (hs : ∀ s ∈ ws, s.length ≤ 120) (hl : ws.length ≤ 120) (hg0 : ws[0]? = some cWhen) (k : Nat) (hk : sayAt ws = some k) (hk0 : 0 < k) : Calls Tryz.prog 54 #[v] w (RrP ws w) := by
  have ER := Lib.hid (fun (ls : List Bytes) (u : Value) (w' : World) (hu : SlB w' w'.heap.size u ls) (hls : ∀ s ∈ ls, s.length ≤ 100000000) => spExprRead_any ls u w' hu hls)
  have hpos0 : 0 < ws.length := (List.getElem?_eq_some_iff.1 hg0).1
  have HR := Lib.hid (RdL.when hg0 hk)
  obtain ⟨A, c, rfl, hc, hm⟩ := id hv.val
  obtain ⟨b, o, x, rfl, hb, hg, f0⟩ := str_at hv (i := 0) hpos0
  rw [hg0] at hg
  obtain rfl := Option.some.inj hg
  rw [Nat.add_zero] at f0
  have hn0 : b ≠ w.heap.size := by omega
  have hn1 : b ≠ w.heap.size + 1 := by omega
  have l0 : (0 : Int) < (ws.length : Int) := by omega
  have lz : (((ws.length : Nat) : Int) == 0) = false := by rw [beq_eq_false_iff_ne]; omega
  obtain ⟨hi, hkl⟩ : idxL cSay ws = (k : Int) ∧ k < ws.length := by
    rcases idx_say (ws := ws) with ⟨k', h1, h2, h3⟩ | ⟨h1, _⟩
    · rw [hk] at h1
      obtain rfl := Option.some.inj h1
      exact ⟨h2, h3⟩
    · rw [hk] at h1; cases h1
  have IX := Lib.hid (fun (w' : World) (h : Below w.heap.size w w') => hi ▸ spSay_any ws _ w' (hv.ext h))
  have hid : decide ((0 : Int) < (k : Int)) = true := by rw [decide_eq_true_eq]; omega
  clear hi hk
  have SA := Lib.hid (fun (w' : World) (h : Below w.heap.size w w') => show SlB w' w'.heap.size (.slice (some ⟨b, o + 1, none⟩) (k - 1) (c - 1)) ((ws.take k).drop 1) by
    have h1 := slb_from (m := 1) ((hv.ext h).take (show k ≤ ws.length by omega)) (by rw [List.length_take]; omega) (some ⟨b, o + 1, none⟩) (fun _ => rfl)
    rw [List.length_take, Nat.min_eq_left (by omega)] at h1
    exact h1)
  have SB := Lib.hid (show ∀ (A' : Option Addr) (n' c' : Nat), n' = ws.length - (k + 1) → c' = c - (k + 1) → (k + 1 < ws.length → A' = some ⟨b, o + (k + 1), none⟩) → ∀ w', Below w.heap.size w w' → SlB w' w'.heap.size (.slice A' n' c') (ws.drop (k + 1)) from fun A' n' c' hn hc' hA' w' h => by
    subst hn hc'
    exact slb_from (m := k + 1) (hv.ext h) (by omega) A' hA')
  have hw1 : IntKind.i64.wrap ((k : Int) + 1) = (k : Int) + 1 := by rw [IntKind.wrap_i64]; omega
  have l1 : (1 : Int) ≤ (k : Int) := by omega
  have l2 : (k : Int) ≤ (ws.length : Int) := by omega
  have l3 : (k : Int) + 1 ≤ (ws.length : Int) := by omega
  have l4 : (0 : Int) ≤ (k : Int) + 1 := by omega
  have l5 : ((k : Int) + 1).toNat = k + 1 := by omega
  have l6 : (k : Int) ≤ (c : Int) := by omega
  go_enter Tryz.func54, Tryz.ntmps54
  go_upto_region 2 with fail
  generalize hW : World.alloc (World.alloc w _) _ = W1
  have hbW : Below w.heap.size w W1 := by rw [← hW]; (repeat (first | with_reducible assumption | with_reducible exact Below.refl _ _ | with_reducible refine Below.setCell ?_ (by first | omega | (simp; done) | (simp; omega)) _ | with_reducible refine Below.alloc ?_ (by first | omega | (simp; done) | (simp; omega)) _ | with_reducible refine below_drewN ?_ _ | with_reducible refine Below.drew ?_))
  have hB2 : Blk W1 w.heap.size 26 zS := by rw [← hW]; exact (Blk.new _ _ _).alloc _
  have hB3 : Blk W1 (w.heap.size + 1) 26 zS := by rw [← hW]; exact Blk.new' (by simp)
  clear hW
  have q0 := f0 ⟨W1, hbW⟩
  have E1 := Lib.hid (ER.out ((ws.take k).drop 1) _ W1 (SA.out W1 hbW) (fun s h => by have := hs s (List.mem_of_mem_take (List.mem_of_mem_drop h)); omega))
  have E2 := Lib.hid (fun (A' : Option Addr) (n' c' : Nat) (hn : n' = ws.length - (k + 1)) (hc' : c' = c - (k + 1)) (hA' : k + 1 < ws.length → A' = some ⟨b, o + (k + 1), none⟩) (w' : World) (h : Below w.heap.size w w') => ER.out (ws.drop (k + 1)) _ w' (SB.out A' n' c' hn hc' hA' w' h) (fun s h => by have := hs s (List.mem_of_mem_drop h); omega))
  unfold RdP at E1 E2
  generalize rdX ((ws.take k).drop 1) = X at *
  generalize rdX (ws.drop (k + 1)) = Y at *
  generalize rdOk ((ws.take k).drop 1) = xok at *
  generalize rdOk (ws.drop (k + 1)) = yok at *
  clear SA SB ER
  have hzW := hB3.lt
  go_wp2_with fail
  refine (IX.out _ hbW).mono ?_
  rintro r _ ⟨rfl, rfl⟩
  go_wp2_with fail
  refine (IX.out _ hbW).mono ?_
  rintro r _ ⟨rfl, rfl⟩
  go_wp2_with fail
  refine E1.out.mono ?_
  rintro r w2 ⟨v2, rfl, hT, hb2⟩
  obtain ⟨A2, c2, rfl, hc2, hm2, hs2⟩ := hT.form
  have hF2 := hB2.below hb2 hB2.lt
  have hbw2 := hbW.ext hb2
  have hz2 := hb2.size
  go_upto_region 13 with fail
  generalize hWE : World.alloc _ _ = WE
  have hbE : Below w2.heap.size w2 WE := by rw [← hWE]; (repeat (first | with_reducible assumption | with_reducible exact Below.refl _ _ | with_reducible refine Below.setCell ?_ (by first | omega | (simp; done) | (simp; omega)) _ | with_reducible refine Below.alloc ?_ (by first | omega | (simp; done) | (simp; omega)) _ | with_reducible refine below_drewN ?_ _ | with_reducible refine Below.drew ?_))
  have hB5 : Blk WE w2.heap.size 24 #[.int .i64 X.kind, .int .i64 X.n, .string (bs X.s), .slice A2 X.kids.length c2] := by rw [← hWE]; exact Blk.new _ _ _
  clear hWE
  have hG2 := hF2.below hbE hF2.lt
  have hbwE := hbw2.ext hbE
  have hTE := hT.ext hbE
  have hzE := hB5.lt
  clear hB2 hB3 hF2 hT hbw2 E1 q0 IX
  by_cases hck : c = k + 1
  all_goals
    go_wp2_with fail
    first
      | (have hx1 : c = k + 1 := hck; refine (E2.out (some ⟨b, o, none⟩) (ws.length - (k + 1)) 0 rfl (by omega) (by intro h; omega) _ hbwE).mono ?_; clear hx1)
      | refine (E2.out (some ⟨b, o + (k + 1), none⟩) (ws.length - (k + 1)) (c - (k + 1)) rfl rfl (fun _ => rfl) _ hbwE).mono ?_
    rintro r w4 ⟨v4, rfl, hU, hb4⟩
    obtain ⟨A4, c4, rfl, hc4, hm4, hs4⟩ := hU.form
    have hz4 := hb4.size
    have hb5 := hB5.below hb4 hB5.lt
    have hH2 := hG2.below hb4 hG2.lt
    have hbw4 := hbwE.ext hb4
    go_upto_region 14 with fail
    generalize hWG : World.alloc _ _ = WG
    have hbG : Below w4.heap.size w4 WG := by rw [← hWG]; (repeat (first | with_reducible assumption | with_reducible exact Below.refl _ _ | with_reducible refine Below.setCell ?_ (by first | omega | (simp; done) | (simp; omega)) _ | with_reducible refine Below.alloc ?_ (by first | omega | (simp; done) | (simp; omega)) _ | with_reducible refine below_drewN ?_ _ | with_reducible refine Below.drew ?_))
    have hB6 : Blk WG w4.heap.size 24 #[.int .i64 Y.kind, .int .i64 Y.n, .string (bs Y.s), .slice A4 Y.kids.length c4] := by rw [← hWG]; exact Blk.new _ _ _
    clear hWG
    have hB5' := hb5.below hbG hb5.lt
    have hG2' := hH2.below hbG hH2.lt
    have hbwG := hbw4.ext hbG
    have hzG := hbG.size
    have p0 := hB5'.cell 0; have p1 := hB5'.cell 1; have p2 := hB5'.cell 2; have p3 := hB5'.cell 3
    simp at p0 p1 p2 p3
    have r0 := hB6.cell 0; have r1 := hB6.cell 1; have r2 := hB6.cell 2; have r3 := hB6.cell 3
    simp at r0 r1 r2 r3
    have z0 := (hG2').frozen 0; have z1 := (hG2').frozen 1; have z2 := (hG2').frozen 2; have z3 := (hG2').frozen 3; have z4 := (hG2').frozen 4; have z5 := (hG2').frozen 5; have z6 := (hG2').frozen 6; have z7 := (hG2').frozen 7; have z8 := (hG2').frozen 8; have z9 := (hG2').frozen 9; have z10 := (hG2').frozen 10
    have b0 := (hG2').cell 0; have b1 := (hG2').cell 1; have b2 := (hG2').cell 2; have b3 := (hG2').cell 3; have b4 := (hG2').cell 4; have b5 := (hG2').cell 5; have b6 := (hG2').cell 6; have b7 := (hG2').cell 7; have b8 := (hG2').cell 8; have b9 := (hG2').cell 9; have b10 := (hG2').cell 10
    simp [zS] at b0 b1 b2 b3 b4 b5 b6 b7 b8 b9 b10
    have HX := Lib.hid (And.intro ((hTE.ext hb4).ext hbG) (And.intro (hU.ext hbG) hbwG))
    clear hB5 hb5 hB5' hB6 hG2 hH2 hG2' hTE hU hbw4 hbwG E2
    have hne5 : w.heap.size ≠ w2.heap.size := by omega
    have hne6 : w.heap.size ≠ w4.heap.size := by omega
    cases xok
    · go_wp2_with fail
      refine bodyPost_ret (v := .tuple #[.agg (cS 3 [] [] X.kind X.n X.s (.slice A2 X.kids.length c2) Y.kind Y.n Y.s (.slice A4 Y.kids.length c4)), .bool (false && yok)]) (by simp [results, Tryz.results54, go_sem, cS, bs_nil, *]) rfl ?_
      generalize hWF : World.setCell _ _ _ = WF
      have hK : ∀ b, w.heap.size + 1 ≤ b → WF.heap[b]? = WG.heap[b]? := by
        intro b h1
        rw [← hWF]
        (repeat (first | with_reducible rfl | with_reducible refine (Below.heap_setCell _ _ _ _ (by first | (simp; done) | (simp; omega))).trans ?_ | with_reducible refine (heap_drw _ _).trans ?_))
      have hzF : WF.heap.size = WG.heap.size := by rw [← hWF]; simp
      have hbF : Below w.heap.size w WF := by have hbx := HX.out.2.2; rw [← hWF]; (repeat (first | with_reducible assumption | with_reducible exact Below.refl _ _ | with_reducible refine Below.setCell ?_ (by first | omega | (simp; done) | (simp; omega)) _ | with_reducible refine Below.alloc ?_ (by first | omega | (simp; done) | (simp; omega)) _ | with_reducible refine below_drewN ?_ _ | with_reducible refine Below.drew ?_ | with_reducible refine Below.trans ?_ (Below.mono hbx (by first | omega | (simp; done) | (simp; omega)))))
      exact ⟨_, ⟨3, [], [], X, Y⟩, _, rfl, ⟨A2, A4, c2, c4, WE.heap.size, rfl, by simp, by simp, (HX.out.1.same (fun b h1 h2 => hK b (by omega))).widen (by omega) (by omega), (HX.out.2.1.same (fun b h1 h2 => hK b (by omega))).widen (Nat.le_refl _) (by omega), by omega, by omega⟩, HR.out, hbF⟩
    · go_wp2_with fail
      refine bodyPost_ret (v := .tuple #[.agg (cS 3 [] [] X.kind X.n X.s (.slice A2 X.kids.length c2) Y.kind Y.n Y.s (.slice A4 Y.kids.length c4)), .bool (true && yok)]) (by simp [results, Tryz.results54, go_sem, cS, bs_nil, *]) rfl ?_
      generalize hWF : World.setCell _ _ _ = WF
      have hK : ∀ b, w.heap.size + 1 ≤ b → WF.heap[b]? = WG.heap[b]? := by
        intro b h1
        rw [← hWF]
        (repeat (first | with_reducible rfl | with_reducible refine (Below.heap_setCell _ _ _ _ (by first | (simp; done) | (simp; omega))).trans ?_ | with_reducible refine (heap_drw _ _).trans ?_))
      have hzF : WF.heap.size = WG.heap.size := by rw [← hWF]; simp
      have hbF : Below w.heap.size w WF := by have hbx := HX.out.2.2; rw [← hWF]; (repeat (first | with_reducible assumption | with_reducible exact Below.refl _ _ | with_reducible refine Below.setCell ?_ (by first | omega | (simp; done) | (simp; omega)) _ | with_reducible refine Below.alloc ?_ (by first | omega | (simp; done) | (simp; omega)) _ | with_reducible refine below_drewN ?_ _ | with_reducible refine Below.drew ?_ | with_reducible refine Below.trans ?_ (Below.mono hbx (by first | omega | (simp; done) | (simp; omega)))))
      exact ⟨_, ⟨3, [], [], X, Y⟩, _, rfl, ⟨A2, A4, c2, c4, WE.heap.size, rfl, by simp, by simp, (HX.out.1.same (fun b h1 h2 => hK b (by omega))).widen (by omega) (by omega), (HX.out.2.1.same (fun b h1 h2 => hK b (by omega))).widen (Nat.le_refl _) (by omega), by omega, by omega⟩, HR.out, hbF⟩
theorem spRead_any (ws : List Bytes) (v : Value) (w : World) (hv : SlB w w.heap.size v ws) (hs : ∀ s ∈ ws, s.length ≤ 120) (hl : ws.length ≤ 120) : Calls Tryz.prog 54 #[v] w (RrP ws w) := by
  by_cases h0 : ws = []
  · subst h0
    exact spReadNil_any v w hv
  have hp : 0 < ws.length := List.length_pos_iff.2 h0
  have hg : ws[0]? = some ws[0] := List.getElem?_eq_getElem hp
  generalize ws[0] = x at hg
  by_cases hA : 5 < ws.length ∧ ws[0]? = some cLet ∧ ws[2]? = some [58] ∧ ws[4]? = some [61]
  · exact spReadLet_any ws v w hv hs hA.1 hA.2.1 hA.2.2.1 hA.2.2.2
  by_cases hS : x = cSay
  · subst hS
    exact spReadSay_any ws v w hv hs hg
  by_cases hW : x = cWhen ∧ ∃ k, 0 < k ∧ sayAt ws = some k
  · obtain ⟨rfl, k, h1, h2⟩ := hW
    exact spReadW_any ws v w hv hs hl hg k h2 h1
  · exact spReadNo_any ws v w hv hg hA hS (fun e k h1 h2 => hW ⟨e, k, h1, h2⟩)
end Go.Proofs.YtgakjhaepdigpaaGreatDoor
