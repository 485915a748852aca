
/- The program's reader of a line. -/
import Derived.Test.YtgakjhaepdigpaaGreatDoorRsK
import Derived.Test.YtgakjhaepdigpaaGreatDoorImSs
namespace Go.Proofs.YtgakjhaepdigpaaGreatDoor
set_option maxRecDepth 100000
set_option linter.unusedSimpArgs false
set_option linter.unusedVariables false
open Go.RowKit
attribute [local go_sem] bs_toList bs_get bs_size cS

/-- what a line is read as -/
def RsA (line : Bytes) (w : World) (e : Ending) (w' : World) : Prop := ∃ v : Value, e = .returned (.tuple #[v, .bool (rdSOk line)]) ∧ SmT w.heap.size w'.heap.size w' v (rdSm line) ∧ Below w.heap.size w w'
theorem RsA.no {line : Bytes} {w w' : World} (h : rdSOk line = false ∧ rdSm line = SE.none.sm) (hb : Below w.heap.size w w') : RsA line w (.returned (.tuple #[.agg zS, .bool false])) w' :=
  ⟨_, by rw [h.1], by rw [h.2]; exact (SmT.zero w.heap.size w').widen (Nat.le_refl _) hb.size, hb⟩
set_option maxHeartbeats 4000000 in
theorem imStmtRead_any (line : Bytes) (w : World) (hs : line.length ≤ 100000000) (hE : EnvA w) : Calls Tryz.prog 13 #[.string (bs line)] w (RsA line w) := by
  have WO := Lib.hid (fun (w' : World) (h : Below w.heap.size w w') => imWordsOf_any line w' hs (hE.ext h))
  have RS := Lib.hid (fun (ws : List Bytes) (v : Value) (w' : World) (h : Below w.heap.size w w') (hv : SlB w' w'.heap.size v ws) (h1 : ∀ s ∈ ws, s.length ≤ 120) (h2 : ws.length ≤ 120) => imReadStmt_any ws v w' hv h1 h2 (hE.ext h))
  have OK := Lib.hid (fun (s : Sm) (v : Value) (w' : World) (h : Below w.heap.size w w') (hv : SmV w' w'.heap.size v s) => imStmtOk_any s v w' hv (hE.ext h).env)
  have TX := Lib.hid (fun (s : Sm) (v : Value) (w' : World) (h : Below w.heap.size w w') (hv : SmV w' w'.heap.size v s) => imStmtText_any s v w' hv (hE.ext h).env)
  clear hE
  go_enter Tryz.func13, Tryz.ntmps13
  go_upto_region 1 with fail
  generalize hW : World.alloc w _ = W1
  have hbW : Below w.heap.size w W1 := by rw [← hW]; (repeat (first | with_reducible assumption | with_reducible exact Below.refl _ _ | with_reducible refine Below.setCell ?_ (by first | omega | (simp; done) | (simp; omega)) _ | with_reducible refine Below.alloc ?_ (by first | omega | (simp; done) | (simp; omega)) _ | with_reducible refine below_drewN ?_ _ | with_reducible refine Below.drew ?_))
  have hB2 : Blk W1 w.heap.size 26 zS := by rw [← hW]; exact Blk.new _ _ _
  clear hW
  go_wp2_with fail
  refine (WO.out _ hbW).mono ?_
  rintro r w2 ⟨u, ws, ok, rfl, hS, h1, h2, hor, hb2⟩
  have hbw2 := hbW.ext hb2
  have HO := Lib.hid hor
  obtain ⟨A, c, rfl, _, _⟩ := id hS.val
  have R1 := Lib.hid (RS.out ws _ w2 hbw2 hS h1 h2)
  clear RS WO hS h1 h2 hor
  go_wp2_with fail
  refine R1.out.mono ?_
  rintro r w3 ⟨v, s, rfl, hT, hRd, hb3⟩
  have hV := hT.smv
  obtain ⟨A1, A2, c1, c2, mid, rfl, hrest⟩ := id hT
  clear hrest
  have hzW1 := hB2.lt
  have hB2' := (hB2.below hb2 hB2.lt).below hb3 (by have := hB2.lt; have := hb2.size; omega)
  have hbw3 := hbw2.ext hb3
  clear hB2
  go_upto_region 3 with fail
  generalize hWB : World.alloc _ _ = wB
  have hB6 : Blk wB w3.heap.size 26 (cS s.kind s.name s.typ s.ex.kind s.ex.n s.ex.s (.slice A1 s.ex.kids.length c1) s.th.kind s.th.n s.th.s (.slice A2 s.th.kids.length c2)) := by rw [← hWB]; exact Blk.new _ _ _
  have hbB : Below w3.heap.size w3 wB := by rw [← hWB]; (repeat (first | with_reducible assumption | with_reducible exact Below.refl _ _ | with_reducible refine Below.setCell ?_ (by first | omega | (simp; done) | (simp; omega)) _ | with_reducible refine Below.alloc ?_ (by first | omega | (simp; done) | (simp; omega)) _ | with_reducible refine below_drewN ?_ _ | with_reducible refine Below.drew ?_))
  clear hWB
  have hbwB := hbw3.ext hbB
  have hF2 := hB2'.below hbB hB2'.lt
  have O1 := Lib.hid (OK.out s _ wB hbwB (hV.ext hbB))
  have T1 := Lib.hid (fun (w' : World) (h : Below wB.heap.size wB w') => TX.out s _ w' (hbwB.ext h) ((hV.ext hbB).ext h))
  have HT := Lib.hid (And.intro hT (And.intro hRd (And.intro hb3 hbB)))
  unfold cS at O1 T1
  clear hV hT hRd OK TX hb3 hB2'
  cases ok
  · have HN := Lib.hid (show rdSOk line = false ∧ rdSm line = SE.none.sm from rdL_none (by rcases HO.out with ⟨h, _⟩ | ⟨_, h⟩; cases h; exact h))
    have z0 := (hF2).frozen 0; have z1 := (hF2).frozen 1; have z2 := (hF2).frozen 2; have z3 := (hF2).frozen 3; have z4 := (hF2).frozen 4; have z5 := (hF2).frozen 5; have z6 := (hF2).frozen 6; have z7 := (hF2).frozen 7; have z8 := (hF2).frozen 8; have z9 := (hF2).frozen 9; have z10 := (hF2).frozen 10
    have b0 := (hF2).cell 0; have b1 := (hF2).cell 1; have b2 := (hF2).cell 2; have b3 := (hF2).cell 3; have b4 := (hF2).cell 4; have b5 := (hF2).cell 5; have b6 := (hF2).cell 6; have b7 := (hF2).cell 7; have b8 := (hF2).cell 8; have b9 := (hF2).cell 9; have b10 := (hF2).cell 10
    simp [zS] at b0 b1 b2 b3 b4 b5 b6 b7 b8 b9 b10
    clear HO O1 T1 hB6 hF2
    go_wp2_with fail
    refine bodyPost_ret (v := .tuple #[.agg zS, .bool false]) (by simp [results, Tryz.results13, go_sem, zS, bs_nil, *]) rfl ?_
    exact RsA.no HN.out (by (repeat (first | with_reducible assumption | with_reducible exact Below.refl _ _ | with_reducible refine Below.setCell ?_ (by first | omega | (simp; done) | (simp; omega)) _ | with_reducible refine Below.alloc ?_ (by first | omega | (simp; done) | (simp; omega)) _ | with_reducible refine below_drewN ?_ _ | with_reducible refine Below.drew ?_ | with_reducible refine Below.trans ?_ (Below.mono hbwB (by first | omega | (simp; done) | (simp; omega))))))
  · have hlw : lineW line = some ws := by rcases HO.out with ⟨_, h⟩ | ⟨h, _⟩; exact h; cases h
    have ANS := Lib.hid (rdL_ans hlw HT.out.2.1)
    have y0 := (hB6).frozen 0; have y1 := (hB6).frozen 1; have y2 := (hB6).frozen 2; have y3 := (hB6).frozen 3; have y4 := (hB6).frozen 4; have y5 := (hB6).frozen 5; have y6 := (hB6).frozen 6; have y7 := (hB6).frozen 7; have y8 := (hB6).frozen 8; have y9 := (hB6).frozen 9; have y10 := (hB6).frozen 10
    have d0 := (hB6).cell 0; have d1 := (hB6).cell 1; have d2 := (hB6).cell 2; have d3 := (hB6).cell 3; have d4 := (hB6).cell 4; have d5 := (hB6).cell 5; have d6 := (hB6).cell 6; have d7 := (hB6).cell 7; have d8 := (hB6).cell 8; have d9 := (hB6).cell 9; have d10 := (hB6).cell 10
    simp [cS] at d0 d1 d2 d3 d4 d5 d6 d7 d8 d9 d10
    cases hk : smOkB s
    · have HN := Lib.hid (show rdSOk line = false ∧ rdSm line = SE.none.sm by
        have h1 : rdSOk line = false := by rw [ANS.out.1, hk]; simp
        exact ⟨h1, ANS.out.2.2 h1⟩)
      rw [hk] at O1
      clear T1
      go_wp2_with fail
      refine O1.out.mono ?_
      rintro r w4 ⟨rfl, hb4⟩
      have hG2 := hF2.below hb4 hF2.lt
      have hbw4 := hbwB.ext hb4
      have z0 := (hG2).frozen 0; have z1 := (hG2).frozen 1; have z2 := (hG2).frozen 2; have z3 := (hG2).frozen 3; have z4 := (hG2).frozen 4; have z5 := (hG2).frozen 5; have z6 := (hG2).frozen 6; have z7 := (hG2).frozen 7; have z8 := (hG2).frozen 8; have z9 := (hG2).frozen 9; have z10 := (hG2).frozen 10
      have b0 := (hG2).cell 0; have b1 := (hG2).cell 1; have b2 := (hG2).cell 2; have b3 := (hG2).cell 3; have b4 := (hG2).cell 4; have b5 := (hG2).cell 5; have b6 := (hG2).cell 6; have b7 := (hG2).cell 7; have b8 := (hG2).cell 8; have b9 := (hG2).cell 9; have b10 := (hG2).cell 10
      simp [zS] at b0 b1 b2 b3 b4 b5 b6 b7 b8 b9 b10
      clear hB6 hF2 hG2 d0 d1 d2 d3 d4 d5 d6 d7 d8 d9 d10
      go_wp2_with fail
      refine bodyPost_ret (v := .tuple #[.agg zS, .bool false]) (by simp [results, Tryz.results13, go_sem, zS, bs_nil, *]) rfl ?_
      exact RsA.no HN.out (by (repeat (first | with_reducible assumption | with_reducible exact Below.refl _ _ | with_reducible refine Below.setCell ?_ (by first | omega | (simp; done) | (simp; omega)) _ | with_reducible refine Below.alloc ?_ (by first | omega | (simp; done) | (simp; omega)) _ | with_reducible refine below_drewN ?_ _ | with_reducible refine Below.drew ?_ | with_reducible refine Below.trans ?_ (Below.mono hbw4 (by first | omega | (simp; done) | (simp; omega))))))
    · rw [hk] at O1
      have T2 := Lib.hid (fun (w' : World) (h : Below wB.heap.size wB w') => (T1.out w' h).mono (R' := fun r w'' => r = .returned (.string (bs (smText s))) ∧ Below w'.heap.size w' w'') fun e w'' ⟨h1, h2⟩ => ⟨by rw [h1, if_pos hk], h2⟩)
      have AN := Lib.hid (show (smText s = line → rdSOk line = true ∧ rdSm line = s) ∧ (smText s ≠ line → rdSOk line = false ∧ rdSm line = SE.none.sm) from
        ⟨fun h => by
          have h1 : rdSOk line = true := by simp [ANS.out.1, hk, h]
          exact ⟨h1, ANS.out.2.1 h1⟩, fun h => by
          have h1 : rdSOk line = false := by simp [ANS.out.1, hk, h]
          exact ⟨h1, ANS.out.2.2 h1⟩⟩)
      clear ANS T1 HO hlw
      generalize smText s = tx at *
      go_wp2_with fail
      refine O1.out.mono ?_
      rintro r w4 ⟨rfl, hb4⟩
      have hG2 := hF2.below hb4 hF2.lt
      have hG6 := hB6.below hb4 hB6.lt
      have hbw4 := hbwB.ext hb4
      clear d0 d1 d2 d3 d4 d5 d6 d7 d8 d9 d10 y0 y1 y2 y3 y4 y5 y6 y7 y8 y9 y10 hB6 hF2
      have y0 := (hG6).frozen 0; have y1 := (hG6).frozen 1; have y2 := (hG6).frozen 2; have y3 := (hG6).frozen 3; have y4 := (hG6).frozen 4; have y5 := (hG6).frozen 5; have y6 := (hG6).frozen 6; have y7 := (hG6).frozen 7; have y8 := (hG6).frozen 8; have y9 := (hG6).frozen 9; have y10 := (hG6).frozen 10
      have d0 := (hG6).cell 0; have d1 := (hG6).cell 1; have d2 := (hG6).cell 2; have d3 := (hG6).cell 3; have d4 := (hG6).cell 4; have d5 := (hG6).cell 5; have d6 := (hG6).cell 6; have d7 := (hG6).cell 7; have d8 := (hG6).cell 8; have d9 := (hG6).cell 9; have d10 := (hG6).cell 10
      simp [cS] at d0 d1 d2 d3 d4 d5 d6 d7 d8 d9 d10
      go_wp2_with fail
      refine (T2.out _ hb4).mono ?_
      rintro r w5 ⟨rfl, hb5⟩
      have hH2 := hG2.below hb5 hG2.lt
      have hH6 := hG6.below hb5 hG6.lt
      have hbw5 := hbw4.ext hb5
      have hb35 := HT.out.2.2.2.ext (hb4.ext hb5)
      clear d0 d1 d2 d3 d4 d5 d6 d7 d8 d9 d10 y0 y1 y2 y3 y4 y5 y6 y7 y8 y9 y10 hG6 hG2
      have y0 := (hH6).frozen 0; have y1 := (hH6).frozen 1; have y2 := (hH6).frozen 2; have y3 := (hH6).frozen 3; have y4 := (hH6).frozen 4; have y5 := (hH6).frozen 5; have y6 := (hH6).frozen 6; have y7 := (hH6).frozen 7; have y8 := (hH6).frozen 8; have y9 := (hH6).frozen 9; have y10 := (hH6).frozen 10
      have d0 := (hH6).cell 0; have d1 := (hH6).cell 1; have d2 := (hH6).cell 2; have d3 := (hH6).cell 3; have d4 := (hH6).cell 4; have d5 := (hH6).cell 5; have d6 := (hH6).cell 6; have d7 := (hH6).cell 7; have d8 := (hH6).cell 8; have d9 := (hH6).cell 9; have d10 := (hH6).cell 10
      simp [cS] at d0 d1 d2 d3 d4 d5 d6 d7 d8 d9 d10
      have z0 := (hH2).frozen 0; have z1 := (hH2).frozen 1; have z2 := (hH2).frozen 2; have z3 := (hH2).frozen 3; have z4 := (hH2).frozen 4; have z5 := (hH2).frozen 5; have z6 := (hH2).frozen 6; have z7 := (hH2).frozen 7; have z8 := (hH2).frozen 8; have z9 := (hH2).frozen 9; have z10 := (hH2).frozen 10
      have b0 := (hH2).cell 0; have b1 := (hH2).cell 1; have b2 := (hH2).cell 2; have b3 := (hH2).cell 3; have b4 := (hH2).cell 4; have b5 := (hH2).cell 5; have b6 := (hH2).cell 6; have b7 := (hH2).cell 7; have b8 := (hH2).cell 8; have b9 := (hH2).cell 9; have b10 := (hH2).cell 10
      simp [zS] at b0 b1 b2 b3 b4 b5 b6 b7 b8 b9 b10
      have hlt2 := hH2.lt
      clear hH6 hH2
      by_cases he : tx = line
      · have hne : (tx == line) = true := by simp [he]
        have hAN := Lib.hid (AN.out.1 he)
        clear AN he
        go_wp2_with fail
        refine bodyPost_ret (v := .tuple #[.agg (cS s.kind s.name s.typ s.ex.kind s.ex.n s.ex.s (.slice A1 s.ex.kids.length c1) s.th.kind s.th.n s.th.s (.slice A2 s.th.kids.length c2)), .bool true]) (by simp [results, Tryz.results13, go_sem, cS, bs_nil, *]) rfl ?_
        generalize hWF : World.setCell _ _ _ = WF
        have hK : ∀ b, w.heap.size + 1 ≤ b → WF.heap[b]? = w5.heap[b]? := by
          intro b h1
          rw [← hWF]
          (repeat (first | with_reducible rfl | with_reducible refine (Below.heap_setCell _ _ _ _ (by first | (simp; done) | (simp; omega))).trans ?_))
        have hzF : WF.heap.size = w5.heap.size := by rw [← hWF]; simp
        have hbF : Below w.heap.size w WF := by rw [← hWF]; (repeat (first | with_reducible assumption | with_reducible exact Below.refl _ _ | with_reducible refine Below.setCell ?_ (by first | omega | (simp; done) | (simp; omega)) _ | with_reducible refine Below.alloc ?_ (by first | omega | (simp; done) | (simp; omega)) _ | with_reducible refine below_drewN ?_ _ | with_reducible refine Below.drew ?_ | with_reducible refine Below.trans ?_ (Below.mono hbw5 (by first | omega | (simp; done) | (simp; omega)))))
        have hz1 := hb35.size
        have hz0 := hb2.size
        have hzW := hbw2.size
        exact ⟨_, by rw [hAN.out.1], by rw [hAN.out.2]; exact ((HT.out.1.ext hb35).same (fun b h1 h2 => hK b (by omega))).widen (by omega) (by omega), hbF⟩
      · have hne : (tx == line) = false := by simp [he]
        have hAN := Lib.hid (AN.out.2 he)
        clear AN he d0 d1 d2 d3 d4 d5 d6 d7 d8 d9 d10 y0 y1 y2 y3 y4 y5 y6 y7 y8 y9 y10
        go_wp2_with fail
        refine bodyPost_ret (v := .tuple #[.agg zS, .bool false]) (by simp [results, Tryz.results13, go_sem, zS, bs_nil, *]) rfl ?_
        exact RsA.no hAN.out (by (repeat (first | with_reducible assumption | with_reducible exact Below.refl _ _ | with_reducible refine Below.setCell ?_ (by first | omega | (simp; done) | (simp; omega)) _ | with_reducible refine Below.alloc ?_ (by first | omega | (simp; done) | (simp; omega)) _ | with_reducible refine below_drewN ?_ _ | with_reducible refine Below.drew ?_ | with_reducible refine Below.trans ?_ (Below.mono hbw5 (by first | omega | (simp; done) | (simp; omega))))))
end Go.Proofs.YtgakjhaepdigpaaGreatDoor
