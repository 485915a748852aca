
/- The law's reader of a line's words: none, let, say. -/
import Derived.Test.YtgakjhaepdigpaaGreatDoorRsJ
import Derived.Test.YtgakjhaepdigpaaGreatDoorRdR
namespace Go.Proofs.YtgakjhaepdigpaaGreatDoor
set_option maxRecDepth 100000
set_option linter.unusedSimpArgs false
set_option linter.unusedVariables false
open Go.RowKit
attribute [local go_sem] bs_toList bs_get bs_size

theorem spSay_any (l : List Bytes) (v : Value) (w : World) (hv : SlB w w.heap.size v l) : Calls Tryz.prog 115 #[v] w fun e w' => e = .returned (.int .i64 (idxL cSay l)) ∧ w = w' := by
  obtain ⟨A, c, rfl, hc, hm⟩ := hv.val
  go_enter Tryz.func115, Tryz.ntmps115
  go_wp2_with fail
  go_loopg [3] l.length (fun k i wr => ∃ j : Nat, k = l.length - j ∧ j ≤ l.length ∧ i = .int .i64 j ∧ (∀ t x, t < j → l[t]? = some x → x ≠ cSay) ∧ wr = w)
  case atStart => exact ⟨0, by omega, by omega, rfl, fun t c h => by omega, rfl⟩
  case round =>
    obtain ⟨j, hk, hj, rfl, ha, rfl⟩ := hrel
    have HK := Lib.hid (And.intro hk ha)
    clear hk ha
    by_cases hlt : j < l.length
    · obtain ⟨b, o, x, rfl, hb, hg, f0⟩ := str_at hv hlt
      have g0 := f0 ⟨wr, Below.refl _ _⟩
      have HG := Lib.hid hg
      clear f0 hg
      by_cases he : x = cSay
      · have hd : (x == [115, 97, 121]) = true := by rw [beq_iff_eq]; exact he
        have HE := Lib.hid he
        clear he
        go_wp2_with fail
        go_ret
        exact ⟨ret_int (by rw [idxL_some HK.out.2 (by rw [← HE.out]; exact HG.out)]), rfl⟩
      · have hd : (x == [115, 97, 121]) = false := by rw [beq_eq_false_iff_ne]; exact he
        have HE := Lib.hid he
        clear he
        go_wp2_with fail
        go_roundg (l.length - (j + 1))
        case measure => have := HK.out.1; omega
        case rel => exact ⟨j + 1, rfl, by omega, by go_num, fun t x' ht hx => by
            by_cases e : t = j
            · subst e
              rw [HG.out] at hx
              obtain rfl := Option.some.inj hx
              exact HE.out
            · exact HK.out.2 t x' (by omega) hx, rfl⟩
    · go_wp2_with fail
      go_ret
      exact ⟨ret_int (by rw [idxL_none (fun t x ht => HK.out.2 t x (by omega))]), rfl⟩
/-- what the law's reader of words gives -/
def RrP (ws : List Bytes) (w : World) (e : Ending) (w' : World) : Prop := ∃ (v : Value) (s : Sm) (b : Bool), e = .returned (.tuple #[v, .bool b]) ∧ SmT w.heap.size w'.heap.size w' v s ∧ RdL ws s b ∧ Below w.heap.size w w'
theorem heap_drw (w : World) (b : Nat) : w.drew.heap[b]? = w.heap[b]? := rfl
set_option maxHeartbeats 2000000 in
theorem spReadNil_any (v : Value) (w : World) (hv : SlB w w.heap.size v []) : Calls Tryz.prog 54 #[v] w (RrP [] w) := by
  obtain ⟨A, c, rfl, hc, hm⟩ := id hv.val
  go_enter Tryz.func54, Tryz.ntmps54
  go_upto_region 2 with fail
  generalize hW : World.alloc (World.alloc w _) _ = W1
  have hbW : Below w.heap.size w W1 := by rw [← hW]; (repeat (first | with_reducible assumption | with_reducible exact Below.refl _ _ | with_reducible refine Below.setCell ?_ (by first | omega | (simp; done) | (simp; omega)) _ | with_reducible refine Below.alloc ?_ (by first | omega | (simp; done) | (simp; omega)) _ | with_reducible refine below_drewN ?_ _ | with_reducible refine Below.drew ?_))
  have hB2 : Blk W1 w.heap.size 26 zS := by rw [← hW]; exact (Blk.new _ _ _).alloc _
  have hB3 : Blk W1 (w.heap.size + 1) 26 zS := by rw [← hW]; exact Blk.new' (by simp)
  clear hW
  have z0 := (hB2).frozen 0; have z1 := (hB2).frozen 1; have z2 := (hB2).frozen 2; have z3 := (hB2).frozen 3; have z4 := (hB2).frozen 4; have z5 := (hB2).frozen 5; have z6 := (hB2).frozen 6; have z7 := (hB2).frozen 7; have z8 := (hB2).frozen 8; have z9 := (hB2).frozen 9; have z10 := (hB2).frozen 10
  have b0 := (hB2).cell 0; have b1 := (hB2).cell 1; have b2 := (hB2).cell 2; have b3 := (hB2).cell 3; have b4 := (hB2).cell 4; have b5 := (hB2).cell 5; have b6 := (hB2).cell 6; have b7 := (hB2).cell 7; have b8 := (hB2).cell 8; have b9 := (hB2).cell 9; have b10 := (hB2).cell 10
  simp [zS] at b0 b1 b2 b3 b4 b5 b6 b7 b8 b9 b10
  have y0 := (hB3).frozen 0; have y1 := (hB3).frozen 1; have y2 := (hB3).frozen 2; have y3 := (hB3).frozen 3; have y4 := (hB3).frozen 4; have y5 := (hB3).frozen 5; have y6 := (hB3).frozen 6; have y7 := (hB3).frozen 7; have y8 := (hB3).frozen 8; have y9 := (hB3).frozen 9; have y10 := (hB3).frozen 10
  have d0 := (hB3).cell 0; have d1 := (hB3).cell 1; have d2 := (hB3).cell 2; have d3 := (hB3).cell 3; have d4 := (hB3).cell 4; have d5 := (hB3).cell 5; have d6 := (hB3).cell 6; have d7 := (hB3).cell 7; have d8 := (hB3).cell 8; have d9 := (hB3).cell 9; have d10 := (hB3).cell 10
  simp [zS] at d0 d1 d2 d3 d4 d5 d6 d7 d8 d9 d10
  have hz := hbW.size
  go_wp2_with fail
  refine bodyPost_ret (v := .tuple #[.agg zS, .bool true]) (by simp [results, Tryz.results54, go_sem, zS, bs_nil, *]) rfl ?_
  exact ⟨_, SE.none.sm, true, rfl, (SmT.zero w.heap.size _).widen (Nat.le_refl _) (by simp; omega), RdL.nil, by (repeat (first | with_reducible assumption | with_reducible exact Below.refl _ _ | with_reducible refine Below.setCell ?_ (by first | omega | (simp; done) | (simp; omega)) _ | with_reducible refine Below.alloc ?_ (by first | omega | (simp; done) | (simp; omega)) _ | with_reducible refine below_drewN ?_ _ | with_reducible refine Below.drew ?_ | with_reducible refine Below.trans ?_ (Below.mono hbW (by first | omega | (simp; done) | (simp; omega)))))⟩
set_option maxHeartbeats 4000000 in
theorem spReadLet_any (ws : List Bytes) (v : Value) (w : World) (hv : SlB w w.heap.size v ws) (hs : ∀ s ∈ ws, s.length ≤ 120) (h5 : 5 < ws.length) (hg0 : ws[0]? = some cLet) (hg2 : ws[2]? = some [58]) (hg4 : ws[4]? = some [61]) : Calls Tryz.prog 54 #[v] w (RrP ws w) := by
  have ER := Lib.hid (fun (ls : List Bytes) (u : Value) (w' : World) (hu : SlB w' w'.heap.size u ls) (hls : ∀ s ∈ ls, s.length ≤ 100000000) => spExprRead_any ls u w' hu hls)
  have hpos0 : 0 < ws.length := by omega
  obtain ⟨A, c, rfl, hc, hm⟩ := id hv.val
  obtain ⟨b, o, x, rfl, hb, hg, f0⟩ := str_at hv (i := 0) hpos0
  rw [hg0] at hg
  obtain rfl := Option.some.inj hg
  rw [Nat.add_zero] at f0
  have hn0 : b ≠ w.heap.size := by omega
  have hn1 : b ≠ w.heap.size + 1 := by omega
  have l0 : (0 : Int) < (ws.length : Int) := by omega
  have lz : (((ws.length : Nat) : Int) == 0) = false := by rw [beq_eq_false_iff_ne]; omega
  obtain ⟨b', o', x1, e1, _, hg1, f1⟩ := str_at hv (i := 1) (by omega)
  obtain ⟨rfl, rfl⟩ : b = b' ∧ o = o' := by injection e1 with e; injection e; exact ⟨‹_›, ‹_›⟩
  obtain ⟨b', o', x3, e3, _, hg3, f3⟩ := str_at hv (i := 3) (by omega)
  obtain ⟨rfl, rfl⟩ : b = b' ∧ o = o' := by injection e3 with e; injection e; exact ⟨‹_›, ‹_›⟩
  obtain ⟨b', o', x2, e2, _, hg2', f2⟩ := str_at hv (i := 2) (by omega)
  obtain ⟨rfl, rfl⟩ : b = b' ∧ o = o' := by injection e2 with e; injection e; exact ⟨‹_›, ‹_›⟩
  rw [hg2] at hg2'
  obtain rfl := Option.some.inj hg2'
  obtain ⟨b', o', x4, e4, _, hg4', f4⟩ := str_at hv (i := 4) (by omega)
  obtain ⟨rfl, rfl⟩ : b = b' ∧ o = o' := by injection e4 with e; injection e; exact ⟨‹_›, ‹_›⟩
  rw [hg4] at hg4'
  obtain rfl := Option.some.inj hg4'
  have hd5 : decide ((5 : Int) < (ws.length : Int)) = true := by rw [decide_eq_true_eq]; omega
  have l1 : (1 : Int) < (ws.length : Int) := by omega
  have l2 : (2 : Int) < (ws.length : Int) := by omega
  have l3 : (3 : Int) < (ws.length : Int) := by omega
  have l4 : (4 : Int) < (ws.length : Int) := by omega
  have l5 : (5 : Int) ≤ (ws.length : Int) := by omega
  have HR := Lib.hid (show RdL ws ⟨1, x1, x3, rdX (ws.drop 5), Ex.none⟩ (rdOk (ws.drop 5)) by have h := RdL.slet h5 hg0; rw [hg1, hg3] at h; exact h)
  have hx1 := hs x1 (List.mem_of_getElem? hg1)
  have hx3 := hs x3 (List.mem_of_getElem? hg3)
  go_enter Tryz.func54, Tryz.ntmps54
  go_upto_region 2 with fail
  generalize hW : World.alloc (World.alloc w _) _ = W1
  have hbW : Below w.heap.size w W1 := by rw [← hW]; (repeat (first | with_reducible assumption | with_reducible exact Below.refl _ _ | with_reducible refine Below.setCell ?_ (by first | omega | (simp; done) | (simp; omega)) _ | with_reducible refine Below.alloc ?_ (by first | omega | (simp; done) | (simp; omega)) _ | with_reducible refine below_drewN ?_ _ | with_reducible refine Below.drew ?_))
  have hB2 : Blk W1 w.heap.size 26 zS := by rw [← hW]; exact (Blk.new _ _ _).alloc _
  have hB3 : Blk W1 (w.heap.size + 1) 26 zS := by rw [← hW]; exact Blk.new' (by simp)
  clear hW
  have q0 := f0 ⟨W1, hbW⟩
  have q2 := f2 ⟨W1, hbW⟩
  have q4 := f4 ⟨W1, hbW⟩
  have E1 := Lib.hid (ER.out (ws.drop 5) _ W1 (slb_from (m := 5) (hv.ext hbW) (by omega) (some ⟨b, o + 5, none⟩) (fun _ => rfl)) (fun s h => by have := hs s (List.mem_of_mem_drop h); omega))
  unfold RdP at E1
  generalize rdX (ws.drop 5) = X at *
  generalize rdOk (ws.drop 5) = xok at *
  go_wp2_with fail
  refine E1.out.mono ?_
  rintro r w2 ⟨v2, rfl, hT, hb2⟩
  obtain ⟨A2, c2, rfl, hc2, hm2, hs2⟩ := hT.form
  have hF2 := hB2.below hb2 hB2.lt
  have hbw2 := hbW.ext hb2
  have hz2 := hb2.size
  have hzW := hB3.lt
  go_upto_region 6 with fail
  generalize hWE : World.alloc _ _ = WE
  have hbE : Below w2.heap.size w2 WE := by rw [← hWE]; (repeat (first | with_reducible assumption | with_reducible exact Below.refl _ _ | with_reducible refine Below.setCell ?_ (by first | omega | (simp; done) | (simp; omega)) _ | with_reducible refine Below.alloc ?_ (by first | omega | (simp; done) | (simp; omega)) _ | with_reducible refine below_drewN ?_ _ | with_reducible refine Below.drew ?_))
  have hB5 : Blk WE w2.heap.size 24 #[.int .i64 X.kind, .int .i64 X.n, .string (bs X.s), .slice A2 X.kids.length c2] := by rw [← hWE]; exact Blk.new _ _ _
  clear hWE
  have hG2 := hF2.below hbE hF2.lt
  have hbwE := hbw2.ext hbE
  have q1 := f1 ⟨WE, hbwE⟩
  have q3 := f3 ⟨WE, hbwE⟩
  have p0 := hB5.cell 0; have p1 := hB5.cell 1; have p2 := hB5.cell 2; have p3 := hB5.cell 3
  simp at p0 p1 p2 p3
  have z0 := (hG2).frozen 0; have z1 := (hG2).frozen 1; have z2 := (hG2).frozen 2; have z3 := (hG2).frozen 3; have z4 := (hG2).frozen 4; have z5 := (hG2).frozen 5; have z6 := (hG2).frozen 6; have z7 := (hG2).frozen 7; have z8 := (hG2).frozen 8; have z9 := (hG2).frozen 9; have z10 := (hG2).frozen 10
  have b0 := (hG2).cell 0; have b1 := (hG2).cell 1; have b2 := (hG2).cell 2; have b3 := (hG2).cell 3; have b4 := (hG2).cell 4; have b5 := (hG2).cell 5; have b6 := (hG2).cell 6; have b7 := (hG2).cell 7; have b8 := (hG2).cell 8; have b9 := (hG2).cell 9; have b10 := (hG2).cell 10
  simp [zS] at b0 b1 b2 b3 b4 b5 b6 b7 b8 b9 b10
  have HX := Lib.hid (And.intro (hT.ext hbE) hbwE)
  clear hB2 hB3 hF2 hG2 hT hbw2 E1 f0 f1 f2 f3 f4 q0 q2 q4 hB5
  have hne5 : w.heap.size ≠ w2.heap.size := by omega
  go_region
  go_wp2_with fail
  refine bodyPost_ret (v := .tuple #[.agg (cS 1 x1 x3 X.kind X.n X.s (.slice A2 X.kids.length c2) 0 0 [] (.slice none 0 0)), .bool xok]) (by simp [results, Tryz.results54, go_sem, cS, bs_nil, *]) rfl ?_
  generalize hWF : World.drew _ = WF
  have hK : ∀ b, w.heap.size + 1 ≤ b → WF.heap[b]? = WE.heap[b]? := by
    intro b h1
    rw [← hWF]
    (repeat (first | with_reducible rfl | with_reducible refine (Below.heap_setCell _ _ _ _ (by first | (simp; done) | (simp; omega))).trans ?_ | with_reducible refine (heap_drw _ _).trans ?_))
  have hzF : WF.heap.size = WE.heap.size := by rw [← hWF]; simp
  have hbF : Below w.heap.size w WF := by have hbx := HX.out.2; rw [← hWF]; (repeat (first | with_reducible assumption | with_reducible exact Below.refl _ _ | with_reducible refine Below.setCell ?_ (by first | omega | (simp; done) | (simp; omega)) _ | with_reducible refine Below.alloc ?_ (by first | omega | (simp; done) | (simp; omega)) _ | with_reducible refine below_drewN ?_ _ | with_reducible refine Below.drew ?_ | with_reducible refine Below.trans ?_ (Below.mono hbx (by first | omega | (simp; done) | (simp; omega)))))
  have hzE := hbE.size
  exact ⟨_, ⟨1, x1, x3, X, Ex.none⟩, xok, rfl, ⟨A2, none, c2, 0, w2.heap.size, rfl, Nat.le_trans hx1 (by decide), Nat.le_trans hx3 (by decide), (HX.out.1.same (fun b h1 h2 => hK b (by omega))).widen (by omega) (Nat.le_refl _), TrM.leaf _ _ _ 0 0 [] (by simp), by omega, by omega⟩, HR.out, hbF⟩
set_option maxHeartbeats 4000000 in
theorem spReadSay_any (ws : List Bytes) (v : Value) (w : World) (hv : SlB w w.heap.size v ws) (hs : ∀ s ∈ ws, s.length ≤ 120) (hg0 : ws[0]? = some cSay) : Calls Tryz.prog 54 #[v] w (RrP ws w) := by
  have ER := Lib.hid (fun (ls : List Bytes) (u : Value) (w' : World) (hu : SlB w' w'.heap.size u ls) (hls : ∀ s ∈ ls, s.length ≤ 100000000) => spExprRead_any ls u w' hu hls)
  have hpos0 : 0 < ws.length := (List.getElem?_eq_some_iff.1 hg0).1
  have HR := Lib.hid (RdL.say hg0)
  obtain ⟨A, c, rfl, hc, hm⟩ := id hv.val
  obtain ⟨b, o, x, rfl, hb, hg, f0⟩ := str_at hv (i := 0) hpos0
  rw [hg0] at hg
  obtain rfl := Option.some.inj hg
  rw [Nat.add_zero] at f0
  have hn0 : b ≠ w.heap.size := by omega
  have hn1 : b ≠ w.heap.size + 1 := by omega
  have l0 : (0 : Int) < (ws.length : Int) := by omega
  have lz : (((ws.length : Nat) : Int) == 0) = false := by rw [beq_eq_false_iff_ne]; omega
  have l1 : (1 : Int) ≤ (ws.length : Int) := by omega
  go_enter Tryz.func54, Tryz.ntmps54
  go_upto_region 2 with fail
  generalize hW : World.alloc (World.alloc w _) _ = W1
  have hbW : Below w.heap.size w W1 := by rw [← hW]; (repeat (first | with_reducible assumption | with_reducible exact Below.refl _ _ | with_reducible refine Below.setCell ?_ (by first | omega | (simp; done) | (simp; omega)) _ | with_reducible refine Below.alloc ?_ (by first | omega | (simp; done) | (simp; omega)) _ | with_reducible refine below_drewN ?_ _ | with_reducible refine Below.drew ?_))
  have hB2 : Blk W1 w.heap.size 26 zS := by rw [← hW]; exact (Blk.new _ _ _).alloc _
  have hB3 : Blk W1 (w.heap.size + 1) 26 zS := by rw [← hW]; exact Blk.new' (by simp)
  clear hW
  have q0 := f0 ⟨W1, hbW⟩
  have E1 := Lib.hid (show ∀ (A' : Option Addr) (n' c' : Nat), n' = ws.length - 1 → c' = c - 1 → (1 < ws.length → A' = some ⟨b, o + 1, none⟩) → Calls Tryz.prog 114 #[.slice A' n' c'] W1 (RdP (ws.drop 1) W1) from fun A' n' c' hn hc' hA' => by
    subst hn hc'
    exact ER.out (ws.drop 1) (.slice A' (ws.length - 1) (c - 1)) W1 (slb_from (m := 1) (hv.ext hbW) (by omega) A' hA') (fun s h => by have := hs s (List.mem_of_mem_drop h); omega))
  unfold RdP at E1
  generalize rdX (ws.drop 1) = X at *
  generalize rdOk (ws.drop 1) = xok at *
  clear ER
  by_cases hc1 : c = 1
  all_goals
    go_wp2_with fail
    first
      | (have hx1 : c = 1 := hc1; refine (E1.out (some ⟨b, o, none⟩) (ws.length - 1) 0 rfl (by omega) (by intro h; omega)).mono ?_; clear hx1)
      | refine (E1.out (some ⟨b, o + 1, none⟩) (ws.length - 1) (c - 1) rfl rfl (fun _ => rfl)).mono ?_
    rintro r w2 ⟨v2, rfl, hT, hb2⟩
    obtain ⟨A2, c2, rfl, hc2, hm2, hs2⟩ := hT.form
    have hF2 := hB2.below hb2 hB2.lt
    have hbw2 := hbW.ext hb2
    have hz2 := hb2.size
    have hzW := hB3.lt
    go_upto_region 9 with fail
    generalize hWE : World.alloc _ _ = WE
    have hbE : Below w2.heap.size w2 WE := by rw [← hWE]; (repeat (first | with_reducible assumption | with_reducible exact Below.refl _ _ | with_reducible refine Below.setCell ?_ (by first | omega | (simp; done) | (simp; omega)) _ | with_reducible refine Below.alloc ?_ (by first | omega | (simp; done) | (simp; omega)) _ | with_reducible refine below_drewN ?_ _ | with_reducible refine Below.drew ?_))
    have hB5 : Blk WE w2.heap.size 24 #[.int .i64 X.kind, .int .i64 X.n, .string (bs X.s), .slice A2 X.kids.length c2] := by rw [← hWE]; exact Blk.new _ _ _
    clear hWE
    have hG2 := hF2.below hbE hF2.lt
    have hbwE := hbw2.ext hbE
    have p0 := hB5.cell 0; have p1 := hB5.cell 1; have p2 := hB5.cell 2; have p3 := hB5.cell 3
    simp at p0 p1 p2 p3
    have z0 := (hG2).frozen 0; have z1 := (hG2).frozen 1; have z2 := (hG2).frozen 2; have z3 := (hG2).frozen 3; have z4 := (hG2).frozen 4; have z5 := (hG2).frozen 5; have z6 := (hG2).frozen 6; have z7 := (hG2).frozen 7; have z8 := (hG2).frozen 8; have z9 := (hG2).frozen 9; have z10 := (hG2).frozen 10
    have b0 := (hG2).cell 0; have b1 := (hG2).cell 1; have b2 := (hG2).cell 2; have b3 := (hG2).cell 3; have b4 := (hG2).cell 4; have b5 := (hG2).cell 5; have b6 := (hG2).cell 6; have b7 := (hG2).cell 7; have b8 := (hG2).cell 8; have b9 := (hG2).cell 9; have b10 := (hG2).cell 10
    simp [zS] at b0 b1 b2 b3 b4 b5 b6 b7 b8 b9 b10
    have HX := Lib.hid (And.intro (hT.ext hbE) hbwE)
    clear hB2 hB3 hF2 hG2 hT hbw2 E1 q0 hB5
    have hne5 : w.heap.size ≠ w2.heap.size := by omega
    go_wp2_with fail
    refine bodyPost_ret (v := .tuple #[.agg (cS 2 [] [] X.kind X.n X.s (.slice A2 X.kids.length c2) 0 0 [] (.slice none 0 0)), .bool xok]) (by simp [results, Tryz.results54, go_sem, cS, bs_nil, *]) rfl ?_
    generalize hWF : World.setCell _ _ _ = WF
    have hK : ∀ b, w.heap.size + 1 ≤ b → WF.heap[b]? = WE.heap[b]? := by
      intro b h1
      rw [← hWF]
      (repeat (first | with_reducible rfl | with_reducible refine (Below.heap_setCell _ _ _ _ (by first | (simp; done) | (simp; omega))).trans ?_ | with_reducible refine (heap_drw _ _).trans ?_))
    have hzF : WF.heap.size = WE.heap.size := by rw [← hWF]; simp
    have hbF : Below w.heap.size w WF := by have hbx := HX.out.2; rw [← hWF]; (repeat (first | with_reducible assumption | with_reducible exact Below.refl _ _ | with_reducible refine Below.setCell ?_ (by first | omega | (simp; done) | (simp; omega)) _ | with_reducible refine Below.alloc ?_ (by first | omega | (simp; done) | (simp; omega)) _ | with_reducible refine below_drewN ?_ _ | with_reducible refine Below.drew ?_ | with_reducible refine Below.trans ?_ (Below.mono hbx (by first | omega | (simp; done) | (simp; omega)))))
    have hzE := hbE.size
    exact ⟨_, ⟨2, [], [], X, Ex.none⟩, xok, rfl, ⟨A2, none, c2, 0, w2.heap.size, rfl, by simp, by simp, (HX.out.1.same (fun b h1 h2 => hK b (by omega))).widen (by omega) (Nat.le_refl _), TrM.leaf _ _ _ 0 0 [] (by simp), by omega, by omega⟩, HR.out, hbF⟩
end Go.Proofs.YtgakjhaepdigpaaGreatDoor
