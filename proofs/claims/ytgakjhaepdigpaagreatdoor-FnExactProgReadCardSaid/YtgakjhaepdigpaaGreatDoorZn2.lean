/- The law's reader of a line's words: none, let, say. -/
import Derived.Test.YtgakjhaepdigpaaGreatDoorZn1
import Derived.Test.YtgakjhaepdigpaaGreatDoorRdR
import Derived.Test.YtgakjhaepdigpaaGreatDoorStOk
namespace Go.Proofs.YtgakjhaepdigpaaGreatDoor
set_option maxRecDepth 100000
set_option linter.unusedSimpArgs false
set_option linter.unusedVariables false
open Go.RowKit
attribute [local go_sem] bs_toList bs_get bs_size

theorem spSay_any (l : List Bytes) (v : Value) (w : World) (hv : SlB w w.heap.size v l) : Calls Tryz.prog 115 #[v] w fun e w' => e = .returned (.int .i64 (idxL cSay l)) ∧ w = w' := by
  obtain ⟨A, c, rfl, hc, hm⟩ := hv.val
  go_enter Tryz.func115, Tryz.ntmps115
  go_wp2_with fail
  go_loopg [3] l.length (fun k i wr => ∃ j : Nat, k = l.length - j ∧ j ≤ l.length ∧ i = .int .i64 j ∧ (∀ t x, t < j → l[t]? = some x → x ≠ cSay) ∧ wr = w)
  case atStart => exact ⟨0, by omega, by omega, rfl, fun t c h => by omega, rfl⟩
  case round =>
    obtain ⟨j, hk, hj, rfl, ha, rfl⟩ := hrel
    have HK := Lib.hid (And.intro hk ha)
    clear hk ha
    by_cases hlt : j < l.length
    · obtain ⟨b, o, x, rfl, hb, hg, f0⟩ := str_at hv hlt
      have g0 := f0 ⟨wr, Below.refl _ _⟩
      have HG := Lib.hid hg
      clear f0 hg
      by_cases he : x = cSay
      · have hd : (x == [115, 97, 121]) = true := by rw [beq_iff_eq]; exact he
        have HE := Lib.hid he
        clear he
        go_wp2_with fail
        go_ret
        exact ⟨ret_int (by rw [idxL_some HK.out.2 (by rw [← HE.out]; exact HG.out)]), rfl⟩
      · have hd : (x == [115, 97, 121]) = false := by rw [beq_eq_false_iff_ne]; exact he
        have HE := Lib.hid he
        clear he
        go_wp2_with fail
        go_roundg (l.length - (j + 1))
        case measure => have := HK.out.1; omega
        case rel => exact ⟨j + 1, rfl, by omega, by go_num, fun t x' ht hx => by
            by_cases e : t = j
            · subst e
              rw [HG.out] at hx
              obtain rfl := Option.some.inj hx
              exact HE.out
            · exact HK.out.2 t x' (by omega) hx, rfl⟩
    · go_wp2_with fail
      go_ret
      exact ⟨ret_int (by rw [idxL_none (fun t x ht => HK.out.2 t x (by omega))]), rfl⟩
/-- what the law's reader of words gives -/
def RrP (ws : List Bytes) (w : World) (e : Ending) (w' : World) : Prop := ∃ (v : Value) (s : Sm) (b : Bool), e = .returned (.tuple #[v, .bool b]) ∧ SmT w.heap.size w'.heap.size w' v s ∧ RdL ws s b ∧ Below w.heap.size w w'
theorem heap_drw (w : World) (b : Nat) : w.drew.heap[b]? = w.heap[b]? := rfl
set_option maxHeartbeats 2000000 in
theorem spReadNil_any (v : Value) (w : World) (hv : SlB w w.heap.size v []) : Calls Tryz.prog 54 #[v] w (RrP [] w) := by
  obtain ⟨A, c, rfl, hc, hm⟩ := id hv.val
  go_enter Tryz.func54, Tryz.ntmps54
  go_upto_region 2 with fail
  generalize hW : World.alloc (World.alloc w _) _ = W1
  have hbW : Below w.heap.size w W1 := by rw [← hW]; (repeat (first | with_reducible assumption | with_reducible exact Below.refl _ _ | with_reducible refine Below.setCell ?_ (by first | omega | (simp; done) | (simp; omega)) _ | with_reducible refine Below.alloc ?_ (by first | omega | (simp; done) | (simp; omega)) _ | with_reducible refine below_drewN ?_ _ | with_reducible refine Below.drew ?_))
  have hB2 : Blk W1 w.heap.size 26 zS := by rw [← hW]; exact (Blk.new _ _ _).alloc _
  have hB3 : Blk W1 (w.heap.size + 1) 26 zS := by rw [← hW]; exact Blk.new' (by simp)
  clear hW
  have z0 := (hB2).frozen 0; have z1 := (hB2).frozen 1; have z2 := (hB2).frozen 2; have z3 := (hB2).frozen 3; have z4 := (hB2).frozen 4; have z5 := (hB2).frozen 5; have z6 := (hB2).frozen 6; have z7 := (hB2).frozen 7; have z8 := (hB2).frozen 8; have z9 := (hB2).frozen 9; have z10 := (hB2).frozen 10
  have b0 := (hB2).cell 0; have b1 := (hB2).cell 1; have b2 := (hB2).cell 2; have b3 := (hB2).cell 3; have b4 := (hB2).cell 4; have b5 := (hB2).cell 5; have b6 := (hB2).cell 6; have b7 := (hB2).cell 7; have b8 := (hB2).cell 8; have b9 := (hB2).cell 9; have b10 := (hB2).cell 10
  simp [zS] at b0 b1 b2 b3 b4 b5 b6 b7 b8 b9 b10
  have y0 := (hB3).frozen 0; have y1 := (hB3).frozen 1; have y2 := (hB3).frozen 2; have y3 := (hB3).frozen 3; have y4 := (hB3).frozen 4; have y5 := (hB3).frozen 5; have y6 := (hB3).frozen 6; have y7 := (hB3).frozen 7; have y8 := (hB3).frozen 8; have y9 := (hB3).frozen 9; have y10 := (hB3).frozen 10
  have d0 := (hB3).cell 0; have d1 := (hB3).cell 1; have d2 := (hB3).cell 2; have d3 := (hB3).cell 3; have d4 := (hB3).cell 4; have d5 := (hB3).cell 5; have d6 := (hB3).cell 6; have d7 := (hB3).cell 7; have d8 := (hB3).cell 8; have d9 := (hB3).cell 9; have d10 := (hB3).cell 10
  simp [zS] at d0 d1 d2 d3 d4 d5 d6 d7 d8 d9 d10
  have hz := hbW.size
  go_wp2_with fail
  refine bodyPost_ret (v := .tuple #[.agg zS, .bool true]) (by simp [results, Tryz.results54, go_sem, zS, bs_nil, *]) rfl ?_
  exact ⟨_, SE.none.sm, true, rfl, (SmT.zero w.heap.size _).widen (Nat.le_refl _) (by simp; omega), RdL.nil, by (repeat (first | with_reducible assumption | with_reducible exact Below.refl _ _ | with_reducible refine Below.setCell ?_ (by first | omega | (simp; done) | (simp; omega)) _ | with_reducible refine Below.alloc ?_ (by first | omega | (simp; done) | (simp; omega)) _ | with_reducible refine below_drewN ?_ _ | with_reducible refine Below.drew ?_ | with_reducible refine Below.trans ?_ (Below.mono hbW (by first | omega | (simp; done) | (simp; omega)))))⟩
set_option maxHeartbeats 4000000 in
theorem spReadLet_any (ws : List Bytes) (v : Value) (w : World) (hv : SlB w w.heap.size v ws) (hs : ∀ s ∈ ws, s.length ≤ 120) (h5 : 5 < ws.length) (hg0 : ws[0]? = some cLet) (hg2 : ws[2]? = some [58]) (hg4 : ws[4]? = some [61]) : Calls Tryz.prog 54 #[v] w (RrP ws w) := by
  have ER := Lib.hid (fun (ls : List Bytes) (u : Value) (w' : World) (hu : SlB w' w'.heap.size u ls) (hls : ∀ s ∈ ls, s.length ≤ 100000000) => spExprRead_any ls u w' hu hls)
  have hpos0 : 0 < ws.length := by omega
  obtain ⟨A, c, rfl, hc, hm⟩ := id hv.val
  obtain ⟨b, o, x, rfl, hb, hg, f0⟩ := str_at hv (i := 0) hpos0
  rw [hg0] at hg
  obtain rfl := Option.some.inj hg
  rw [Nat.add_zero] at f0
  have hn0 : b ≠ w.heap.size := by omega
  have hn1 : b ≠ w.heap.size + 1 := by omega
  have l0 : (0 : Int) < (ws.length : Int) := by omega
  have lz : (((ws.length : Nat) : Int) == 0) = false := by rw [beq_eq_false_iff_ne]; omega
  obtain ⟨b', o', x1, e1, _, hg1, f1⟩ := str_at hv (i := 1) (by omega)
  obtain ⟨rfl, rfl⟩ : b = b' ∧ o = o' := by injection e1 with e; injection e; exact ⟨‹_›, ‹_›⟩
  obtain ⟨b', o', x3, e3, _, hg3, f3⟩ := str_at hv (i := 3) (by omega)
  obtain ⟨rfl, rfl⟩ : b = b' ∧ o = o' := by injection e3 with e; injection e; exact ⟨‹_›, ‹_›⟩
  obtain ⟨b', o', x2, e2, _, hg2', f2⟩ := str_at hv (i := 2) (by omega)
  obtain ⟨rfl, rfl⟩ : b = b' ∧ o = o' := by injection e2 with e; injection e; exact ⟨‹_›, ‹_›⟩
  rw [hg2] at hg2'
  obtain rfl := Option.some.inj hg2'
  obtain ⟨b', o', x4, e4, _, hg4', f4⟩ := str_at hv (i := 4) (by omega)
  obtain ⟨rfl, rfl⟩ : b = b' ∧ o = o' := by injection e4 with e; injection e; exact ⟨‹_›, ‹_›⟩
  rw [hg4] at hg4'
  obtain rfl := Option.some.inj hg4'
  have hd5 : decide ((5 : Int) < (ws.length : Int)) = true := by rw [decide_eq_true_eq]; omega
  have l1 : (1 : Int) < (ws.length : Int) := by omega
  have l2 : (2 : Int) < (ws.length : Int) := by omega
  have l3 : (3 : Int) < (ws.length : Int) := by omega
  have l4 : (4 : Int) < (ws.length : Int) := by omega
  have l5 : (5 : Int) ≤ (ws.length : Int) := by omega
  have HR := Lib.hid (show RdL ws ⟨1, x1, x3, rdX (ws.drop 5), Ex.none⟩ (rdOk (ws.drop 5)) by have h := RdL.slet h5 hg0; rw [hg1, hg3] at h; exact h)
  have hx1 := hs x1 (List.mem_of_getElem? hg1)
  have hx3 := hs x3 (List.mem_of_getElem? hg3)
  go_enter Tryz.func54, Tryz.ntmps54
  go_upto_region 2 with fail
  generalize hW : World.alloc (World.alloc w _) _ = W1
  have hbW : Below w.heap.size w W1 := by rw [← hW]; (repeat (first | with_reducible assumption | with_reducible exact Below.refl _ _ | with_reducible refine Below.setCell ?_ (by first | omega | (simp; done) | (simp; omega)) _ | with_reducible refine Below.alloc ?_ (by first | omega | (simp; done) | (simp; omega)) _ | with_reducible refine below_drewN ?_ _ | with_reducible refine Below.drew ?_))
  have hB2 : Blk W1 w.heap.size 26 zS := by rw [← hW]; exact (Blk.new _ _ _).alloc _
  have hB3 : Blk W1 (w.heap.size + 1) 26 zS := by rw [← hW]; exact Blk.new' (by simp)
  clear hW
  have q0 := f0 ⟨W1, hbW⟩
  have q2 := f2 ⟨W1, hbW⟩
  have q4 := f4 ⟨W1, hbW⟩
  have E1 := Lib.hid (ER.out (ws.drop 5) _ W1 (slb_from (m := 5) (hv.ext hbW) (by omega) (some ⟨b, o + 5, none⟩) (fun _ => rfl)) (fun s h => by have := hs s (List.mem_of_mem_drop h); omega))
  unfold RdP at E1
  generalize rdX (ws.drop 5) = X at *
  generalize rdOk (ws.drop 5) = xok at *
  go_wp2_with fail
  refine E1.out.mono ?_
  rintro r w2 ⟨v2, rfl, hT, hb2⟩
  obtain ⟨A2, c2, rfl, hc2, hm2, hs2⟩ := hT.form
  have hF2 := hB2.below hb2 hB2.lt
  have hbw2 := hbW.ext hb2
  have hz2 := hb2.size
  have hzW := hB3.lt
  go_upto_region 6 with fail
  generalize hWE : World.alloc _ _ = WE
  have hbE : Below w2.heap.size w2 WE := by rw [← hWE]; (repeat (first | with_reducible assumption | with_reducible exact Below.refl _ _ | with_reducible refine Below.setCell ?_ (by first | omega | (simp; done) | (simp; omega)) _ | with_reducible refine Below.alloc ?_ (by first | omega | (simp; done) | (simp; omega)) _ | with_reducible refine below_drewN ?_ _ | with_reducible refine Below.drew ?_))
  have hB5 : Blk WE w2.heap.size 24 #[.int .i64 X.kind, .int .i64 X.n, .string (bs X.s), .slice A2 X.kids.length c2] := by rw [← hWE]; exact Blk.new _ _ _
  clear hWE
  have hG2 := hF2.below hbE hF2.lt
  have hbwE := hbw2.ext hbE
  have q1 := f1 ⟨WE, hbwE⟩
  have q3 := f3 ⟨WE, hbwE⟩
  have p0 := hB5.cell 0; have p1 := hB5.cell 1; have p2 := hB5.cell 2; have p3 := hB5.cell 3
  simp at p0 p1 p2 p3
  have z0 := (hG2).frozen 0; have z1 := (hG2).frozen 1; have z2 := (hG2).frozen 2; have z3 := (hG2).frozen 3; have z4 := (hG2).frozen 4; have z5 := (hG2).frozen 5; have z6 := (hG2).frozen 6; have z7 := (hG2).frozen 7; have z8 := (hG2).frozen 8; have z9 := (hG2).frozen 9; have z10 := (hG2).frozen 10
  have b0 := (hG2).cell 0; have b1 := (hG2).cell 1; have b2 := (hG2).cell 2; have b3 := (hG2).cell 3; have b4 := (hG2).cell 4; have b5 := (hG2).cell 5; have b6 := (hG2).cell 6; have b7 := (hG2).cell 7; have b8 := (hG2).cell 8; have b9 := (hG2).cell 9; have b10 := (hG2).cell 10
  simp [zS] at b0 b1 b2 b3 b4 b5 b6 b7 b8 b9 b10
  have HX := Lib.hid (And.intro (hT.ext hbE) hbwE)
  clear hB2 hB3 hF2 hG2 hT hbw2 E1 f0 f1 f2 f3 f4 q0 q2 q4 hB5
  have hne5 : w.heap.size ≠ w2.heap.size := by omega
  go_region
  go_wp2_with fail
  refine bodyPost_ret (v := .tuple #[.agg (cS 1 x1 x3 X.kind X.n X.s (.slice A2 X.kids.length c2) 0 0 [] (.slice none 0 0)), .bool xok]) (by simp [results, Tryz.results54, go_sem, cS, bs_nil, *]) rfl ?_
  generalize hWF : World.drew _ = WF
  have hK : ∀ b, w.heap.size + 1 ≤ b → WF.heap[b]? = WE.heap[b]? := by
    intro b h1
    rw [← hWF]
    (repeat (first | with_reducible rfl | with_reducible refine (Below.heap_setCell _ _ _ _ (by first | (simp; done) | (simp; omega))).trans ?_ | with_reducible refine (heap_drw _ _).trans ?_))
  have hzF : WF.heap.size = WE.heap.size := by rw [← hWF]; simp
  have hbF : Below w.heap.size w WF := by have hbx := HX.out.2; rw [← hWF]; (repeat (first | with_reducible assumption | with_reducible exact Below.refl _ _ | with_reducible refine Below.setCell ?_ (by first | omega | (simp; done) | (simp; omega)) _ | with_reducible refine Below.alloc ?_ (by first | omega | (simp; done) | (simp; omega)) _ | with_reducible refine below_drewN ?_ _ | with_reducible refine Below.drew ?_ | with_reducible refine Below.trans ?_ (Below.mono hbx (by first | omega | (simp; done) | (simp; omega)))))
  have hzE := hbE.size
  exact ⟨_, ⟨1, x1, x3, X, Ex.none⟩, xok, rfl, ⟨A2, none, c2, 0, w2.heap.size, rfl, Nat.le_trans hx1 (by decide), Nat.le_trans hx3 (by decide), (HX.out.1.same (fun b h1 h2 => hK b (by omega))).widen (by omega) (Nat.le_refl _), TrM.leaf _ _ _ 0 0 [] (by simp), by omega, by omega⟩, HR.out, hbF⟩
set_option maxHeartbeats 4000000 in
theorem spReadSay_any (ws : List Bytes) (v : Value) (w : World) (hv : SlB w w.heap.size v ws) (hs : ∀ s ∈ ws, s.length ≤ 120) (hg0 : ws[0]? = some cSay) : Calls Tryz.prog 54 #[v] w (RrP ws w) := by
  have ER := Lib.hid (fun (ls : List Bytes) (u : Value) (w' : World) (hu : SlB w' w'.heap.size u ls) (hls : ∀ s ∈ ls, s.length ≤ 100000000) => spExprRead_any ls u w' hu hls)
  have hpos0 : 0 < ws.length := (List.getElem?_eq_some_iff.1 hg0).1
  have HR := Lib.hid (RdL.say hg0)
  obtain ⟨A, c, rfl, hc, hm⟩ := id hv.val
  obtain ⟨b, o, x, rfl, hb, hg, f0⟩ := str_at hv (i := 0) hpos0
  rw [hg0] at hg
  obtain rfl := Option.some.inj hg
  rw [Nat.add_zero] at f0
  have hn0 : b ≠ w.heap.size := by omega
  have hn1 : b ≠ w.heap.size + 1 := by omega
  have l0 : (0 : Int) < (ws.length : Int) := by omega
  have lz : (((ws.length : Nat) : Int) == 0) = false := by rw [beq_eq_false_iff_ne]; omega
  have l1 : (1 : Int) ≤ (ws.length : Int) := by omega
  go_enter Tryz.func54, Tryz.ntmps54
  go_upto_region 2 with fail
  generalize hW : World.alloc (World.alloc w _) _ = W1
  have hbW : Below w.heap.size w W1 := by rw [← hW]; (repeat (first | with_reducible assumption | with_reducible exact Below.refl _ _ | with_reducible refine Below.setCell ?_ (by first | omega | (simp; done) | (simp; omega)) _ | with_reducible refine Below.alloc ?_ (by first | omega | (simp; done) | (simp; omega)) _ | with_reducible refine below_drewN ?_ _ | with_reducible refine Below.drew ?_))
  have hB2 : Blk W1 w.heap.size 26 zS := by rw [← hW]; exact (Blk.new _ _ _).alloc _
  have hB3 : Blk W1 (w.heap.size + 1) 26 zS := by rw [← hW]; exact Blk.new' (by simp)
  clear hW
  have q0 := f0 ⟨W1, hbW⟩
  have E1 := Lib.hid (show ∀ (A' : Option Addr) (n' c' : Nat), n' = ws.length - 1 → c' = c - 1 → (1 < ws.length → A' = some ⟨b, o + 1, none⟩) → Calls Tryz.prog 114 #[.slice A' n' c'] W1 (RdP (ws.drop 1) W1) from fun A' n' c' hn hc' hA' => by
    subst hn hc'
    exact ER.out (ws.drop 1) (.slice A' (ws.length - 1) (c - 1)) W1 (slb_from (m := 1) (hv.ext hbW) (by omega) A' hA') (fun s h => by have := hs s (List.mem_of_mem_drop h); omega))
  unfold RdP at E1
  generalize rdX (ws.drop 1) = X at *
  generalize rdOk (ws.drop 1) = xok at *
  clear ER
  by_cases hc1 : c = 1
  all_goals
    go_wp2_with fail
    first
      | (have hx1 : c = 1 := hc1; refine (E1.out (some ⟨b, o, none⟩) (ws.length - 1) 0 rfl (by omega) (by intro h; omega)).mono ?_; clear hx1)
      | refine (E1.out (some ⟨b, o + 1, none⟩) (ws.length - 1) (c - 1) rfl rfl (fun _ => rfl)).mono ?_
    rintro r w2 ⟨v2, rfl, hT, hb2⟩
    obtain ⟨A2, c2, rfl, hc2, hm2, hs2⟩ := hT.form
    have hF2 := hB2.below hb2 hB2.lt
    have hbw2 := hbW.ext hb2
    have hz2 := hb2.size
    have hzW := hB3.lt
    go_upto_region 9 with fail
    generalize hWE : World.alloc _ _ = WE
    have hbE : Below w2.heap.size w2 WE := by rw [← hWE]; (repeat (first | with_reducible assumption | with_reducible exact Below.refl _ _ | with_reducible refine Below.setCell ?_ (by first | omega | (simp; done) | (simp; omega)) _ | with_reducible refine Below.alloc ?_ (by first | omega | (simp; done) | (simp; omega)) _ | with_reducible refine below_drewN ?_ _ | with_reducible refine Below.drew ?_))
    have hB5 : Blk WE w2.heap.size 24 #[.int .i64 X.kind, .int .i64 X.n, .string (bs X.s), .slice A2 X.kids.length c2] := by rw [← hWE]; exact Blk.new _ _ _
    clear hWE
    have hG2 := hF2.below hbE hF2.lt
    have hbwE := hbw2.ext hbE
    have p0 := hB5.cell 0; have p1 := hB5.cell 1; have p2 := hB5.cell 2; have p3 := hB5.cell 3
    simp at p0 p1 p2 p3
    have z0 := (hG2).frozen 0; have z1 := (hG2).frozen 1; have z2 := (hG2).frozen 2; have z3 := (hG2).frozen 3; have z4 := (hG2).frozen 4; have z5 := (hG2).frozen 5; have z6 := (hG2).frozen 6; have z7 := (hG2).frozen 7; have z8 := (hG2).frozen 8; have z9 := (hG2).frozen 9; have z10 := (hG2).frozen 10
    have b0 := (hG2).cell 0; have b1 := (hG2).cell 1; have b2 := (hG2).cell 2; have b3 := (hG2).cell 3; have b4 := (hG2).cell 4; have b5 := (hG2).cell 5; have b6 := (hG2).cell 6; have b7 := (hG2).cell 7; have b8 := (hG2).cell 8; have b9 := (hG2).cell 9; have b10 := (hG2).cell 10
    simp [zS] at b0 b1 b2 b3 b4 b5 b6 b7 b8 b9 b10
    have HX := Lib.hid (And.intro (hT.ext hbE) hbwE)
    clear hB2 hB3 hF2 hG2 hT hbw2 E1 q0 hB5
    have hne5 : w.heap.size ≠ w2.heap.size := by omega
    go_wp2_with fail
    refine bodyPost_ret (v := .tuple #[.agg (cS 2 [] [] X.kind X.n X.s (.slice A2 X.kids.length c2) 0 0 [] (.slice none 0 0)), .bool xok]) (by simp [results, Tryz.results54, go_sem, cS, bs_nil, *]) rfl ?_
    generalize hWF : World.setCell _ _ _ = WF
    have hK : ∀ b, w.heap.size + 1 ≤ b → WF.heap[b]? = WE.heap[b]? := by
      intro b h1
      rw [← hWF]
      (repeat (first | with_reducible rfl | with_reducible refine (Below.heap_setCell _ _ _ _ (by first | (simp; done) | (simp; omega))).trans ?_ | with_reducible refine (heap_drw _ _).trans ?_))
    have hzF : WF.heap.size = WE.heap.size := by rw [← hWF]; simp
    have hbF : Below w.heap.size w WF := by have hbx := HX.out.2; rw [← hWF]; (repeat (first | with_reducible assumption | with_reducible exact Below.refl _ _ | with_reducible refine Below.setCell ?_ (by first | omega | (simp; done) | (simp; omega)) _ | with_reducible refine Below.alloc ?_ (by first | omega | (simp; done) | (simp; omega)) _ | with_reducible refine below_drewN ?_ _ | with_reducible refine Below.drew ?_ | with_reducible refine Below.trans ?_ (Below.mono hbx (by first | omega | (simp; done) | (simp; omega)))))
    have hzE := hbE.size
    exact ⟨_, ⟨2, [], [], X, Ex.none⟩, xok, rfl, ⟨A2, none, c2, 0, w2.heap.size, rfl, by simp, by simp, (HX.out.1.same (fun b h1 h2 => hK b (by omega))).widen (by omega) (Nat.le_refl _), TrM.leaf _ _ _ 0 0 [] (by simp), by omega, by omega⟩, HR.out, hbF⟩
end Go.Proofs.YtgakjhaepdigpaaGreatDoor


/- The law's reader of a line's words: when, any other. -/
namespace Go.Proofs.YtgakjhaepdigpaaGreatDoor
set_option maxRecDepth 100000
set_option linter.unusedSimpArgs false
set_option linter.unusedVariables false
open Go.RowKit
attribute [local go_sem] bs_toList bs_get bs_size

set_option maxHeartbeats 4000000 in
theorem spReadNo_any (ws : List Bytes) (v : Value) (w : World) (hv : SlB w w.heap.size v ws) {x0 : Bytes} (hg0 : ws[0]? = some x0) (hA : ¬ (5 < ws.length ∧ ws[0]? = some cLet ∧ ws[2]? = some [58] ∧ ws[4]? = some [61])) (hS : x0 ≠ cSay) (hN : x0 = cWhen → ∀ k, 0 < k → sayAt ws ≠ some k) : Calls Tryz.prog 54 #[v] w (RrP ws w) := by
  have hpos0 : 0 < ws.length := (List.getElem?_eq_some_iff.1 hg0).1
  have HR := Lib.hid (RdL.no (w := ws) (fun e => by rw [e] at hpos0; simp at hpos0) hA (fun h => hS (by rw [hg0] at h; exact Option.some.inj h)) (fun h => hN (by rw [hg0] at h; exact Option.some.inj h)) SE.none.sm false)
  have IX := Lib.hid (fun (w' : World) (h : Below w.heap.size w w') => spSay_any ws v w' (hv.ext h))
  obtain ⟨A, c, rfl, hc, hm⟩ := id hv.val
  obtain ⟨b, o, x, rfl, hb, hg, f0⟩ := str_at hv (i := 0) hpos0
  rw [hg0] at hg
  obtain rfl := Option.some.inj hg
  rw [Nat.add_zero] at f0
  have hn0 : b ≠ w.heap.size := by omega
  have hn1 : b ≠ w.heap.size + 1 := by omega
  have l0 : (0 : Int) < (ws.length : Int) := by omega
  have lz : (((ws.length : Nat) : Int) == 0) = false := by rw [beq_eq_false_iff_ne]; omega
  have hS1 : (x0 == [115, 97, 121]) = false := by rw [beq_eq_false_iff_ne]; exact hS
  by_cases hl : x0 = cLet
  · subst hl
    have hA2 : 5 < ws.length → ws[2]? = some [58] → ws[4]? ≠ some [61] := fun h1 h2 h3 => hA ⟨h1, hg0, h2, h3⟩
    clear IX hA hN
    by_cases h5 : 5 < ws.length
    · have hd5 : decide ((5 : Int) < (ws.length : Int)) = true := by rw [decide_eq_true_eq]; omega
      obtain ⟨b', o', x2, e2, _, hg2', f2⟩ := str_at hv (i := 2) (by omega)
      obtain ⟨rfl, rfl⟩ : b = b' ∧ o = o' := by injection e2 with e; injection e; exact ⟨‹_›, ‹_›⟩
      obtain ⟨b', o', x4, e4, _, hg4', f4⟩ := str_at hv (i := 4) (by omega)
      obtain ⟨rfl, rfl⟩ : b = b' ∧ o = o' := by injection e4 with e; injection e; exact ⟨‹_›, ‹_›⟩
      have l2 : (2 : Int) < (ws.length : Int) := by omega
      have l4 : (4 : Int) < (ws.length : Int) := by omega
      by_cases h2 : x2 = [58]
      · subst h2
        have h4 : (x4 == [61]) = false := by
          rw [beq_eq_false_iff_ne]
          rintro rfl
          exact hA2 h5 hg2' hg4'
        go_enter Tryz.func54, Tryz.ntmps54
        go_upto_region 2 with fail
        generalize hW : World.alloc (World.alloc w _) _ = W1
        have hbW : Below w.heap.size w W1 := by rw [← hW]; (repeat (first | with_reducible assumption | with_reducible exact Below.refl _ _ | with_reducible refine Below.setCell ?_ (by first | omega | (simp; done) | (simp; omega)) _ | with_reducible refine Below.alloc ?_ (by first | omega | (simp; done) | (simp; omega)) _ | with_reducible refine below_drewN ?_ _ | with_reducible refine Below.drew ?_))
        have hB2 : Blk W1 w.heap.size 26 zS := by rw [← hW]; exact (Blk.new _ _ _).alloc _
        have hB3 : Blk W1 (w.heap.size + 1) 26 zS := by rw [← hW]; exact Blk.new' (by simp)
        clear hW
        have z0 := (hB2).frozen 0; have z1 := (hB2).frozen 1; have z2 := (hB2).frozen 2; have z3 := (hB2).frozen 3; have z4 := (hB2).frozen 4; have z5 := (hB2).frozen 5; have z6 := (hB2).frozen 6; have z7 := (hB2).frozen 7; have z8 := (hB2).frozen 8; have z9 := (hB2).frozen 9; have z10 := (hB2).frozen 10
        have b0 := (hB2).cell 0; have b1 := (hB2).cell 1; have b2 := (hB2).cell 2; have b3 := (hB2).cell 3; have b4 := (hB2).cell 4; have b5 := (hB2).cell 5; have b6 := (hB2).cell 6; have b7 := (hB2).cell 7; have b8 := (hB2).cell 8; have b9 := (hB2).cell 9; have b10 := (hB2).cell 10
        simp [zS] at b0 b1 b2 b3 b4 b5 b6 b7 b8 b9 b10
        have y0 := (hB3).frozen 0; have y1 := (hB3).frozen 1; have y2 := (hB3).frozen 2; have y3 := (hB3).frozen 3; have y4 := (hB3).frozen 4; have y5 := (hB3).frozen 5; have y6 := (hB3).frozen 6; have y7 := (hB3).frozen 7; have y8 := (hB3).frozen 8; have y9 := (hB3).frozen 9; have y10 := (hB3).frozen 10
        have d0 := (hB3).cell 0; have d1 := (hB3).cell 1; have d2 := (hB3).cell 2; have d3 := (hB3).cell 3; have d4 := (hB3).cell 4; have d5 := (hB3).cell 5; have d6 := (hB3).cell 6; have d7 := (hB3).cell 7; have d8 := (hB3).cell 8; have d9 := (hB3).cell 9; have d10 := (hB3).cell 10
        simp [zS] at d0 d1 d2 d3 d4 d5 d6 d7 d8 d9 d10
        have q0 := f0 ⟨W1, hbW⟩
        have hz := hbW.size
        have q2 := f2 ⟨W1, hbW⟩
        have q4 := f4 ⟨W1, hbW⟩
        go_wp2_with fail
        refine bodyPost_ret (v := .tuple #[.agg zS, .bool false]) (by simp [results, Tryz.results54, go_sem, zS, bs_nil, *]) rfl ?_
        exact ⟨_, SE.none.sm, false, rfl, (SmT.zero w.heap.size _).widen (Nat.le_refl _) (by simp; omega), HR.out, by (repeat (first | with_reducible assumption | with_reducible exact Below.refl _ _ | with_reducible refine Below.setCell ?_ (by first | omega | (simp; done) | (simp; omega)) _ | with_reducible refine Below.alloc ?_ (by first | omega | (simp; done) | (simp; omega)) _ | with_reducible refine below_drewN ?_ _ | with_reducible refine Below.drew ?_ | with_reducible refine Below.trans ?_ (Below.mono hbW (by first | omega | (simp; done) | (simp; omega)))))⟩
      · have h2b : (x2 == [58]) = false := by rw [beq_eq_false_iff_ne]; exact h2
        go_enter Tryz.func54, Tryz.ntmps54
        go_upto_region 2 with fail
        generalize hW : World.alloc (World.alloc w _) _ = W1
        have hbW : Below w.heap.size w W1 := by rw [← hW]; (repeat (first | with_reducible assumption | with_reducible exact Below.refl _ _ | with_reducible refine Below.setCell ?_ (by first | omega | (simp; done) | (simp; omega)) _ | with_reducible refine Below.alloc ?_ (by first | omega | (simp; done) | (simp; omega)) _ | with_reducible refine below_drewN ?_ _ | with_reducible refine Below.drew ?_))
        have hB2 : Blk W1 w.heap.size 26 zS := by rw [← hW]; exact (Blk.new _ _ _).alloc _
        have hB3 : Blk W1 (w.heap.size + 1) 26 zS := by rw [← hW]; exact Blk.new' (by simp)
        clear hW
        have z0 := (hB2).frozen 0; have z1 := (hB2).frozen 1; have z2 := (hB2).frozen 2; have z3 := (hB2).frozen 3; have z4 := (hB2).frozen 4; have z5 := (hB2).frozen 5; have z6 := (hB2).frozen 6; have z7 := (hB2).frozen 7; have z8 := (hB2).frozen 8; have z9 := (hB2).frozen 9; have z10 := (hB2).frozen 10
        have b0 := (hB2).cell 0; have b1 := (hB2).cell 1; have b2 := (hB2).cell 2; have b3 := (hB2).cell 3; have b4 := (hB2).cell 4; have b5 := (hB2).cell 5; have b6 := (hB2).cell 6; have b7 := (hB2).cell 7; have b8 := (hB2).cell 8; have b9 := (hB2).cell 9; have b10 := (hB2).cell 10
        simp [zS] at b0 b1 b2 b3 b4 b5 b6 b7 b8 b9 b10
        have y0 := (hB3).frozen 0; have y1 := (hB3).frozen 1; have y2 := (hB3).frozen 2; have y3 := (hB3).frozen 3; have y4 := (hB3).frozen 4; have y5 := (hB3).frozen 5; have y6 := (hB3).frozen 6; have y7 := (hB3).frozen 7; have y8 := (hB3).frozen 8; have y9 := (hB3).frozen 9; have y10 := (hB3).frozen 10
        have d0 := (hB3).cell 0; have d1 := (hB3).cell 1; have d2 := (hB3).cell 2; have d3 := (hB3).cell 3; have d4 := (hB3).cell 4; have d5 := (hB3).cell 5; have d6 := (hB3).cell 6; have d7 := (hB3).cell 7; have d8 := (hB3).cell 8; have d9 := (hB3).cell 9; have d10 := (hB3).cell 10
        simp [zS] at d0 d1 d2 d3 d4 d5 d6 d7 d8 d9 d10
        have q0 := f0 ⟨W1, hbW⟩
        have hz := hbW.size
        have q2 := f2 ⟨W1, hbW⟩
        go_wp2_with fail
        refine bodyPost_ret (v := .tuple #[.agg zS, .bool false]) (by simp [results, Tryz.results54, go_sem, zS, bs_nil, *]) rfl ?_
        exact ⟨_, SE.none.sm, false, rfl, (SmT.zero w.heap.size _).widen (Nat.le_refl _) (by simp; omega), HR.out, by (repeat (first | with_reducible assumption | with_reducible exact Below.refl _ _ | with_reducible refine Below.setCell ?_ (by first | omega | (simp; done) | (simp; omega)) _ | with_reducible refine Below.alloc ?_ (by first | omega | (simp; done) | (simp; omega)) _ | with_reducible refine below_drewN ?_ _ | with_reducible refine Below.drew ?_ | with_reducible refine Below.trans ?_ (Below.mono hbW (by first | omega | (simp; done) | (simp; omega)))))⟩
    · have hd5 : decide ((5 : Int) < (ws.length : Int)) = false := by rw [decide_eq_false_iff_not]; omega
      go_enter Tryz.func54, Tryz.ntmps54
      go_upto_region 2 with fail
      generalize hW : World.alloc (World.alloc w _) _ = W1
      have hbW : Below w.heap.size w W1 := by rw [← hW]; (repeat (first | with_reducible assumption | with_reducible exact Below.refl _ _ | with_reducible refine Below.setCell ?_ (by first | omega | (simp; done) | (simp; omega)) _ | with_reducible refine Below.alloc ?_ (by first | omega | (simp; done) | (simp; omega)) _ | with_reducible refine below_drewN ?_ _ | with_reducible refine Below.drew ?_))
      have hB2 : Blk W1 w.heap.size 26 zS := by rw [← hW]; exact (Blk.new _ _ _).alloc _
      have hB3 : Blk W1 (w.heap.size + 1) 26 zS := by rw [← hW]; exact Blk.new' (by simp)
      clear hW
      have z0 := (hB2).frozen 0; have z1 := (hB2).frozen 1; have z2 := (hB2).frozen 2; have z3 := (hB2).frozen 3; have z4 := (hB2).frozen 4; have z5 := (hB2).frozen 5; have z6 := (hB2).frozen 6; have z7 := (hB2).frozen 7; have z8 := (hB2).frozen 8; have z9 := (hB2).frozen 9; have z10 := (hB2).frozen 10
      have b0 := (hB2).cell 0; have b1 := (hB2).cell 1; have b2 := (hB2).cell 2; have b3 := (hB2).cell 3; have b4 := (hB2).cell 4; have b5 := (hB2).cell 5; have b6 := (hB2).cell 6; have b7 := (hB2).cell 7; have b8 := (hB2).cell 8; have b9 := (hB2).cell 9; have b10 := (hB2).cell 10
      simp [zS] at b0 b1 b2 b3 b4 b5 b6 b7 b8 b9 b10
      have y0 := (hB3).frozen 0; have y1 := (hB3).frozen 1; have y2 := (hB3).frozen 2; have y3 := (hB3).frozen 3; have y4 := (hB3).frozen 4; have y5 := (hB3).frozen 5; have y6 := (hB3).frozen 6; have y7 := (hB3).frozen 7; have y8 := (hB3).frozen 8; have y9 := (hB3).frozen 9; have y10 := (hB3).frozen 10
      have d0 := (hB3).cell 0; have d1 := (hB3).cell 1; have d2 := (hB3).cell 2; have d3 := (hB3).cell 3; have d4 := (hB3).cell 4; have d5 := (hB3).cell 5; have d6 := (hB3).cell 6; have d7 := (hB3).cell 7; have d8 := (hB3).cell 8; have d9 := (hB3).cell 9; have d10 := (hB3).cell 10
      simp [zS] at d0 d1 d2 d3 d4 d5 d6 d7 d8 d9 d10
      have q0 := f0 ⟨W1, hbW⟩
      have hz := hbW.size
      go_wp2_with fail
      refine bodyPost_ret (v := .tuple #[.agg zS, .bool false]) (by simp [results, Tryz.results54, go_sem, zS, bs_nil, *]) rfl ?_
      exact ⟨_, SE.none.sm, false, rfl, (SmT.zero w.heap.size _).widen (Nat.le_refl _) (by simp; omega), HR.out, by (repeat (first | with_reducible assumption | with_reducible exact Below.refl _ _ | with_reducible refine Below.setCell ?_ (by first | omega | (simp; done) | (simp; omega)) _ | with_reducible refine Below.alloc ?_ (by first | omega | (simp; done) | (simp; omega)) _ | with_reducible refine below_drewN ?_ _ | with_reducible refine Below.drew ?_ | with_reducible refine Below.trans ?_ (Below.mono hbW (by first | omega | (simp; done) | (simp; omega)))))⟩
  · have hL1 : (x0 == [108, 101, 116]) = false := by rw [beq_eq_false_iff_ne]; exact hl
    by_cases hw : x0 = cWhen
    · subst hw
      obtain ⟨i, hi, hi0⟩ : ∃ i : Int, idxL cSay ws = i ∧ i ≤ 0 := by
        rcases idx_say (ws := ws) with ⟨k, h1, h2, _⟩ | ⟨_, h2⟩
        · refine ⟨_, h2, ?_⟩
          by_cases hk : 0 < k
          · exact absurd h1 (hN rfl k hk)
          · omega
        · exact ⟨_, h2, by omega⟩
      rw [hi] at IX
      have hid : decide (0 < i) = false := by rw [decide_eq_false_iff_not]; omega
      go_enter Tryz.func54, Tryz.ntmps54
      go_upto_region 2 with fail
      generalize hW : World.alloc (World.alloc w _) _ = W1
      have hbW : Below w.heap.size w W1 := by rw [← hW]; (repeat (first | with_reducible assumption | with_reducible exact Below.refl _ _ | with_reducible refine Below.setCell ?_ (by first | omega | (simp; done) | (simp; omega)) _ | with_reducible refine Below.alloc ?_ (by first | omega | (simp; done) | (simp; omega)) _ | with_reducible refine below_drewN ?_ _ | with_reducible refine Below.drew ?_))
      have hB2 : Blk W1 w.heap.size 26 zS := by rw [← hW]; exact (Blk.new _ _ _).alloc _
      have hB3 : Blk W1 (w.heap.size + 1) 26 zS := by rw [← hW]; exact Blk.new' (by simp)
      clear hW
      have z0 := (hB2).frozen 0; have z1 := (hB2).frozen 1; have z2 := (hB2).frozen 2; have z3 := (hB2).frozen 3; have z4 := (hB2).frozen 4; have z5 := (hB2).frozen 5; have z6 := (hB2).frozen 6; have z7 := (hB2).frozen 7; have z8 := (hB2).frozen 8; have z9 := (hB2).frozen 9; have z10 := (hB2).frozen 10
      have b0 := (hB2).cell 0; have b1 := (hB2).cell 1; have b2 := (hB2).cell 2; have b3 := (hB2).cell 3; have b4 := (hB2).cell 4; have b5 := (hB2).cell 5; have b6 := (hB2).cell 6; have b7 := (hB2).cell 7; have b8 := (hB2).cell 8; have b9 := (hB2).cell 9; have b10 := (hB2).cell 10
      simp [zS] at b0 b1 b2 b3 b4 b5 b6 b7 b8 b9 b10
      have y0 := (hB3).frozen 0; have y1 := (hB3).frozen 1; have y2 := (hB3).frozen 2; have y3 := (hB3).frozen 3; have y4 := (hB3).frozen 4; have y5 := (hB3).frozen 5; have y6 := (hB3).frozen 6; have y7 := (hB3).frozen 7; have y8 := (hB3).frozen 8; have y9 := (hB3).frozen 9; have y10 := (hB3).frozen 10
      have d0 := (hB3).cell 0; have d1 := (hB3).cell 1; have d2 := (hB3).cell 2; have d3 := (hB3).cell 3; have d4 := (hB3).cell 4; have d5 := (hB3).cell 5; have d6 := (hB3).cell 6; have d7 := (hB3).cell 7; have d8 := (hB3).cell 8; have d9 := (hB3).cell 9; have d10 := (hB3).cell 10
      simp [zS] at d0 d1 d2 d3 d4 d5 d6 d7 d8 d9 d10
      have q0 := f0 ⟨W1, hbW⟩
      have hz := hbW.size
      go_wp2_with fail
      refine (IX.out _ hbW).mono ?_
      rintro r _ ⟨rfl, rfl⟩
      go_wp2_with fail
      refine bodyPost_ret (v := .tuple #[.agg zS, .bool false]) (by simp [results, Tryz.results54, go_sem, zS, bs_nil, *]) rfl ?_
      exact ⟨_, SE.none.sm, false, rfl, (SmT.zero w.heap.size _).widen (Nat.le_refl _) (by simp; omega), HR.out, by (repeat (first | with_reducible assumption | with_reducible exact Below.refl _ _ | with_reducible refine Below.setCell ?_ (by first | omega | (simp; done) | (simp; omega)) _ | with_reducible refine Below.alloc ?_ (by first | omega | (simp; done) | (simp; omega)) _ | with_reducible refine below_drewN ?_ _ | with_reducible refine Below.drew ?_ | with_reducible refine Below.trans ?_ (Below.mono hbW (by first | omega | (simp; done) | (simp; omega)))))⟩
    · have hW1 : (x0 == [119, 104, 101, 110]) = false := by rw [beq_eq_false_iff_ne]; exact hw
      clear IX
      go_enter Tryz.func54, Tryz.ntmps54
      go_upto_region 2 with fail
      generalize hW : World.alloc (World.alloc w _) _ = W1
      have hbW : Below w.heap.size w W1 := by rw [← hW]; (repeat (first | with_reducible assumption | with_reducible exact Below.refl _ _ | with_reducible refine Below.setCell ?_ (by first | omega | (simp; done) | (simp; omega)) _ | with_reducible refine Below.alloc ?_ (by first | omega | (simp; done) | (simp; omega)) _ | with_reducible refine below_drewN ?_ _ | with_reducible refine Below.drew ?_))
      have hB2 : Blk W1 w.heap.size 26 zS := by rw [← hW]; exact (Blk.new _ _ _).alloc _
      have hB3 : Blk W1 (w.heap.size + 1) 26 zS := by rw [← hW]; exact Blk.new' (by simp)
      clear hW
      have z0 := (hB2).frozen 0; have z1 := (hB2).frozen 1; have z2 := (hB2).frozen 2; have z3 := (hB2).frozen 3; have z4 := (hB2).frozen 4; have z5 := (hB2).frozen 5; have z6 := (hB2).frozen 6; have z7 := (hB2).frozen 7; have z8 := (hB2).frozen 8; have z9 := (hB2).frozen 9; have z10 := (hB2).frozen 10
      have b0 := (hB2).cell 0; have b1 := (hB2).cell 1; have b2 := (hB2).cell 2; have b3 := (hB2).cell 3; have b4 := (hB2).cell 4; have b5 := (hB2).cell 5; have b6 := (hB2).cell 6; have b7 := (hB2).cell 7; have b8 := (hB2).cell 8; have b9 := (hB2).cell 9; have b10 := (hB2).cell 10
      simp [zS] at b0 b1 b2 b3 b4 b5 b6 b7 b8 b9 b10
      have y0 := (hB3).frozen 0; have y1 := (hB3).frozen 1; have y2 := (hB3).frozen 2; have y3 := (hB3).frozen 3; have y4 := (hB3).frozen 4; have y5 := (hB3).frozen 5; have y6 := (hB3).frozen 6; have y7 := (hB3).frozen 7; have y8 := (hB3).frozen 8; have y9 := (hB3).frozen 9; have y10 := (hB3).frozen 10
      have d0 := (hB3).cell 0; have d1 := (hB3).cell 1; have d2 := (hB3).cell 2; have d3 := (hB3).cell 3; have d4 := (hB3).cell 4; have d5 := (hB3).cell 5; have d6 := (hB3).cell 6; have d7 := (hB3).cell 7; have d8 := (hB3).cell 8; have d9 := (hB3).cell 9; have d10 := (hB3).cell 10
      simp [zS] at d0 d1 d2 d3 d4 d5 d6 d7 d8 d9 d10
      have q0 := f0 ⟨W1, hbW⟩
      have hz := hbW.size
      go_wp2_with fail
      refine bodyPost_ret (v := .tuple #[.agg zS, .bool false]) (by simp [results, Tryz.results54, go_sem, zS, bs_nil, *]) rfl ?_
      exact ⟨_, SE.none.sm, false, rfl, (SmT.zero w.heap.size _).widen (Nat.le_refl _) (by simp; omega), HR.out, by (repeat (first | with_reducible assumption | with_reducible exact Below.refl _ _ | with_reducible refine Below.setCell ?_ (by first | omega | (simp; done) | (simp; omega)) _ | with_reducible refine Below.alloc ?_ (by first | omega | (simp; done) | (simp; omega)) _ | with_reducible refine below_drewN ?_ _ | with_reducible refine Below.drew ?_ | with_reducible refine Below.trans ?_ (Below.mono hbW (by first | omega | (simp; done) | (simp; omega)))))⟩
end Go.Proofs.YtgakjhaepdigpaaGreatDoor


/- The law's reader of a line's words: when with say; all of it; the law's reader of a line. -/
namespace Go.Proofs.YtgakjhaepdigpaaGreatDoor
set_option maxRecDepth 100000
set_option linter.unusedSimpArgs false
set_option linter.unusedVariables false
open Go.RowKit
attribute [local go_sem] bs_toList bs_get bs_size

set_option maxHeartbeats 4000000 in
theorem spReadW_any (ws : List Bytes) (v : Value) (w : World) (hv : SlB w w.heap.size v ws) (hs : ∀ s ∈ ws, s.length ≤ 120) (hl : ws.length ≤ 120) (hg0 : ws[0]? = some cWhen) (k : Nat) (hk : sayAt ws = some k) (hk0 : 0 < k) : Calls Tryz.prog 54 #[v] w (RrP ws w) := by
  have ER := Lib.hid (fun (ls : List Bytes) (u : Value) (w' : World) (hu : SlB w' w'.heap.size u ls) (hls : ∀ s ∈ ls, s.length ≤ 100000000) => spExprRead_any ls u w' hu hls)
  have hpos0 : 0 < ws.length := (List.getElem?_eq_some_iff.1 hg0).1
  have HR := Lib.hid (RdL.when hg0 hk)
  obtain ⟨A, c, rfl, hc, hm⟩ := id hv.val
  obtain ⟨b, o, x, rfl, hb, hg, f0⟩ := str_at hv (i := 0) hpos0
  rw [hg0] at hg
  obtain rfl := Option.some.inj hg
  rw [Nat.add_zero] at f0
  have hn0 : b ≠ w.heap.size := by omega
  have hn1 : b ≠ w.heap.size + 1 := by omega
  have l0 : (0 : Int) < (ws.length : Int) := by omega
  have lz : (((ws.length : Nat) : Int) == 0) = false := by rw [beq_eq_false_iff_ne]; omega
  obtain ⟨hi, hkl⟩ : idxL cSay ws = (k : Int) ∧ k < ws.length := by
    rcases idx_say (ws := ws) with ⟨k', h1, h2, h3⟩ | ⟨h1, _⟩
    · rw [hk] at h1
      obtain rfl := Option.some.inj h1
      exact ⟨h2, h3⟩
    · rw [hk] at h1; cases h1
  have IX := Lib.hid (fun (w' : World) (h : Below w.heap.size w w') => hi ▸ spSay_any ws _ w' (hv.ext h))
  have hid : decide ((0 : Int) < (k : Int)) = true := by rw [decide_eq_true_eq]; omega
  clear hi hk
  have SA := Lib.hid (fun (w' : World) (h : Below w.heap.size w w') => show SlB w' w'.heap.size (.slice (some ⟨b, o + 1, none⟩) (k - 1) (c - 1)) ((ws.take k).drop 1) by
    have h1 := slb_from (m := 1) ((hv.ext h).take (show k ≤ ws.length by omega)) (by rw [List.length_take]; omega) (some ⟨b, o + 1, none⟩) (fun _ => rfl)
    rw [List.length_take, Nat.min_eq_left (by omega)] at h1
    exact h1)
  have SB := Lib.hid (show ∀ (A' : Option Addr) (n' c' : Nat), n' = ws.length - (k + 1) → c' = c - (k + 1) → (k + 1 < ws.length → A' = some ⟨b, o + (k + 1), none⟩) → ∀ w', Below w.heap.size w w' → SlB w' w'.heap.size (.slice A' n' c') (ws.drop (k + 1)) from fun A' n' c' hn hc' hA' w' h => by
    subst hn hc'
    exact slb_from (m := k + 1) (hv.ext h) (by omega) A' hA')
  have hw1 : IntKind.i64.wrap ((k : Int) + 1) = (k : Int) + 1 := by rw [IntKind.wrap_i64]; omega
  have l1 : (1 : Int) ≤ (k : Int) := by omega
  have l2 : (k : Int) ≤ (ws.length : Int) := by omega
  have l3 : (k : Int) + 1 ≤ (ws.length : Int) := by omega
  have l4 : (0 : Int) ≤ (k : Int) + 1 := by omega
  have l5 : ((k : Int) + 1).toNat = k + 1 := by omega
  have l6 : (k : Int) ≤ (c : Int) := by omega
  go_enter Tryz.func54, Tryz.ntmps54
  go_upto_region 2 with fail
  generalize hW : World.alloc (World.alloc w _) _ = W1
  have hbW : Below w.heap.size w W1 := by rw [← hW]; (repeat (first | with_reducible assumption | with_reducible exact Below.refl _ _ | with_reducible refine Below.setCell ?_ (by first | omega | (simp; done) | (simp; omega)) _ | with_reducible refine Below.alloc ?_ (by first | omega | (simp; done) | (simp; omega)) _ | with_reducible refine below_drewN ?_ _ | with_reducible refine Below.drew ?_))
  have hB2 : Blk W1 w.heap.size 26 zS := by rw [← hW]; exact (Blk.new _ _ _).alloc _
  have hB3 : Blk W1 (w.heap.size + 1) 26 zS := by rw [← hW]; exact Blk.new' (by simp)
  clear hW
  have q0 := f0 ⟨W1, hbW⟩
  have E1 := Lib.hid (ER.out ((ws.take k).drop 1) _ W1 (SA.out W1 hbW) (fun s h => by have := hs s (List.mem_of_mem_take (List.mem_of_mem_drop h)); omega))
  have E2 := Lib.hid (fun (A' : Option Addr) (n' c' : Nat) (hn : n' = ws.length - (k + 1)) (hc' : c' = c - (k + 1)) (hA' : k + 1 < ws.length → A' = some ⟨b, o + (k + 1), none⟩) (w' : World) (h : Below w.heap.size w w') => ER.out (ws.drop (k + 1)) _ w' (SB.out A' n' c' hn hc' hA' w' h) (fun s h => by have := hs s (List.mem_of_mem_drop h); omega))
  unfold RdP at E1 E2
  generalize rdX ((ws.take k).drop 1) = X at *
  generalize rdX (ws.drop (k + 1)) = Y at *
  generalize rdOk ((ws.take k).drop 1) = xok at *
  generalize rdOk (ws.drop (k + 1)) = yok at *
  clear SA SB ER
  have hzW := hB3.lt
  go_wp2_with fail
  refine (IX.out _ hbW).mono ?_
  rintro r _ ⟨rfl, rfl⟩
  go_wp2_with fail
  refine (IX.out _ hbW).mono ?_
  rintro r _ ⟨rfl, rfl⟩
  go_wp2_with fail
  refine E1.out.mono ?_
  rintro r w2 ⟨v2, rfl, hT, hb2⟩
  obtain ⟨A2, c2, rfl, hc2, hm2, hs2⟩ := hT.form
  have hF2 := hB2.below hb2 hB2.lt
  have hbw2 := hbW.ext hb2
  have hz2 := hb2.size
  go_upto_region 13 with fail
  generalize hWE : World.alloc _ _ = WE
  have hbE : Below w2.heap.size w2 WE := by rw [← hWE]; (repeat (first | with_reducible assumption | with_reducible exact Below.refl _ _ | with_reducible refine Below.setCell ?_ (by first | omega | (simp; done) | (simp; omega)) _ | with_reducible refine Below.alloc ?_ (by first | omega | (simp; done) | (simp; omega)) _ | with_reducible refine below_drewN ?_ _ | with_reducible refine Below.drew ?_))
  have hB5 : Blk WE w2.heap.size 24 #[.int .i64 X.kind, .int .i64 X.n, .string (bs X.s), .slice A2 X.kids.length c2] := by rw [← hWE]; exact Blk.new _ _ _
  clear hWE
  have hG2 := hF2.below hbE hF2.lt
  have hbwE := hbw2.ext hbE
  have hTE := hT.ext hbE
  have hzE := hB5.lt
  clear hB2 hB3 hF2 hT hbw2 E1 q0 IX
  by_cases hck : c = k + 1
  all_goals
    go_wp2_with fail
    first
      | (have hx1 : c = k + 1 := hck; refine (E2.out (some ⟨b, o, none⟩) (ws.length - (k + 1)) 0 rfl (by omega) (by intro h; omega) _ hbwE).mono ?_; clear hx1)
      | refine (E2.out (some ⟨b, o + (k + 1), none⟩) (ws.length - (k + 1)) (c - (k + 1)) rfl rfl (fun _ => rfl) _ hbwE).mono ?_
    rintro r w4 ⟨v4, rfl, hU, hb4⟩
    obtain ⟨A4, c4, rfl, hc4, hm4, hs4⟩ := hU.form
    have hz4 := hb4.size
    have hb5 := hB5.below hb4 hB5.lt
    have hH2 := hG2.below hb4 hG2.lt
    have hbw4 := hbwE.ext hb4
    go_upto_region 14 with fail
    generalize hWG : World.alloc _ _ = WG
    have hbG : Below w4.heap.size w4 WG := by rw [← hWG]; (repeat (first | with_reducible assumption | with_reducible exact Below.refl _ _ | with_reducible refine Below.setCell ?_ (by first | omega | (simp; done) | (simp; omega)) _ | with_reducible refine Below.alloc ?_ (by first | omega | (simp; done) | (simp; omega)) _ | with_reducible refine below_drewN ?_ _ | with_reducible refine Below.drew ?_))
    have hB6 : Blk WG w4.heap.size 24 #[.int .i64 Y.kind, .int .i64 Y.n, .string (bs Y.s), .slice A4 Y.kids.length c4] := by rw [← hWG]; exact Blk.new _ _ _
    clear hWG
    have hB5' := hb5.below hbG hb5.lt
    have hG2' := hH2.below hbG hH2.lt
    have hbwG := hbw4.ext hbG
    have hzG := hbG.size
    have p0 := hB5'.cell 0; have p1 := hB5'.cell 1; have p2 := hB5'.cell 2; have p3 := hB5'.cell 3
    simp at p0 p1 p2 p3
    have r0 := hB6.cell 0; have r1 := hB6.cell 1; have r2 := hB6.cell 2; have r3 := hB6.cell 3
    simp at r0 r1 r2 r3
    have z0 := (hG2').frozen 0; have z1 := (hG2').frozen 1; have z2 := (hG2').frozen 2; have z3 := (hG2').frozen 3; have z4 := (hG2').frozen 4; have z5 := (hG2').frozen 5; have z6 := (hG2').frozen 6; have z7 := (hG2').frozen 7; have z8 := (hG2').frozen 8; have z9 := (hG2').frozen 9; have z10 := (hG2').frozen 10
    have b0 := (hG2').cell 0; have b1 := (hG2').cell 1; have b2 := (hG2').cell 2; have b3 := (hG2').cell 3; have b4 := (hG2').cell 4; have b5 := (hG2').cell 5; have b6 := (hG2').cell 6; have b7 := (hG2').cell 7; have b8 := (hG2').cell 8; have b9 := (hG2').cell 9; have b10 := (hG2').cell 10
    simp [zS] at b0 b1 b2 b3 b4 b5 b6 b7 b8 b9 b10
    have HX := Lib.hid (And.intro ((hTE.ext hb4).ext hbG) (And.intro (hU.ext hbG) hbwG))
    clear hB5 hb5 hB5' hB6 hG2 hH2 hG2' hTE hU hbw4 hbwG E2
    have hne5 : w.heap.size ≠ w2.heap.size := by omega
    have hne6 : w.heap.size ≠ w4.heap.size := by omega
    cases xok
    · go_wp2_with fail
      refine bodyPost_ret (v := .tuple #[.agg (cS 3 [] [] X.kind X.n X.s (.slice A2 X.kids.length c2) Y.kind Y.n Y.s (.slice A4 Y.kids.length c4)), .bool (false && yok)]) (by simp [results, Tryz.results54, go_sem, cS, bs_nil, *]) rfl ?_
      generalize hWF : World.setCell _ _ _ = WF
      have hK : ∀ b, w.heap.size + 1 ≤ b → WF.heap[b]? = WG.heap[b]? := by
        intro b h1
        rw [← hWF]
        (repeat (first | with_reducible rfl | with_reducible refine (Below.heap_setCell _ _ _ _ (by first | (simp; done) | (simp; omega))).trans ?_ | with_reducible refine (heap_drw _ _).trans ?_))
      have hzF : WF.heap.size = WG.heap.size := by rw [← hWF]; simp
      have hbF : Below w.heap.size w WF := by have hbx := HX.out.2.2; rw [← hWF]; (repeat (first | with_reducible assumption | with_reducible exact Below.refl _ _ | with_reducible refine Below.setCell ?_ (by first | omega | (simp; done) | (simp; omega)) _ | with_reducible refine Below.alloc ?_ (by first | omega | (simp; done) | (simp; omega)) _ | with_reducible refine below_drewN ?_ _ | with_reducible refine Below.drew ?_ | with_reducible refine Below.trans ?_ (Below.mono hbx (by first | omega | (simp; done) | (simp; omega)))))
      exact ⟨_, ⟨3, [], [], X, Y⟩, _, rfl, ⟨A2, A4, c2, c4, WE.heap.size, rfl, by simp, by simp, (HX.out.1.same (fun b h1 h2 => hK b (by omega))).widen (by omega) (by omega), (HX.out.2.1.same (fun b h1 h2 => hK b (by omega))).widen (Nat.le_refl _) (by omega), by omega, by omega⟩, HR.out, hbF⟩
    · go_wp2_with fail
      refine bodyPost_ret (v := .tuple #[.agg (cS 3 [] [] X.kind X.n X.s (.slice A2 X.kids.length c2) Y.kind Y.n Y.s (.slice A4 Y.kids.length c4)), .bool (true && yok)]) (by simp [results, Tryz.results54, go_sem, cS, bs_nil, *]) rfl ?_
      generalize hWF : World.setCell _ _ _ = WF
      have hK : ∀ b, w.heap.size + 1 ≤ b → WF.heap[b]? = WG.heap[b]? := by
        intro b h1
        rw [← hWF]
        (repeat (first | with_reducible rfl | with_reducible refine (Below.heap_setCell _ _ _ _ (by first | (simp; done) | (simp; omega))).trans ?_ | with_reducible refine (heap_drw _ _).trans ?_))
      have hzF : WF.heap.size = WG.heap.size := by rw [← hWF]; simp
      have hbF : Below w.heap.size w WF := by have hbx := HX.out.2.2; rw [← hWF]; (repeat (first | with_reducible assumption | with_reducible exact Below.refl _ _ | with_reducible refine Below.setCell ?_ (by first | omega | (simp; done) | (simp; omega)) _ | with_reducible refine Below.alloc ?_ (by first | omega | (simp; done) | (simp; omega)) _ | with_reducible refine below_drewN ?_ _ | with_reducible refine Below.drew ?_ | with_reducible refine Below.trans ?_ (Below.mono hbx (by first | omega | (simp; done) | (simp; omega)))))
      exact ⟨_, ⟨3, [], [], X, Y⟩, _, rfl, ⟨A2, A4, c2, c4, WE.heap.size, rfl, by simp, by simp, (HX.out.1.same (fun b h1 h2 => hK b (by omega))).widen (by omega) (by omega), (HX.out.2.1.same (fun b h1 h2 => hK b (by omega))).widen (Nat.le_refl _) (by omega), by omega, by omega⟩, HR.out, hbF⟩
theorem spRead_any (ws : List Bytes) (v : Value) (w : World) (hv : SlB w w.heap.size v ws) (hs : ∀ s ∈ ws, s.length ≤ 120) (hl : ws.length ≤ 120) : Calls Tryz.prog 54 #[v] w (RrP ws w) := by
  by_cases h0 : ws = []
  · subst h0
    exact spReadNil_any v w hv
  have hp : 0 < ws.length := List.length_pos_iff.2 h0
  have hg : ws[0]? = some ws[0] := List.getElem?_eq_getElem hp
  generalize ws[0] = x at hg
  by_cases hA : 5 < ws.length ∧ ws[0]? = some cLet ∧ ws[2]? = some [58] ∧ ws[4]? = some [61]
  · exact spReadLet_any ws v w hv hs hA.1 hA.2.1 hA.2.2.1 hA.2.2.2
  by_cases hS : x = cSay
  · subst hS
    exact spReadSay_any ws v w hv hs hg
  by_cases hW : x = cWhen ∧ ∃ k, 0 < k ∧ sayAt ws = some k
  · obtain ⟨rfl, k, h1, h2⟩ := hW
    exact spReadW_any ws v w hv hs hl hg k h2 h1
  · exact spReadNo_any ws v w hv hg hA hS (fun e k h1 h2 => hW ⟨e, k, h1, h2⟩)
end Go.Proofs.YtgakjhaepdigpaaGreatDoor


/- The law's reader of a line. -/
namespace Go.Proofs.YtgakjhaepdigpaaGreatDoor
set_option maxRecDepth 100000
set_option linter.unusedSimpArgs false
set_option linter.unusedVariables false
open Go.RowKit
attribute [local go_sem] bs_toList bs_get bs_size cS

set_option maxHeartbeats 4000000 in
theorem spStmtRead_any (line : Bytes) (w : World) (hs : line.length ≤ 100000000) : Calls Tryz.prog 12 #[.string (bs line)] w (RsA line w) := by
  have WO := Lib.hid (fun (w' : World) => spList_any line w' hs)
  have RS := Lib.hid (fun (ws : List Bytes) (v : Value) (w' : World) (hv : SlB w' w'.heap.size v ws) (h1 : ∀ s ∈ ws, s.length ≤ 120) (h2 : ws.length ≤ 120) => spRead_any ws v w' hv h1 h2)
  have OK := Lib.hid (fun (s : Sm) (v : Value) (w' : World) (hv : SmV w' w'.heap.size v s) => spStmtOk_any s v w' hv)
  have L5 := Lib.hid (fun (s : Sm) (v : Value) (w' : World) (hf : formSB s = true) (hv : SmV w' w'.heap.size v s) => spL5_any s v w' hf hv)
  go_enter Tryz.func12, Tryz.ntmps12
  go_upto_region 1 with fail
  generalize hW : World.alloc w _ = W1
  have hbW : Below w.heap.size w W1 := by rw [← hW]; (repeat (first | with_reducible assumption | with_reducible exact Below.refl _ _ | with_reducible refine Below.setCell ?_ (by first | omega | (simp; done) | (simp; omega)) _ | with_reducible refine Below.alloc ?_ (by first | omega | (simp; done) | (simp; omega)) _ | with_reducible refine below_drewN ?_ _ | with_reducible refine Below.drew ?_))
  have hB2 : Blk W1 w.heap.size 26 zS := by rw [← hW]; exact Blk.new _ _ _
  clear hW
  go_wp2_with fail
  refine (WO.out _).mono ?_
  rintro r w2 ⟨u, ws, ok, rfl, hS, h1, h2, hor, hb2⟩
  have hbw2 := hbW.ext hb2
  have hzW1 := hB2.lt
  have hB2a := hB2.below hb2 hB2.lt
  obtain ⟨A, c, rfl, _, _⟩ := id hS.val
  clear WO hB2
  cases ok
  · have HN := Lib.hid (show rdSOk line = false ∧ rdSm line = SE.none.sm from rdL_none (by rcases hor with ⟨h, _⟩ | ⟨_, h⟩; cases h; exact h))
    have z0 := (hB2a).frozen 0; have z1 := (hB2a).frozen 1; have z2 := (hB2a).frozen 2; have z3 := (hB2a).frozen 3; have z4 := (hB2a).frozen 4; have z5 := (hB2a).frozen 5; have z6 := (hB2a).frozen 6; have z7 := (hB2a).frozen 7; have z8 := (hB2a).frozen 8; have z9 := (hB2a).frozen 9; have z10 := (hB2a).frozen 10
    have b0 := (hB2a).cell 0; have b1 := (hB2a).cell 1; have b2 := (hB2a).cell 2; have b3 := (hB2a).cell 3; have b4 := (hB2a).cell 4; have b5 := (hB2a).cell 5; have b6 := (hB2a).cell 6; have b7 := (hB2a).cell 7; have b8 := (hB2a).cell 8; have b9 := (hB2a).cell 9; have b10 := (hB2a).cell 10
    simp [zS] at b0 b1 b2 b3 b4 b5 b6 b7 b8 b9 b10
    clear hB2a hS h1 h2 hor RS OK L5
    go_wp2_with fail
    refine bodyPost_ret (v := .tuple #[.agg zS, .bool false]) (by simp [results, Tryz.results12, go_sem, zS, bs_nil, *]) rfl ?_
    exact RsA.no HN.out (by (repeat (first | with_reducible assumption | with_reducible exact Below.refl _ _ | with_reducible refine Below.setCell ?_ (by first | omega | (simp; done) | (simp; omega)) _ | with_reducible refine Below.alloc ?_ (by first | omega | (simp; done) | (simp; omega)) _ | with_reducible refine below_drewN ?_ _ | with_reducible refine Below.drew ?_ | with_reducible refine Below.trans ?_ (Below.mono hbw2 (by first | omega | (simp; done) | (simp; omega))))))
  have hlw : lineW line = some ws := by rcases hor with ⟨_, h⟩ | ⟨h, _⟩; exact h; cases h
  have R1 := Lib.hid (RS.out ws _ w2 hS h1 h2)
  clear RS hS h1 h2 hor
  go_wp2_with fail
  refine R1.out.mono ?_
  rintro r w3 ⟨v, s, q, rfl, hT, hRd, hb3⟩
  have hV := hT.smv
  obtain ⟨A1, A2, c1, c2, mid, rfl, hrest⟩ := id hT
  clear hrest
  have hB2' := hB2a.below hb3 (by have := hb2.size; omega)
  have hbw3 := hbw2.ext hb3
  have ANS := Lib.hid (rdL_ans hlw hRd)
  clear hB2a R1 hRd hlw
  go_upto_region 5 with fail
  generalize hWB : World.alloc _ _ = wB
  have hB6 : Blk wB w3.heap.size 26 (cS s.kind s.name s.typ s.ex.kind s.ex.n s.ex.s (.slice A1 s.ex.kids.length c1) s.th.kind s.th.n s.th.s (.slice A2 s.th.kids.length c2)) := by rw [← hWB]; exact Blk.new _ _ _
  have hbB : Below w3.heap.size w3 wB := by rw [← hWB]; (repeat (first | with_reducible assumption | with_reducible exact Below.refl _ _ | with_reducible refine Below.setCell ?_ (by first | omega | (simp; done) | (simp; omega)) _ | with_reducible refine Below.alloc ?_ (by first | omega | (simp; done) | (simp; omega)) _ | with_reducible refine below_drewN ?_ _ | with_reducible refine Below.drew ?_))
  clear hWB
  have hbwB := hbw3.ext hbB
  have hF2 := hB2'.below hbB hB2'.lt
  have O1 := Lib.hid (OK.out s _ wB (hV.ext hbB))
  have T1 := Lib.hid (fun (w' : World) (h : Below wB.heap.size wB w') (hf : formSB s = true) => L5.out s _ w' hf ((hV.ext hbB).ext h))
  have HT := Lib.hid (And.intro hT (And.intro hb3 hbB))
  unfold cS at O1 T1
  clear hV hT OK L5 hb3 hB2'
  cases q
  · have HN := Lib.hid (show rdSOk line = false ∧ rdSm line = SE.none.sm by
      have h1 : rdSOk line = false := by rw [ANS.out.1]; simp
      exact ⟨h1, ANS.out.2.2 h1⟩)
    have z0 := (hF2).frozen 0; have z1 := (hF2).frozen 1; have z2 := (hF2).frozen 2; have z3 := (hF2).frozen 3; have z4 := (hF2).frozen 4; have z5 := (hF2).frozen 5; have z6 := (hF2).frozen 6; have z7 := (hF2).frozen 7; have z8 := (hF2).frozen 8; have z9 := (hF2).frozen 9; have z10 := (hF2).frozen 10
    have b0 := (hF2).cell 0; have b1 := (hF2).cell 1; have b2 := (hF2).cell 2; have b3 := (hF2).cell 3; have b4 := (hF2).cell 4; have b5 := (hF2).cell 5; have b6 := (hF2).cell 6; have b7 := (hF2).cell 7; have b8 := (hF2).cell 8; have b9 := (hF2).cell 9; have b10 := (hF2).cell 10
    simp [zS] at b0 b1 b2 b3 b4 b5 b6 b7 b8 b9 b10
    clear ANS O1 T1 hB6 hF2
    go_wp2_with fail
    refine bodyPost_ret (v := .tuple #[.agg zS, .bool false]) (by simp [results, Tryz.results12, go_sem, zS, bs_nil, *]) rfl ?_
    exact RsA.no HN.out (by (repeat (first | with_reducible assumption | with_reducible exact Below.refl _ _ | with_reducible refine Below.setCell ?_ (by first | omega | (simp; done) | (simp; omega)) _ | with_reducible refine Below.alloc ?_ (by first | omega | (simp; done) | (simp; omega)) _ | with_reducible refine below_drewN ?_ _ | with_reducible refine Below.drew ?_ | with_reducible refine Below.trans ?_ (Below.mono hbwB (by first | omega | (simp; done) | (simp; omega))))))
  have y0 := (hB6).frozen 0; have y1 := (hB6).frozen 1; have y2 := (hB6).frozen 2; have y3 := (hB6).frozen 3; have y4 := (hB6).frozen 4; have y5 := (hB6).frozen 5; have y6 := (hB6).frozen 6; have y7 := (hB6).frozen 7; have y8 := (hB6).frozen 8; have y9 := (hB6).frozen 9; have y10 := (hB6).frozen 10
  have d0 := (hB6).cell 0; have d1 := (hB6).cell 1; have d2 := (hB6).cell 2; have d3 := (hB6).cell 3; have d4 := (hB6).cell 4; have d5 := (hB6).cell 5; have d6 := (hB6).cell 6; have d7 := (hB6).cell 7; have d8 := (hB6).cell 8; have d9 := (hB6).cell 9; have d10 := (hB6).cell 10
  simp [cS] at d0 d1 d2 d3 d4 d5 d6 d7 d8 d9 d10
  cases hk : smOkB s
  · have HN := Lib.hid (show rdSOk line = false ∧ rdSm line = SE.none.sm by
      have h1 : rdSOk line = false := by rw [ANS.out.1, hk]; simp
      exact ⟨h1, ANS.out.2.2 h1⟩)
    rw [hk] at O1
    clear T1
    go_wp2_with fail
    refine O1.out.mono ?_
    rintro r w4 ⟨rfl, hb4⟩
    have hG2 := hF2.below hb4 hF2.lt
    have hbw4 := hbwB.ext hb4
    have z0 := (hG2).frozen 0; have z1 := (hG2).frozen 1; have z2 := (hG2).frozen 2; have z3 := (hG2).frozen 3; have z4 := (hG2).frozen 4; have z5 := (hG2).frozen 5; have z6 := (hG2).frozen 6; have z7 := (hG2).frozen 7; have z8 := (hG2).frozen 8; have z9 := (hG2).frozen 9; have z10 := (hG2).frozen 10
    have b0 := (hG2).cell 0; have b1 := (hG2).cell 1; have b2 := (hG2).cell 2; have b3 := (hG2).cell 3; have b4 := (hG2).cell 4; have b5 := (hG2).cell 5; have b6 := (hG2).cell 6; have b7 := (hG2).cell 7; have b8 := (hG2).cell 8; have b9 := (hG2).cell 9; have b10 := (hG2).cell 10
    simp [zS] at b0 b1 b2 b3 b4 b5 b6 b7 b8 b9 b10
    clear hB6 hF2 hG2 d0 d1 d2 d3 d4 d5 d6 d7 d8 d9 d10
    go_wp2_with fail
    refine bodyPost_ret (v := .tuple #[.agg zS, .bool false]) (by simp [results, Tryz.results12, go_sem, zS, bs_nil, *]) rfl ?_
    exact RsA.no HN.out (by (repeat (first | with_reducible assumption | with_reducible exact Below.refl _ _ | with_reducible refine Below.setCell ?_ (by first | omega | (simp; done) | (simp; omega)) _ | with_reducible refine Below.alloc ?_ (by first | omega | (simp; done) | (simp; omega)) _ | with_reducible refine below_drewN ?_ _ | with_reducible refine Below.drew ?_ | with_reducible refine Below.trans ?_ (Below.mono hbw4 (by first | omega | (simp; done) | (simp; omega))))))
  · rw [hk] at O1
    have hform : formSB s = true := by have h := hk; rw [smOkB_form, Bool.and_eq_true] at h; exact h.1
    have AN := Lib.hid (show (smText s = line → rdSOk line = true ∧ rdSm line = s) ∧ (smText s ≠ line → rdSOk line = false ∧ rdSm line = SE.none.sm) from
      ⟨fun h => by
        have h1 : rdSOk line = true := by simp [ANS.out.1, hk, h]
        exact ⟨h1, ANS.out.2.1 h1⟩, fun h => by
        have h1 : rdSOk line = false := by simp [ANS.out.1, hk, h]
        exact ⟨h1, ANS.out.2.2 h1⟩⟩)
    have HTK := Lib.hid (fun (A : Value) (w' : World) (h : SlB w' w'.heap.size A (smWords s)) => spTokText_any (smWords s) A w' h (by have := smText_lt hform; exact this))
    have hst : smText s = joinL (smWords s) := rfl
    rw [← hst] at HTK
    have T2 := Lib.hid (fun (w' : World) (h : Below wB.heap.size wB w') => T1.out w' h hform)
    clear ANS T1 hst
    generalize smText s = tx at *
    go_wp2_with fail
    refine O1.out.mono ?_
    rintro r w4 ⟨rfl, hb4⟩
    have hG2 := hF2.below hb4 hF2.lt
    have hG6 := hB6.below hb4 hB6.lt
    have hbw4 := hbwB.ext hb4
    clear d0 d1 d2 d3 d4 d5 d6 d7 d8 d9 d10 y0 y1 y2 y3 y4 y5 y6 y7 y8 y9 y10 hB6 hF2
    have y0 := (hG6).frozen 0; have y1 := (hG6).frozen 1; have y2 := (hG6).frozen 2; have y3 := (hG6).frozen 3; have y4 := (hG6).frozen 4; have y5 := (hG6).frozen 5; have y6 := (hG6).frozen 6; have y7 := (hG6).frozen 7; have y8 := (hG6).frozen 8; have y9 := (hG6).frozen 9; have y10 := (hG6).frozen 10
    have d0 := (hG6).cell 0; have d1 := (hG6).cell 1; have d2 := (hG6).cell 2; have d3 := (hG6).cell 3; have d4 := (hG6).cell 4; have d5 := (hG6).cell 5; have d6 := (hG6).cell 6; have d7 := (hG6).cell 7; have d8 := (hG6).cell 8; have d9 := (hG6).cell 9; have d10 := (hG6).cell 10
    simp [cS] at d0 d1 d2 d3 d4 d5 d6 d7 d8 d9 d10
    go_wp2_with fail
    refine (T2.out _ hb4).mono ?_
    rintro r w5 ⟨u5, rfl, hW5, hb5⟩
    have hSl := hW5.sl (fun _ => rfl)
    obtain ⟨A5, c5, rfl, _, _⟩ := id hSl.val
    have TK := Lib.hid (HTK.out _ w5 hSl)
    clear hW5 hSl HTK
    go_wp2_with fail
    refine TK.out.mono ?_
    rintro r _ ⟨rfl, rfl⟩
    have hH2 := hG2.below hb5 hG2.lt
    have hH6 := hG6.below hb5 hG6.lt
    have hbw5 := hbw4.ext hb5
    have hb35 := HT.out.2.2.ext (hb4.ext hb5)
    clear d0 d1 d2 d3 d4 d5 d6 d7 d8 d9 d10 y0 y1 y2 y3 y4 y5 y6 y7 y8 y9 y10 hG6 hG2
    have y0 := (hH6).frozen 0; have y1 := (hH6).frozen 1; have y2 := (hH6).frozen 2; have y3 := (hH6).frozen 3; have y4 := (hH6).frozen 4; have y5 := (hH6).frozen 5; have y6 := (hH6).frozen 6; have y7 := (hH6).frozen 7; have y8 := (hH6).frozen 8; have y9 := (hH6).frozen 9; have y10 := (hH6).frozen 10
    have d0 := (hH6).cell 0; have d1 := (hH6).cell 1; have d2 := (hH6).cell 2; have d3 := (hH6).cell 3; have d4 := (hH6).cell 4; have d5 := (hH6).cell 5; have d6 := (hH6).cell 6; have d7 := (hH6).cell 7; have d8 := (hH6).cell 8; have d9 := (hH6).cell 9; have d10 := (hH6).cell 10
    simp [cS] at d0 d1 d2 d3 d4 d5 d6 d7 d8 d9 d10
    have z0 := (hH2).frozen 0; have z1 := (hH2).frozen 1; have z2 := (hH2).frozen 2; have z3 := (hH2).frozen 3; have z4 := (hH2).frozen 4; have z5 := (hH2).frozen 5; have z6 := (hH2).frozen 6; have z7 := (hH2).frozen 7; have z8 := (hH2).frozen 8; have z9 := (hH2).frozen 9; have z10 := (hH2).frozen 10
    have b0 := (hH2).cell 0; have b1 := (hH2).cell 1; have b2 := (hH2).cell 2; have b3 := (hH2).cell 3; have b4 := (hH2).cell 4; have b5 := (hH2).cell 5; have b6 := (hH2).cell 6; have b7 := (hH2).cell 7; have b8 := (hH2).cell 8; have b9 := (hH2).cell 9; have b10 := (hH2).cell 10
    simp [zS] at b0 b1 b2 b3 b4 b5 b6 b7 b8 b9 b10
    have hlt2 := hH2.lt
    clear hH6 hH2
    by_cases he : tx = line
    · have hne : (tx == line) = true := by simp [he]
      have hAN := Lib.hid (AN.out.1 he)
      clear AN he
      go_wp2_with fail
      refine bodyPost_ret (v := .tuple #[.agg (cS s.kind s.name s.typ s.ex.kind s.ex.n s.ex.s (.slice A1 s.ex.kids.length c1) s.th.kind s.th.n s.th.s (.slice A2 s.th.kids.length c2)), .bool true]) (by simp [results, Tryz.results12, go_sem, cS, bs_nil, *]) rfl ?_
      generalize hWF : World.setCell _ _ _ = WF
      have hK : ∀ b, w.heap.size + 1 ≤ b → WF.heap[b]? = w5.heap[b]? := by
        intro b h1
        rw [← hWF]
        (repeat (first | with_reducible rfl | with_reducible refine (Below.heap_setCell _ _ _ _ (by first | (simp; done) | (simp; omega))).trans ?_ | with_reducible refine (heap_drw _ _).trans ?_))
      have hzF : WF.heap.size = w5.heap.size := by rw [← hWF]; simp
      have hbF : Below w.heap.size w WF := by rw [← hWF]; (repeat (first | with_reducible assumption | with_reducible exact Below.refl _ _ | with_reducible refine Below.setCell ?_ (by first | omega | (simp; done) | (simp; omega)) _ | with_reducible refine Below.alloc ?_ (by first | omega | (simp; done) | (simp; omega)) _ | with_reducible refine below_drewN ?_ _ | with_reducible refine Below.drew ?_ | with_reducible refine Below.trans ?_ (Below.mono hbw5 (by first | omega | (simp; done) | (simp; omega)))))
      have hz1 := hb35.size
      have hz0 := hb2.size
      have hzW := hbw2.size
      exact ⟨_, by rw [hAN.out.1], by rw [hAN.out.2]; exact ((HT.out.1.ext hb35).same (fun b h1 h2 => hK b (by omega))).widen (by omega) (by omega), hbF⟩
    · have hne : (tx == line) = false := by simp [he]
      have hAN := Lib.hid (AN.out.2 he)
      clear AN he d0 d1 d2 d3 d4 d5 d6 d7 d8 d9 d10 y0 y1 y2 y3 y4 y5 y6 y7 y8 y9 y10
      go_wp2_with fail
      refine bodyPost_ret (v := .tuple #[.agg zS, .bool false]) (by simp [results, Tryz.results12, go_sem, zS, bs_nil, *]) rfl ?_
      exact RsA.no hAN.out (by (repeat (first | with_reducible assumption | with_reducible exact Below.refl _ _ | with_reducible refine Below.setCell ?_ (by first | omega | (simp; done) | (simp; omega)) _ | with_reducible refine Below.alloc ?_ (by first | omega | (simp; done) | (simp; omega)) _ | with_reducible refine below_drewN ?_ _ | with_reducible refine Below.drew ?_ | with_reducible refine Below.trans ?_ (Below.mono hbw5 (by first | omega | (simp; done) | (simp; omega))))))
end Go.Proofs.YtgakjhaepdigpaaGreatDoor
