
/- The program's words of a tree, in a row of the call's own. -/
import Derived.Test.YtgakjhaepdigpaaGreatDoorSnE
import Derived.Test.YtgakjhaepdigpaaGreatDoorImWs
import Derived.Test.YtgakjhaepdigpaaGreatDoorRdE
namespace Go.Proofs.YtgakjhaepdigpaaGreatDoor
set_option maxRecDepth 100000
set_option linter.unusedSimpArgs false
set_option linter.unusedVariables false
open Go.RowKit
attribute [local go_sem] bs_toList bs_get bs_size

set_option maxHeartbeats 1000000 in
theorem bareWordsG_any (m : List Src) (v : Value) (W : World) (hv : SlC W W.heap.size v m) (hl : m.length ≤ 1000) :
    Calls Tryz.prog 84 #[v] W fun r w' => ∃ u, r = .returned u ∧ GtS W.heap.size w' u (m.map (·.1)) ∧ Below W.heap.size W w' := by
  obtain ⟨A, c, rfl, hc, hm⟩ := hv.val
  obtain ⟨i0, hi, hz0, hz1, hz2⟩ := info_parts infoStr
  have hmk := fun W => run_make_rowN (P := Tryz.prog) 45 9 i0 _ Tryz.underlying45 hi hz0 .i64 .i64 m.length m.length (Nat.le_refl _) (by rw [hz2]; omega) (by omega) W
  rw [hz1] at hmk
  clear hi hz0 hz1 hz2
  go_enter Tryz.func84, Tryz.ntmps84
  go_wp2_with fail
  go_loopg [11] m.length (fun k p wr => ∃ (j : Nat) (cur : Array Value), k = m.length - j ∧ j ≤ m.length ∧ p = .int .i64 j ∧ Blk wr W.heap.size 9 cur ∧ cur.size = m.length ∧ (∀ t x, t < j → m[t]? = some x → cur[t]? = some (.string (bs x.1))) ∧ Below W.heap.size W wr)
  case atStart => exact ⟨0, _, by omega, by omega, rfl, Blk.new _ _ _, by simp [size_madeCells], fun t x h => by omega, by (repeat (first | with_reducible assumption | with_reducible exact Below.refl _ _ | with_reducible refine Below.setCell ?_ (by first | omega | (simp; done) | (simp; omega)) _ | with_reducible refine Below.alloc ?_ (by first | omega | (simp; done) | (simp; omega)) _ | with_reducible refine below_drewN ?_ _ | with_reducible refine Below.drew ?_))⟩
  case round =>
    obtain ⟨j, cur, hk, hj, rfl, hB, hsz, ha, hbl⟩ := hrel
    have HK := Lib.hid (And.intro hk (And.intro hsz ha))
    clear hk hsz ha
    have hbz := hB.lt
    by_cases hlt : j < m.length
    · obtain ⟨b, o, s, q, rfl, hb, hg, f0, f1⟩ := src_at hv hlt
      have g0 := f0 ⟨wr, hbl⟩; have g1 := f1 ⟨wr, hbl⟩
      have HG := Lib.hid hg
      clear f0 f1 hg
      have hB2 := hB.alloc (.cells #[.string (bs s), .int .i64 q] 144)
      obtain ⟨y0, hy0⟩ : ∃ y, (wr.alloc (.cells #[.string (bs s), .int .i64 q] 144)).cell? ⟨W.heap.size, j, none⟩ = some y := ⟨_, (hB2.cell _).trans (Array.getElem?_eq_getElem (by have := HK.out.2.1; omega))⟩
      have hfz := hB2.frozen j
      have hne : W.heap.size ≠ wr.heap.size := by omega
      go_wp2_with fail
      go_roundg (m.length - (j + 1))
      case measure => have := HK.out.1; omega
      case rel =>
        refine ⟨j + 1, cur.setIfInBounds j (.string (bs s)), rfl, by omega, by go_num, (hB.set_ j _).alloc _, by simp [HK.out.2.1], fun t x ht hx => ?_, by (repeat (first | with_reducible assumption | with_reducible exact Below.refl _ _ | with_reducible refine Below.setCell ?_ (by first | omega | (simp; done) | (simp; omega)) _ | with_reducible refine Below.alloc ?_ (by first | omega | (simp; done) | (simp; omega)) _ | with_reducible refine below_drewN ?_ _ | with_reducible refine Below.drew ?_ | with_reducible refine Below.trans ?_ (Below.mono hbl (by first | omega | (simp; done) | (simp; omega)))))⟩
        by_cases e : t = j
        · subst e
          rw [HG.out] at hx
          obtain rfl := Option.some.inj hx
          rw [Array.getElem?_setIfInBounds_self_of_lt (by have := HK.out.2.1; omega)]
        · rw [Array.getElem?_setIfInBounds_ne (fun h => e h.symm)]
          exact HK.out.2.2 t x (by omega) hx
    · obtain rfl : j = m.length := by omega
      go_wp2_with fail
      go_ret
      refine ⟨_, rfl, ?_, hbl⟩
      have h1 := HK.out.2.1
      have h2 := HK.out.2.2
      have hfl := flat_len (row := strRow) (k := 1) (fun _ => rfl) (m.map (·.1))
      refine ⟨hfl, .inr ⟨W.heap.size, m.length, cur, by rw [List.length_map]; rfl, Nat.le_refl _, hB, by rw [List.length_map]; exact Nat.le_refl _, by unfold maxLen; omega, by omega, ?_⟩⟩
      rw [List.take_of_length_le (by simp [h1])]
      apply List.ext_getElem?
      intro n
      rw [Array.getElem?_toList]
      by_cases hn : n < m.length
      · have h3 := h2 n m[n] hn (List.getElem?_eq_getElem hn)
        rw [h3]
        have h4 := flat_at' (row := strRow) (k := 1) (fun _ => rfl) (m.map (·.1)) n (m[n]).1 (by rw [List.getElem?_map, List.getElem?_eq_getElem hn]; rfl) 0 _ rfl
        rw [Nat.mul_one, Nat.add_zero] at h4
        exact h4.symm
      · rw [Array.getElem?_eq_none (by omega), List.getElem?_eq_none (by rw [hfl, List.length_map]; omega)]
set_option maxHeartbeats 1000000 in
theorem imExprWordsG_any (e : E) (v : Value) (w : World) (hok : e.Ok) (hv : ExV w w.heap.size v e.ex) (hE : Env w) : Calls Tryz.prog 32 #[v] w fun r w' => ∃ u, r = .returned u ∧ GtS w.heap.size w' u (e.words 1) ∧ Below w.heap.size w w' := by
  obtain ⟨kv, rfl, hs, hx⟩ := id hv
  obtain ⟨A, c, rfl, hc, hm⟩ := hx.val
  have OK := Lib.hid (fun (w' : World) (h : Below w.heap.size w w') => imOk_any e.ex _ w' ((hv.keep h (Nat.le_refl _)).more h.size) (hE.ext h))
  rw [E.ok_iff.2 ⟨e, rfl, hok⟩] at OK
  have W0 := Lib.hid (fun (w' : World) (p : Nat) (h : Below w.heap.size w w') (hp : w.heap.size ≤ p) (hb : Blk w' p 3 #[.int .i64 ((0 : Nat) : Int)]) => imW_any e 0 _ w' p 0 w.heap.size hok.1 (by have := hok.2.2; omega) (by have := hok.2.2; omega) (by omega) (hv.keep h (Nat.le_refl _)) hp hb (hE.envB.keep h))
  have hlw := E.words_len e 0
  have hcn := hok.2.2
  have hw0 := E.words_zero e
  have hlw : (e.words 0).length ≤ 58 := by omega
  have HW := Lib.hid (And.intro hlw hw0)
  have hB1 := Blk.new w 24 #[.int .i64 e.ex.kind, .int .i64 e.ex.n, .string (bs e.ex.s), .slice A e.ex.kids.length c]
  clear hv hx hE hlw hw0 hcn
  go_enter Tryz.func32, Tryz.ntmps32
  go_wp2_with fail
  refine (OK.out _ (by (repeat (first | with_reducible assumption | with_reducible exact Below.refl _ _ | with_reducible refine Below.setCell ?_ (by first | omega | (simp; done) | (simp; omega)) _ | with_reducible refine Below.alloc ?_ (by first | omega | (simp; done) | (simp; omega)) _ | with_reducible refine below_drewN ?_ _ | with_reducible refine Below.drew ?_)))).mono ?_
  rintro r w1 ⟨rfl, hb1⟩
  skip; replace hB1 := hB1.below hb1 hB1.lt
  have hbw1 : Below w.heap.size w w1 := by (repeat (first | with_reducible assumption | with_reducible exact Below.refl _ _ | with_reducible refine Below.setCell ?_ (by first | omega | (simp; done) | (simp; omega)) _ | with_reducible refine Below.alloc ?_ (by first | omega | (simp; done) | (simp; omega)) _ | with_reducible refine below_drewN ?_ _ | with_reducible refine Below.drew ?_ | with_reducible refine Below.trans ?_ (Below.mono hb1 (by first | omega | (simp; done) | (simp; omega)))))
  have hz1 := hB1.lt
  have hbw1a : Below w.heap.size w (w1.alloc (.cells #[.int .i64 0] 3)) := by (repeat (first | with_reducible assumption | with_reducible exact Below.refl _ _ | with_reducible refine Below.setCell ?_ (by first | omega | (simp; done) | (simp; omega)) _ | with_reducible refine Below.alloc ?_ (by first | omega | (simp; done) | (simp; omega)) _ | with_reducible refine below_drewN ?_ _ | with_reducible refine Below.drew ?_ | with_reducible refine Below.trans ?_ (Below.mono hbw1 (by first | omega | (simp; done) | (simp; omega)))))
  have C := Lib.hid (W0.out _ w1.heap.size hbw1a (by omega) (Blk.new w1 _ _))
  skip; have pa0 := hB1.cell 0; have pa1 := hB1.cell 1; have pa2 := hB1.cell 2; have pa3 := hB1.cell 3; simp at pa0 pa1 pa2 pa3
  clear hb1 OK W0
  go_wp2_with fail
  refine C.out.mono ?_
  rintro r w2 ⟨u, m, n', rfl, hG, hM, hg2, hB2, hn1, hn2⟩
  have hml : m.length ≤ 100 := by
    have h1 := congrArg List.length hM
    rw [List.length_map] at h1
    have := HW.out.1
    omega
  have hS2 := hG.sl (fun _ => rfl)
  have hbw2 : Below w.heap.size w w2 := hbw1a.trans (below_of_grown hg2 (by omega) (by simp))
  have BW := Lib.hid (bareWordsG_any m u w2 hS2 (by omega))
  rw [hM, HW.out.2] at BW
  obtain ⟨A2, c2, rfl, _, _⟩ := hS2.val
  clear hG hM hg2 hB2 hS2 C
  go_wp2_with fail
  refine BW.out.mono ?_
  rintro r w3 ⟨u3, rfl, hS3, hb3⟩
  go_wp2_with fail
  go_ret
  exact ⟨u3, rfl, hS3.less hbw2.size, hbw2.ext hb3⟩
theorem imEWno_any (x : Ex) (v : Value) (w : World) (hx : exOkB x = false) (hv : ExV w w.heap.size v x) (hE : Env w) : Calls Tryz.prog 32 #[v] w fun r w' => r = .returned (.slice none 0 0) ∧ Below w.heap.size w w' := by
  obtain ⟨A, c, rfl, hc, hcm, hs, hk⟩ := hv.form4n
  have OK := Lib.hid (fun (w' : World) (h : Below w.heap.size w w') => imOk_any x _ w' ((hv.keep h (Nat.le_refl _)).more h.size) (hE.ext h))
  rw [hx] at OK
  clear hv hk hx
  go_enter Tryz.func32, Tryz.ntmps32
  go_wp2_with fail
  refine (OK.out _ (by (repeat (first | with_reducible assumption | with_reducible exact Below.refl _ _ | with_reducible refine Below.setCell ?_ (by first | omega | (simp; done) | (simp; omega)) _ | with_reducible refine Below.alloc ?_ (by first | omega | (simp; done) | (simp; omega)) _ | with_reducible refine below_drewN ?_ _ | with_reducible refine Below.drew ?_)))).mono ?_
  rintro r w1 ⟨rfl, hb1⟩
  have hbw1 : Below w.heap.size w w1 := by (repeat (first | with_reducible assumption | with_reducible exact Below.refl _ _ | with_reducible refine Below.setCell ?_ (by first | omega | (simp; done) | (simp; omega)) _ | with_reducible refine Below.alloc ?_ (by first | omega | (simp; done) | (simp; omega)) _ | with_reducible refine below_drewN ?_ _ | with_reducible refine Below.drew ?_ | with_reducible refine Below.trans ?_ (Below.mono hb1 (by first | omega | (simp; done) | (simp; omega)))))
  have hzw1 := hbw1.size
  go_wp2_with fail
  go_ret
  exact ⟨rfl, by (repeat (first | with_reducible assumption | with_reducible exact Below.refl _ _ | with_reducible refine Below.setCell ?_ (by first | omega | (simp; done) | (simp; omega)) _ | with_reducible refine Below.alloc ?_ (by first | omega | (simp; done) | (simp; omega)) _ | with_reducible refine below_drewN ?_ _ | with_reducible refine Below.drew ?_ | with_reducible refine Below.trans ?_ (Below.mono hbw1 (by first | omega | (simp; done) | (simp; omega)))))⟩
/-- the words of any tree, in a row of the call's own -/
theorem imEWG_any (x : Ex) (v : Value) (w : World) (hv : ExV w w.heap.size v x) (hE : Env w) : Calls Tryz.prog 32 #[v] w fun r w' => ∃ u, r = .returned u ∧ GtS w.heap.size w' u (exW x) ∧ Below w.heap.size w w' := by
  by_cases hx : exOkB x = true
  · obtain ⟨e, rfl, he⟩ := E.ok_iff.1 hx
    rw [exW_yes he]
    exact imExprWordsG_any e v w he hv hE
  · replace hx : exOkB x = false := by simpa using hx
    rw [exW_no hx]
    exact (imEWno_any x v w hx hv hE).mono fun r w' ⟨h1, h2⟩ => ⟨_, h1, Gt.nil _ _ _ _ _, h2⟩
end Go.Proofs.YtgakjhaepdigpaaGreatDoor
