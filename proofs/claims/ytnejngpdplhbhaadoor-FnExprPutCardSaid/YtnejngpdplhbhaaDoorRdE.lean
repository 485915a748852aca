
/- The program's reader of words, asked of any words: what is read is what was written. -/
import Derived.Test.YtnejngpdplhbhaaDoorRdH
import Derived.Test.YtnejngpdplhbhaaDoorStrs
import Derived.Test.YtnejngpdplhbhaaDoorOkE
namespace Go.Proofs.YtnejngpdplhbhaaDoor
set_option maxRecDepth 100000
set_option linter.unusedSimpArgs false
set_option linter.unusedVariables false
open Go.RowKit
attribute [local go_sem] bs_toList bs_get bs_size

theorem imExprWords_any (e : E) (v : Value) (w : World) (hok : e.Ok) (hv : ExV w w.heap.size v e.ex) (hE : Env w) : Calls Tryd.prog 13 #[v] w fun r w' => ∃ u, r = .returned u ∧ SlB w' w'.heap.size u (e.words 1) ∧ Below w.heap.size w w' := by
  obtain ⟨kv, rfl, hs, hx⟩ := id hv
  obtain ⟨A, c, rfl, hc, hm⟩ := hx.val
  have OK := Lib.hid (fun (w' : World) (h : Below w.heap.size w w') => imOk_any e.ex _ w' ((hv.keep h (Nat.le_refl _)).more h.size) (hE.ext h))
  rw [E.ok_iff.2 ⟨e, rfl, hok⟩] at OK
  have W0 := Lib.hid (fun (w' : World) (p : Nat) (h : Below w.heap.size w w') (hp : w.heap.size ≤ p) (hb : Blk w' p 3 #[.int .i64 ((0 : Nat) : Int)]) => imW_any e 0 _ w' p 0 w.heap.size hok.1 (by have := hok.2.2; omega) (by have := hok.2.2; omega) (by omega) (hv.keep h (Nat.le_refl _)) hp hb (hE.envB.keep h))
  have hlw := E.words_len e 0
  have hcn := hok.2.2
  have hw0 := E.words_zero e
  have hlw : (e.words 0).length ≤ 58 := by omega
  have HW := Lib.hid (And.intro hlw hw0)
  have hB1 := Blk.new w 25 #[.int .i64 e.ex.kind, .int .i64 e.ex.n, .string (bs e.ex.s), .slice A e.ex.kids.length c]
  clear hv hx hE hlw hw0 hcn
  go_enter Tryd.func13, Tryd.ntmps13
  go_wp2_with fail
  refine (OK.out _ (by (repeat (first | with_reducible assumption | with_reducible exact Below.refl _ _ | with_reducible refine Below.setCell ?_ (by first | omega | (simp; done) | (simp; omega)) _ | with_reducible refine Below.alloc ?_ (by first | omega | (simp; done) | (simp; omega)) _ | with_reducible refine below_drewN ?_ _ | with_reducible refine Below.drew ?_)))).mono ?_
  rintro r w1 ⟨rfl, hb1⟩
  skip; replace hB1 := hB1.below hb1 hB1.lt
  have hbw1 : Below w.heap.size w w1 := by (repeat (first | with_reducible assumption | with_reducible exact Below.refl _ _ | with_reducible refine Below.setCell ?_ (by first | omega | (simp; done) | (simp; omega)) _ | with_reducible refine Below.alloc ?_ (by first | omega | (simp; done) | (simp; omega)) _ | with_reducible refine below_drewN ?_ _ | with_reducible refine Below.drew ?_ | with_reducible refine Below.trans ?_ (Below.mono hb1 (by first | omega | (simp; done) | (simp; omega)))))
  have hz1 := hB1.lt
  have hbw1a : Below w.heap.size w (w1.alloc (.cells #[.int .i64 0] 3)) := by (repeat (first | with_reducible assumption | with_reducible exact Below.refl _ _ | with_reducible refine Below.setCell ?_ (by first | omega | (simp; done) | (simp; omega)) _ | with_reducible refine Below.alloc ?_ (by first | omega | (simp; done) | (simp; omega)) _ | with_reducible refine below_drewN ?_ _ | with_reducible refine Below.drew ?_ | with_reducible refine Below.trans ?_ (Below.mono hbw1 (by first | omega | (simp; done) | (simp; omega)))))
  have C := Lib.hid (W0.out _ w1.heap.size hbw1a (by omega) (Blk.new w1 _ _))
  skip; have pa0 := hB1.cell 0; have pa1 := hB1.cell 1; have pa2 := hB1.cell 2; have pa3 := hB1.cell 3; simp at pa0 pa1 pa2 pa3
  clear hb1 OK W0
  go_wp2_with fail
  refine C.out.mono ?_
  rintro r w2 ⟨u, m, n', rfl, hG, hM, hg2, hB2, hn1, hn2⟩
  have hml : m.length ≤ 100 := by
    have h1 := congrArg List.length hM
    rw [List.length_map] at h1
    have := HW.out.1
    omega
  have hS2 := hG.sl (fun _ => rfl)
  have hbw2 : Below w.heap.size w w2 := hbw1a.trans (below_of_grown hg2 (by omega) (by simp))
  have BW := Lib.hid (bareWords_any m u w2 hS2 (by omega))
  rw [hM, HW.out.2] at BW
  obtain ⟨A2, c2, rfl, _, _⟩ := hS2.val
  clear hG hM hg2 hB2 hS2 C
  go_wp2_with fail
  refine BW.out.mono ?_
  rintro r w3 ⟨u3, rfl, hS3, hb3⟩
  go_wp2_with fail
  go_ret
  exact ⟨u3, rfl, hS3, hbw2.ext hb3⟩
/-- what a reader tells: the tree, whether it is one -/
def RdP (ws : List Bytes) (w : World) (e : Ending) (w' : World) : Prop := ∃ v, e = .returned (.tuple #[v, .bool (rdOk ws)]) ∧ TrM w.heap.size w'.heap.size w' v (rdX ws) ∧ Below w.heap.size w w'
theorem rdX_none {ws : List Bytes} (h : rdE ws = none) : rdX ws = Ex.none := by unfold rdX; rw [h]
theorem rdOk_none {ws : List Bytes} (h : rdE ws = none) : rdOk ws = false := by unfold rdOk; rw [h]; rfl
theorem rdX_some {ws : List Bytes} {e : E} (h : rdE ws = some e) : rdX ws = e.ex := by unfold rdX; rw [h]
theorem rdOk_some {ws : List Bytes} {e : E} (h : rdE ws = some e) : rdOk ws = true := by unfold rdOk; rw [h]; rfl
theorem RdP.no {ws : List Bytes} {w w' : World} (h : rdE ws = none) (hb : Below w.heap.size w w') : RdP ws w (.returned (.tuple #[.agg #[.int .i64 0, .int .i64 0, .string ⟨#[]⟩, .slice none 0 0], .bool false])) w' :=
  ⟨_, by rw [rdOk_none h], by rw [rdX_none h]; exact TrM.leaf _ _ _ 0 0 [] (by simp), hb⟩
end Go.Proofs.YtnejngpdplhbhaaDoor
