
/- The words of what is reckoned: the program's, each with the number of its part. -/
import Derived.Test.YtgakjhaepdigpaaGreatDoorZm10
import Derived.Test.YtgakjhaepdigpaaGreatDoorZm8
import Derived.Test.YtgakjhaepdigpaaGreatDoorStSp
import Derived.Deep.CutBlock
namespace Go.Proofs.YtgakjhaepdigpaaGreatDoor
set_option maxRecDepth 100000
set_option linter.unusedSimpArgs false
set_option linter.unusedVariables false
open Go.RowKit
attribute [local go_sem] bs_toList bs_get bs_size

theorem grown_al {a w : World} {r : Option Nat} (h : a.grownBy w r) (o : Obj) : a.grownBy (w.alloc o) r :=
  grown_tr h ⟨rfl, rfl, rfl, by simp, fun k hk _ => Below.heap_alloc w o k hk⟩
theorem grown_dr {a w : World} {r : Option Nat} (h : a.grownBy w r) : a.grownBy w.drew r := ⟨h.os, h.tape, h.output, h.size, h.block⟩
theorem grown_app {a b c : World} {p : Nat} {r : Option Nat} (h : a.grownBy b (some p)) (hg : b.grownBy c r) (hr : ∀ k, r = some k → a.heap.size ≤ k) : a.grownBy c (some p) :=
  ⟨hg.os.trans h.os, hg.tape.trans h.tape, hg.output.trans h.output, Nat.le_trans h.size hg.size, fun k hk hne => (hg.block k (Nat.lt_of_lt_of_le hk h.size) (fun e => by have := hr k e.symm; omega)).trans (h.block k hk hne)⟩
theorem blk_app {b c : World} {p : Nat} {t : TypeId} {cs : Array Value} {r : Option Nat} (h : Blk b p t cs) (hg : b.grownBy c r) (hr : ∀ k, r = some k → p ≠ k) : Blk c p t cs :=
  (hg.block p h.lt (fun e => hr p e.symm rfl)).trans h
/-- what the program's words tells -/
def WP (wd : List Bytes) (cn p n : Nat) (w : World) (r : Ending) (w' : World) : Prop :=
  ∃ (u : Value) (m : List Src) (n' : Nat), r = .returned u ∧ GtC w.heap.size w' u m ∧ m.map (·.1) = wd ∧ w.grownBy w' (some p) ∧ Blk w' p 3 #[.int .i64 (n' : Int)] ∧ n ≤ n' ∧ n' ≤ n + cn
abbrev WPost (e : E) (must p n : Nat) (w : World) (r : Ending) (w' : World) : Prop := WP (e.words must) e.cnt p n w r w'
theorem wrap_small {n : Nat} (h : n ≤ 100000) : IntKind.i64.wrap ((n : Int) + 1) = (n : Int) + 1 := by
  rw [IntKind.wrap_i64]; omega
theorem imW_num (n must : Nat) (v : Value) (w : World) (p k B : Nat) (hok : n ≤ 1000000) (hv : ExV w B v (E.num n).ex) (hB : B ≤ p) (hb : Blk w p 3 #[.int .i64 (k : Int)]) (hk : k ≤ 1000) (hE : EnvB B w) :
    Calls Tryz.prog 85 #[v, .int .i64 (must : Int), .pointer (some ⟨p, 0, none⟩)] w (WPost (.num n) must p k w) := by
  obtain ⟨kv, rfl, hs, hx⟩ := hv
  obtain ⟨A, c, rfl, hc, hm⟩ := hx.val
  simp only [E.ex, Ex.kind, Ex.n, Ex.s, Ex.kids, List.length_nil] at hc ⊢
  have hp := hb.lt
  have hB1 : Below w.heap.size w (w.alloc (.cells #[.int .i64 1, .int .i64 (n : Int), .string (bs []), .slice A 0 c] 24)) := by (repeat (first | with_reducible assumption | with_reducible exact Below.refl _ _ | with_reducible refine Below.setCell ?_ (by first | omega | (simp; done) | (simp; omega)) _ | with_reducible refine Below.alloc ?_ (by first | omega | (simp; done) | (simp; omega)) _ | with_reducible refine below_drewN ?_ _ | with_reducible refine Below.drew ?_))
  have hbx := hb.below hB1 hp
  have hE1 := (hE.keep (hB1.mono (by omega))).env
  have hwr := wrap_small (n := k) (by omega)
  have q0 : w.heap.size ≠ p := by omega
  clear hx
  go_enter Tryz.func85, Tryz.ntmps85
  go_wp2_with fail
  refine (itoa_any n _ hok hE1).mono ?_
  rintro r w1 ⟨rfl, hb1⟩
  have hz1 := hb1.size
  (try simp at hz1)
  have hbx1 := hbx.below hb1 hbx.lt
  have c0 := hbx1.cell 0
  have z0 := hbx1.frozen 0
  simp at c0
  have q1 : p ≠ w1.heap.size := by omega
  have q2 : w1.heap.size ≠ p := by omega
  have hbx2 := hbx1.alloc (.cells #[.string (bs (decL n)), .int .i64 (k : Int)] 144)
  have c2 : (w1.alloc (.cells #[.string (bs (decL n)), .int .i64 (k : Int)] 144)).cell? ⟨p, 0, none⟩ = some (.int .i64 (k : Int)) := hbx2.cell 0
  have z2 := hbx2.frozen 0
  go_wp2_with fail
  go_ret
  refine ⟨_, [(decL n, (k : Int))], k + 1, rfl, Gt.laid (w' := w1) _ _ rfl rfl _ rfl (by simp) (fun _ => rfl) (by simp) (Below.heap_setCell _ _ _ _ q2) (by omega), rfl, ?_, ?_, by omega, by simp only [E.cnt]; omega⟩
  · exact grown_st (grown_al (grown_bel (grown_bel (grown_rfl w _) hB1) hb1) _) _ _
  · exact (hbx1.alloc _).set_ 0 _
theorem imW_nam (s : Bytes) (must : Nat) (v : Value) (w : World) (p k B : Nat) (hv : ExV w B v (E.nam s).ex) (hB : B ≤ p) (hb : Blk w p 3 #[.int .i64 (k : Int)]) (hk : k ≤ 1000) :
    Calls Tryz.prog 85 #[v, .int .i64 (must : Int), .pointer (some ⟨p, 0, none⟩)] w (WPost (.nam s) must p k w) := by
  obtain ⟨kv, rfl, hs, hx⟩ := hv
  obtain ⟨A, c, rfl, hc, hm⟩ := hx.val
  simp only [E.ex, Ex.kind, Ex.n, Ex.s, Ex.kids, List.length_nil] at hc ⊢
  have hp := hb.lt
  have hB1 : Below w.heap.size w (w.alloc (.cells #[.int .i64 2, .int .i64 0, .string (bs s), .slice A 0 c] 24)) := by (repeat (first | with_reducible assumption | with_reducible exact Below.refl _ _ | with_reducible refine Below.setCell ?_ (by first | omega | (simp; done) | (simp; omega)) _ | with_reducible refine Below.alloc ?_ (by first | omega | (simp; done) | (simp; omega)) _ | with_reducible refine below_drewN ?_ _ | with_reducible refine Below.drew ?_))
  have hbx := hb.below hB1 hp
  have hwr := wrap_small (n := k) (by omega)
  have q0 : w.heap.size ≠ p := by omega
  clear hx
  go_enter Tryz.func85, Tryz.ntmps85
  go_upto_region 8 with fail
  generalize hW : World.alloc w _ = w1
  have hz1 : w.heap.size < w1.heap.size := by rw [← hW]; simp
  rw [hW] at hB1 hbx
  clear hW
  have c0 : w1.cell? ⟨p, 0, none⟩ = some (.int .i64 (k : Int)) := hbx.cell 0
  have q1 : p ≠ w1.heap.size := by omega
  have q2 : w1.heap.size ≠ p := by omega
  have hbx2 := hbx.alloc (.cells #[.string (bs s), .int .i64 (k : Int)] 144)
  have c2 : (w1.alloc (.cells #[.string (bs s), .int .i64 (k : Int)] 144)).cell? ⟨p, 0, none⟩ = some (.int .i64 (k : Int)) := hbx2.cell 0
  have z2 := hbx2.frozen 0
  go_wp2_with fail
  go_ret
  refine ⟨_, [(s, (k : Int))], k + 1, rfl, Gt.laid (w' := w1) _ _ rfl rfl _ rfl (by simp) (fun _ => rfl) (by simp) (Below.heap_setCell _ _ _ _ q2) (by omega), rfl, ?_, ?_, by omega, by simp only [E.cnt]; omega⟩
  · exact grown_st (grown_al (grown_bel (grown_rfl w _) hB1) _) _ _
  · exact (hbx.alloc _).set_ 0 _
set_option maxHeartbeats 4000000 in
theorem imW_cast (ty : Bool) (a : E) (must : Nat) (v : Value) (w : World) (p k B : Nat) (hcn : a.cnt ≤ 100) (hv : ExV w B v (E.cast ty a).ex) (hB : B ≤ p) (hb : Blk w p 3 #[.int .i64 (k : Int)]) (hk : k ≤ 1000) (hE : EnvB B w)
    (ih : ∀ (v : Value) (w' : World), ExV w' B v a.ex → Blk w' p 3 #[.int .i64 (k : Int)] → EnvB B w' → Calls Tryz.prog 85 #[v, .int .i64 4, .pointer (some ⟨p, 0, none⟩)] w' (WPost a 4 p k w')) :
    Calls Tryz.prog 85 #[v, .int .i64 (must : Int), .pointer (some ⟨p, 0, none⟩)] w (WPost (.cast ty a) must p k w) := by
  obtain ⟨kv, rfl, hs, hx⟩ := hv
  obtain ⟨A, c, rfl, hc, hm⟩ := hx.val
  simp only [E.ex, Ex.kind, Ex.n, Ex.s, Ex.kids, List.length_cons, List.length_nil] at hc hx ⊢
  obtain ⟨b, o, p1, q1, s1, A1, c1, m1, rfl, hbb, hg1, hs1, hm1, hc1, hk1, f0, f1, f2, f3⟩ := ex_at (i := 0) hx (by simp)
  have hex : a.ex = .mk p1 q1 s1 m1 := by simpa using hg1
  rw [bs_size] at hs1
  have hp := hb.lt
  have hB1 : Below w.heap.size w (w.alloc (.cells #[.int .i64 4, .int .i64 0, .string (bs (tyB ty)), .slice (some ⟨b, o, none⟩) 1 c] 24)) := by (repeat (first | with_reducible assumption | with_reducible exact Below.refl _ _ | with_reducible refine Below.setCell ?_ (by first | omega | (simp; done) | (simp; omega)) _ | with_reducible refine Below.alloc ?_ (by first | omega | (simp; done) | (simp; omega)) _ | with_reducible refine below_drewN ?_ _ | with_reducible refine Below.drew ?_))
  have hbx := hb.below hB1 hp
  have q0 : w.heap.size ≠ p := by omega
  have hpos := E.words_pos a 4
  have hlen := E.words_len a 4
  have IH := Lib.hid (show ∀ (w' : World), w.grownBy w' (some p) → Blk w' p 3 #[.int .i64 (k : Int)] → Calls Tryz.prog 85 #[.agg #[.int .i64 p1, .int .i64 q1, .string (bs s1), .slice A1 m1.length c1], .int .i64 4, .pointer (some ⟨p, 0, none⟩)] w' (WPost a 4 p k w') from fun w' h hb' =>
    ih _ w' (by rw [hex]; exact ⟨_, rfl, hs1, hk1.keep (below_of_grown h hB hp) (Nat.le_refl _)⟩) hb' (hE.keep (below_of_grown h hB hp)))
  have HW := Lib.hid (show (E.cast ty a).words must = a.words 4 ++ [cAs, tyB ty] from rfl)
  have HC := Lib.hid (show (E.cast ty a).cnt = 1 + a.cnt from rfl)
  clear ih hex hg1 hx hk1 hE
  obtain ⟨wa, hwa⟩ : ∃ x, a.words 4 = x := ⟨_, rfl⟩
  rw [hwa] at hpos hlen HW
  have HWA := Lib.hid hwa
  clear hwa
  generalize tyB ty = tb at *
  go_enter Tryz.func85, Tryz.ntmps85
  go_upto_region 18 with fail
  generalize hW : World.alloc w _ = W1
  have hz1 : w.heap.size < W1.heap.size := by rw [← hW]; simp
  have r2 : W1.cell? ⟨w.heap.size, 2, none⟩ = some (.string (bs tb)) := by rw [← hW]; simp [go_sem]
  have r3 : W1.cell? ⟨w.heap.size, 3, none⟩ = some (.slice (some ⟨b, o, none⟩) 1 c) := by rw [← hW]; simp [go_sem]
  rw [hW] at hB1 hbx
  clear hW
  have hbB : Below B w W1 := hB1.mono (by omega)
  have g0 := f0 ⟨W1, hbB⟩; have g1 := f1 ⟨W1, hbB⟩; have g2 := f2 ⟨W1, hbB⟩; have g3 := f3 ⟨W1, hbB⟩
  simp only [Nat.zero_mul, Nat.add_zero] at g0 g1 g2 g3
  clear f0 f1 f2 f3 hbB
  have hbp : b ≠ p := by omega
  have hgw : w.grownBy W1 (some p) := grown_bel (grown_rfl w _) hB1
  have hpW := hbx.lt
  have KEEP := Lib.hid (show ∀ w' : World, W1.grownBy w' (some p) → (w'.cell? ⟨w.heap.size, 2, none⟩ = some (.string (bs tb)) ∧ w'.cell? ⟨w.heap.size, 3, none⟩ = some (.slice (some ⟨b, o, none⟩) 1 c) ∧ w'.cell? ⟨b, o, none⟩ = some (.int .i64 p1) ∧ w'.cell? ⟨b, o + 1, none⟩ = some (.int .i64 q1) ∧ w'.cell? ⟨b, o + 2, none⟩ = some (.string (bs s1)) ∧ w'.cell? ⟨b, o + 3, none⟩ = some (.slice A1 m1.length c1)) from
    fun w' h => ⟨grown_keepc h r2 q0, grown_keepc h r3 q0, grown_keepc h g0 hbp, grown_keepc h g1 hbp, grown_keepc h g2 hbp, grown_keepc h g3 hbp⟩)
  go_region_held3 (fun w' => w'.cell? ⟨w.heap.size, 2, none⟩ = some (.string (bs tb)) ∧ w'.cell? ⟨w.heap.size, 3, none⟩ = some (.slice (some ⟨b, o, none⟩) 1 c) ∧ w'.cell? ⟨b, o, none⟩ = some (.int .i64 p1) ∧ w'.cell? ⟨b, o + 1, none⟩ = some (.int .i64 q1) ∧ w'.cell? ⟨b, o + 2, none⟩ = some (.string (bs s1)) ∧ w'.cell? ⟨b, o + 3, none⟩ = some (.slice A1 m1.length c1))
    (first | exact KEEP.out _ (by (repeat (first | with_reducible assumption | with_reducible exact grown_rfl _ _ | with_reducible refine grown_al ?_ _ | with_reducible refine grown_st ?_ _ _ | with_reducible refine grown_dr ?_ | with_reducible refine grown_tr ?_ hg2 | with_reducible refine grown_app ?_ hgr3 (by intro q hq; simp [Value.ownBlock] at hq; omega)))) | go_keep)
    (first
      | (go_at_call 85; refine (IH.out _ (by (repeat (first | with_reducible assumption | with_reducible exact grown_rfl _ _ | with_reducible refine grown_al ?_ _ | with_reducible refine grown_st ?_ _ _ | with_reducible refine grown_dr ?_ | with_reducible refine grown_tr ?_ hgw))) (by (repeat (first | with_reducible assumption | with_reducible refine Blk.alloc ?_ _ | with_reducible refine Blk.drew ?_)))).mono ?_; rintro r w2 ⟨u2, m2, n2, rfl, hG2, hM2, hg2, hB2, hn2, hn2'⟩; rw [HWA.out] at hM2; have hz2 := hg2.size; (try simp at hz2); obtain ⟨hp2, hl2⟩ : 0 < m2.length ∧ m2.length ≤ 600 := (by have := congrArg List.length hM2; rw [List.length_map] at this; omega); obtain ⟨gg2, cap2, rfl, hgl2, hgh2⟩ := hG2.block hp2; (try simp at hgl2))
      | (refine app_step rtSrc (by rfl) (.tmp 89) (.tmp 94) (by rfl) W1.heap.size (.slice (some ⟨gg2, 0, none⟩) m2.length cap2) m2 (by rfl) ?_ ⟨w2.heap.size, 0, none⟩ 2 [(cAs, (-1 : Int)), (tb, (-1 : Int))] (by rfl) ?_ (Nat.succ_pos 1) ?_ ?_ ?_; exact (hG2.less (by first | omega | (simp; done) | (simp only [List.length_cons, List.length_nil, List.length_append]; omega) | (simp; omega))).ext (by (repeat (first | with_reducible assumption | with_reducible exact Below.refl _ _ | with_reducible refine Below.setCell ?_ (by first | omega | (simp; done) | (simp; omega)) _ | with_reducible refine Below.alloc ?_ (by first | omega | (simp; done) | (simp; omega)) _ | with_reducible refine below_drewN ?_ _ | with_reducible refine Below.drew ?_))); exact World.news_of_block (heap_alloc_new w2 _); (first | omega | (simp; done) | (simp only [List.length_cons, List.length_nil, List.length_append]; omega) | (simp; omega)); (first | omega | (simp; done) | (simp only [List.length_cons, List.length_nil, List.length_append]; omega) | (simp; omega)); intro g3' cap3 w3 hG3 hgr3 hat3)
      | (refine app_step rtSrc (by rfl) (.tmp 89) (.tmp 94) (by rfl) W1.heap.size (.slice (some ⟨gg2, 0, none⟩) m2.length cap2) m2 (by rfl) ?_ ⟨W1.heap.size, 0, none⟩ 2 [(cAs, (-1 : Int)), (tb, (-1 : Int))] (by rfl) ?_ (Nat.succ_pos 1) ?_ ?_ ?_; exact hG2.less (by first | omega | (simp; done) | (simp only [List.length_cons, List.length_nil, List.length_append]; omega) | (simp; omega)); exact World.news_of_block ((hg2.block W1.heap.size (by simp) (by intro e; have := Option.some.inj e; omega)).trans (heap_alloc_new W1 _)); (first | omega | (simp; done) | (simp only [List.length_cons, List.length_nil, List.length_append]; omega) | (simp; omega)); (first | omega | (simp; done) | (simp only [List.length_cons, List.length_nil, List.length_append]; omega) | (simp; omega)); intro g3' cap3 w3 hG3 hgr3 hat3)
      | fail)
  all_goals
    go_wp2_with fail
    go_ret
    refine ⟨_, m2 ++ [(cAs, (-1 : Int)), (tb, (-1 : Int))], n2, rfl, (hG3.less (by omega)).len (by first | omega | (simp; done) | (simp only [List.length_cons, List.length_nil, List.length_append]; omega) | (simp; omega)) rfl, by rw [HW.out, ← hM2]; simp, by (repeat (first | with_reducible assumption | with_reducible exact grown_rfl _ _ | with_reducible refine grown_al ?_ _ | with_reducible refine grown_st ?_ _ _ | with_reducible refine grown_dr ?_ | with_reducible refine grown_tr ?_ hg2 | with_reducible refine grown_tr ?_ hgw | with_reducible refine grown_app ?_ hgr3 (by intro q hq; simp [Value.ownBlock] at hq; omega))), by (repeat (first | with_reducible assumption | with_reducible refine Blk.alloc ?_ _ | with_reducible refine Blk.drew ?_ | with_reducible refine blk_app ?_ hgr3 (by intro q hq; simp [Value.ownBlock] at hq; omega))), hn2, by have := HC.out; omega⟩
end Go.Proofs.YtgakjhaepdigpaaGreatDoor
