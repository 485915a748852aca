/- The words of what is reckoned: the program's, of two parts. -/
import Derived.Test.YtgakjhaepdigpaaGreatDoorImW
namespace Go.Proofs.YtgakjhaepdigpaaGreatDoor
set_option maxRecDepth 100000
set_option linter.unusedSimpArgs false
set_option linter.unusedVariables false
open Go.RowKit
attribute [local go_sem] bs_toList bs_get bs_size

set_option maxHeartbeats 8000000 in
theorem imW_two (kk : Nat) (ob : Bytes) (htg : tgt ob = kk) (hk1 : 1 ≤ kk) (hk3 : kk ≤ 3) (xa xb : Ex) (wa wb : List Bytes) (ca cb must : Nat) (wd : List Bytes) (hwd : wd = if kk < must then [40] :: (wa ++ ob :: wb) ++ [[41]] else wa ++ ob :: wb) (A : Option Addr) (c : Nat) (w : World) (p k B : Nat) (hc : 2 ≤ c) (hm : c ≤ 9223372036854775807)
    (hx : ExS w B (.slice A 2 c) [xa, xb]) (hB : B ≤ p) (hb : Blk w p 3 #[.int .i64 (k : Int)]) (hk : k + 1 + ca + cb ≤ 1000) (hmust : must ≤ 4) (hpa : 1 ≤ wa.length) (hla : wa.length ≤ 600) (hpb : 1 ≤ wb.length) (hlb : wb.length ≤ 600)
    (iha : ∀ (v : Value) (w' : World) (n : Nat), w.grownBy w' (some p) → n ≤ k + 1 → ExV w' B v xa → Blk w' p 3 #[.int .i64 (n : Int)] → Calls Tryz.prog 85 #[v, .int .i64 (max 2 (kk : Int)), .pointer (some ⟨p, 0, none⟩)] w' (WP wa ca p n w'))
    (ihb : ∀ (v : Value) (w' : World) (n : Nat), w.grownBy w' (some p) → n ≤ k + 1 + ca → ExV w' B v xb → Blk w' p 3 #[.int .i64 (n : Int)] → Calls Tryz.prog 85 #[v, .int .i64 ((kk : Int) + 1), .pointer (some ⟨p, 0, none⟩)] w' (WP wb cb p n w')) :
    Calls Tryz.prog 85 #[.agg #[.int .i64 3, .int .i64 0, .string (bs ob), .slice A 2 c], .int .i64 (must : Int), .pointer (some ⟨p, 0, none⟩)] w (WP wd (1 + (ca + cb)) p k w) := by
  have HWD := Lib.hid hwd
  clear hwd
  obtain ⟨b, o, p1, q1, s1, A1, c1, m1, rfl, hbb, hg1, hs1, hm1, hc1, hka, f0, f1, f2, f3⟩ := ex_at (i := 0) hx (by simp)
  obtain ⟨b', o', p2, q2, s2, A2, c2, m2, hAA, hbb', hg2, hs2, hm2, hc2, hkb, e0, e1, e2, e3⟩ := ex_at (i := 1) hx (by simp)
  cases hAA
  have hexa : xa = .mk p1 q1 s1 m1 := by simpa using hg1
  have hexb : xb = .mk p2 q2 s2 m2 := by simpa using hg2
  subst hexa hexb
  rw [bs_size] at hs1 hs2
  have hp := hb.lt
  have hB1 : Below w.heap.size w (w.alloc (.cells #[.int .i64 3, .int .i64 0, .string (bs ob), .slice (some ⟨b, o, none⟩) 2 c] 24)) := by (repeat (first | with_reducible assumption | with_reducible exact Below.refl _ _ | with_reducible refine Below.setCell ?_ (by first | omega | (simp; done) | (simp; omega)) _ | with_reducible refine Below.alloc ?_ (by first | omega | (simp; done) | (simp; omega)) _ | with_reducible refine below_drewN ?_ _ | with_reducible refine Below.drew ?_))
  have hbx := hb.below hB1 hp
  have q0 : w.heap.size ≠ p := by omega
  have hwr := wrap_small (n := k) (by omega)
  have hwk := wrap_small (n := kk) (by omega)
  have IHa := Lib.hid (show ∀ (w' : World), w.grownBy w' (some p) → Blk w' p 3 #[.int .i64 ((k : Int) + 1)] → Calls Tryz.prog 85 #[.agg #[.int .i64 p1, .int .i64 q1, .string (bs s1), .slice A1 m1.length c1], .int .i64 (max 2 (kk : Int)), .pointer (some ⟨p, 0, none⟩)] w' _ from fun w' h hb' =>
    iha _ w' (k + 1) h (Nat.le_refl _) ⟨_, rfl, hs1, hka.keep (below_of_grown h hB hp) (Nat.le_refl _)⟩ hb')
  have IHb := Lib.hid (show ∀ (w' : World) (n : Nat), w.grownBy w' (some p) → n ≤ k + 1 + ca → Blk w' p 3 #[.int .i64 (n : Int)] → Calls Tryz.prog 85 #[.agg #[.int .i64 p2, .int .i64 q2, .string (bs s2), .slice A2 m2.length c2], .int .i64 ((kk : Int) + 1), .pointer (some ⟨p, 0, none⟩)] w' _ from fun w' n h hn hb' =>
    ihb _ w' n h hn ⟨_, rfl, hs2, hkb.keep (below_of_grown h hB hp) (Nat.le_refl _)⟩ hb')
  have HT := Lib.hid htg
  clear iha ihb hx hka hkb hg1 hg2 htg
  go_enter Tryz.func85, Tryz.ntmps85
  go_upto_region 11 with fail
  generalize hW : World.alloc w _ = W1
  have hz1 : w.heap.size < W1.heap.size := by rw [← hW]; simp
  have r2 : W1.cell? ⟨w.heap.size, 2, none⟩ = some (.string (bs ob)) := by rw [← hW]; simp [go_sem]
  have r3 : W1.cell? ⟨w.heap.size, 3, none⟩ = some (.slice (some ⟨b, o, none⟩) 2 c) := by rw [← hW]; simp [go_sem]
  have r0 : W1.cell? ⟨w.heap.size, 0, none⟩ = some (.int .i64 3) := by rw [← hW]; simp [go_sem]
  rw [hW] at hB1 hbx
  clear hW
  have hbB : Below B w W1 := hB1.mono (by omega)
  have g0 := f0 ⟨W1, hbB⟩; have g1 := f1 ⟨W1, hbB⟩; have g2 := f2 ⟨W1, hbB⟩; have g3 := f3 ⟨W1, hbB⟩
  have h0 := e0 ⟨W1, hbB⟩; have h1 := e1 ⟨W1, hbB⟩; have h2 := e2 ⟨W1, hbB⟩; have h3 := e3 ⟨W1, hbB⟩
  simp only [Nat.zero_mul, Nat.add_zero, Nat.one_mul] at g0 g1 g2 g3 h0 h1 h2 h3
  clear f0 f1 f2 f3 e0 e1 e2 e3 hbB
  have hbp : b ≠ p := by omega
  have hgw : w.grownBy W1 (some p) := grown_bel (grown_rfl w _) hB1
  have hpW := hbx.lt
  have c0 : W1.cell? ⟨p, 0, none⟩ = some (.int .i64 (k : Int)) := hbx.cell 0
  have z0 : W1.frozen? ⟨p, 0, none⟩ = false := hbx.frozen 0
  have KEEP := Lib.hid (show ∀ w' : World, W1.grownBy w' (some p) → (w'.cell? ⟨w.heap.size, 2, none⟩ = some (.string (bs ob)) ∧ w'.cell? ⟨w.heap.size, 3, none⟩ = some (.slice (some ⟨b, o, none⟩) 2 c) ∧ w'.cell? ⟨b, o, none⟩ = some (.int .i64 p1) ∧ w'.cell? ⟨b, o + 1, none⟩ = some (.int .i64 q1) ∧ w'.cell? ⟨b, o + 2, none⟩ = some (.string (bs s1)) ∧ w'.cell? ⟨b, o + 3, none⟩ = some (.slice A1 m1.length c1) ∧ w'.cell? ⟨b, o + 4, none⟩ = some (.int .i64 p2) ∧ w'.cell? ⟨b, o + 4 + 1, none⟩ = some (.int .i64 q2) ∧ w'.cell? ⟨b, o + 4 + 2, none⟩ = some (.string (bs s2)) ∧ w'.cell? ⟨b, o + 4 + 3, none⟩ = some (.slice A2 m2.length c2)) from
    fun w' h => ⟨grown_keepc h r2 q0, grown_keepc h r3 q0, grown_keepc h g0 hbp, grown_keepc h g1 hbp, grown_keepc h g2 hbp, grown_keepc h g3 hbp, grown_keepc h h0 hbp, grown_keepc h h1 hbp, grown_keepc h h2 hbp, grown_keepc h h3 hbp⟩)
  clear r3 g0 g1 g2 g3 h0 h1 h2 h3
  go_region_held3 (fun w' => w'.cell? ⟨w.heap.size, 2, none⟩ = some (.string (bs ob)) ∧ w'.cell? ⟨p, 0, none⟩ = some (.int .i64 (k : Int))) (go_keep)
    (first | (go_at_call 134; refine (imTight_any ob _).mono ?_; rintro r _ ⟨rfl, rfl⟩) | fail)
  rw [HT.out]
  go_upto_region 13 with fail
  generalize hW2 : World.setCell _ _ _ = W2
  have hg12 : W1.grownBy W2 (some p) := by rw [← hW2]; (repeat (first | with_reducible assumption | with_reducible exact grown_rfl _ _ | with_reducible refine grown_al ?_ _ | with_reducible refine grown_st ?_ _ _ | with_reducible refine grown_dr ?_))
  have hBk2 : Blk W2 p 3 #[.int .i64 ((k : Int) + 1)] := by rw [← hW2]; exact Blk.set_ hbx 0 _
  clear hW2 c0 z0 r2 r0
  have hgw2 : w.grownBy W2 (some p) := grown_tr hgw hg12
  have hpW2 := hBk2.lt
  have hz12 := hg12.size
  go_cut [7] (fun s7 wx => ∃ (g cap : Nat) (m : List Src) (n' : Nat), s7 = .slice (some ⟨g, 0, none⟩) m.length cap ∧ GtC W2.heap.size wx s7 m ∧ m.map (·.1) = wa ++ [ob] ∧ W2.grownBy wx (some p) ∧ Blk wx p 3 #[.int .i64 (n' : Int)] ∧ k + 1 ≤ n' ∧ n' ≤ k + 1 + ca)
  case first =>
    go_region_held3 (fun w' => w'.cell? ⟨w.heap.size, 2, none⟩ = some (.string (bs ob)) ∧ w'.cell? ⟨w.heap.size, 3, none⟩ = some (.slice (some ⟨b, o, none⟩) 2 c) ∧ w'.cell? ⟨b, o, none⟩ = some (.int .i64 p1) ∧ w'.cell? ⟨b, o + 1, none⟩ = some (.int .i64 q1) ∧ w'.cell? ⟨b, o + 2, none⟩ = some (.string (bs s1)) ∧ w'.cell? ⟨b, o + 3, none⟩ = some (.slice A1 m1.length c1) ∧ w'.cell? ⟨b, o + 4, none⟩ = some (.int .i64 p2) ∧ w'.cell? ⟨b, o + 4 + 1, none⟩ = some (.int .i64 q2) ∧ w'.cell? ⟨b, o + 4 + 2, none⟩ = some (.string (bs s2)) ∧ w'.cell? ⟨b, o + 4 + 3, none⟩ = some (.slice A2 m2.length c2))
      (first | exact KEEP.out _ (by (repeat (first | with_reducible assumption | with_reducible exact grown_rfl _ _ | with_reducible refine grown_al ?_ _ | with_reducible refine grown_st ?_ _ _ | with_reducible refine grown_dr ?_ | with_reducible refine grown_tr ?_ hg2 | with_reducible refine grown_tr ?_ hg12 | with_reducible refine grown_app ?_ hgr3 (by intro q hq; simp [Value.ownBlock] at hq; omega)))) | go_keep)
      (first
        | (go_at_call 85; refine (IHa.out _ (by (repeat (first | with_reducible assumption | with_reducible exact grown_rfl _ _ | with_reducible refine grown_al ?_ _ | with_reducible refine grown_st ?_ _ _ | with_reducible refine grown_dr ?_ | with_reducible refine grown_tr ?_ hgw2))) (by (repeat (first | with_reducible assumption | with_reducible refine Blk.alloc ?_ _ | with_reducible refine Blk.drew ?_)))).mono ?_; rintro r w2 ⟨u2, ma, n2, rfl, hG2, hM2, hg2, hB2, hn2, hn2'⟩; have hz2 := hg2.size; (try simp at hz2); obtain ⟨hp2, hl2⟩ : 0 < ma.length ∧ ma.length ≤ 600 := (by have := congrArg List.length hM2; rw [List.length_map] at this; omega); obtain ⟨gg2, cap2, rfl, hgl2, hgh2⟩ := hG2.block hp2; (try simp at hgl2))
        | (refine app_step rtSrc (by rfl) (.tmp 55) (.tmp 60) (by rfl) W2.heap.size (.slice (some ⟨gg2, 0, none⟩) ma.length cap2) ma (by rfl) ?_ ⟨w2.heap.size, 0, none⟩ 1 [(ob, (k : Int))] (by rfl) ?_ (Nat.succ_pos 0) ?_ ?_ ?_; exact (hG2.less (by first | omega | (simp; done) | (simp only [List.length_cons, List.length_nil, List.length_append]; omega) | (simp; omega))).ext (by (repeat (first | with_reducible assumption | with_reducible exact Below.refl _ _ | with_reducible refine Below.setCell ?_ (by first | omega | (simp; done) | (simp; omega)) _ | with_reducible refine Below.alloc ?_ (by first | omega | (simp; done) | (simp; omega)) _ | with_reducible refine below_drewN ?_ _ | with_reducible refine Below.drew ?_))); exact World.news_of_block (heap_alloc_new w2 _); (first | omega | (simp; done) | (simp only [List.length_cons, List.length_nil, List.length_append]; omega) | (simp; omega)); (first | omega | (simp; done) | (simp only [List.length_cons, List.length_nil, List.length_append]; omega) | (simp; omega)); intro g3' cap3 w3 hG3 hgr3 hat3)
        | (refine app_step rtSrc (by rfl) (.tmp 55) (.tmp 60) (by rfl) W2.heap.size (.slice (some ⟨gg2, 0, none⟩) ma.length cap2) ma (by rfl) ?_ ⟨W2.heap.size, 0, none⟩ 1 [(ob, (k : Int))] (by rfl) ?_ (Nat.succ_pos 0) ?_ ?_ ?_; exact hG2.less (by first | omega | (simp; done) | (simp only [List.length_cons, List.length_nil, List.length_append]; omega) | (simp; omega)); exact World.news_of_block ((hg2.block W2.heap.size (by simp) (by intro e; have := Option.some.inj e; omega)).trans (heap_alloc_new W2 _)); (first | omega | (simp; done) | (simp only [List.length_cons, List.length_nil, List.length_append]; omega) | (simp; omega)); (first | omega | (simp; done) | (simp only [List.length_cons, List.length_nil, List.length_append]; omega) | (simp; omega)); intro g3' cap3 w3 hG3 hgr3 hat3)
        | fail)
    all_goals
      go_wp2_with fail
      go_meet
      exact ⟨_, _, ma ++ [(ob, (k : Int))], n2, congrArg (fun n => Value.slice _ n _) (by first | omega | (simp; done) | (simp only [List.length_cons, List.length_nil, List.length_append]; omega) | (simp; omega)), hG3.len (by first | omega | (simp; done) | (simp only [List.length_cons, List.length_nil, List.length_append]; omega) | (simp; omega)) rfl, by rw [← hM2]; simp, by (repeat (first | with_reducible assumption | with_reducible exact grown_rfl _ _ | with_reducible refine grown_al ?_ _ | with_reducible refine grown_st ?_ _ _ | with_reducible refine grown_dr ?_ | with_reducible refine grown_tr ?_ hg2 | with_reducible refine grown_app ?_ hgr3 (by intro q hq; simp [Value.ownBlock] at hq; omega))), by (repeat (first | with_reducible assumption | with_reducible refine Blk.alloc ?_ _ | with_reducible refine Blk.drew ?_ | with_reducible refine blk_app ?_ hgr3 (by intro q hq; simp [Value.ownBlock] at hq; omega))), hn2, hn2'⟩
  case rest =>
    obtain ⟨g3, cap3, ma, n2, rfl, hG3, hM3, hg3, hB3, hn2, hn2'⟩ := hcut
    obtain ⟨x2, x3, y0, y1, y2, y3, v0, v1, v2, v3⟩ := KEEP.out wc (grown_tr hg12 hg3)
    have hla3 : ma.length ≤ 601 := by have := congrArg List.length hM3; rw [List.length_map, List.length_append, List.length_singleton] at this; omega
    have hla4 : 0 < ma.length := by have := congrArg List.length hM3; rw [List.length_map, List.length_append, List.length_singleton] at this; omega
    have hgb3 := hG3.lt (b := g3) rfl
    have hgwc : w.grownBy wc (some p) := grown_tr hgw2 hg3
    have hz3 := hg3.size
    clear KEEP IHa y0 y1 y2 y3 x2
    go_wp2_with fail
    refine (IHb.out _ n2 (by (repeat (first | with_reducible assumption | with_reducible exact grown_rfl _ _ | with_reducible refine grown_al ?_ _ | with_reducible refine grown_st ?_ _ _ | with_reducible refine grown_dr ?_ | with_reducible refine grown_tr ?_ hgwc))) hn2' (by (repeat (first | with_reducible assumption | with_reducible refine Blk.alloc ?_ _ | with_reducible refine Blk.drew ?_)))).mono ?_
    rintro r w5 ⟨u5, mb, n5, rfl, hG5, hM5, hg5, hB5, hn5, hn5'⟩
    have hz5 := hg5.size
    obtain ⟨hp5, hl5⟩ : 0 < mb.length ∧ mb.length ≤ 600 := (by have := congrArg List.length hM5; rw [List.length_map] at this; omega)
    obtain ⟨gg5, cap5, rfl, hgl5, hgh5⟩ := hG5.block hp5
    have hG3' : GtC W2.heap.size w5 (.slice (some ⟨g3, 0, none⟩) ma.length cap3) ma := hG3.grown hg5 (.inr (by simp [Value.ownBlock]; omega))
    rcases Nat.lt_or_ge kk must with hlt | hlt
    rotate_left
    · have d1 : decide (kk < must) = false := by simp; omega
      have d3 : decide ((kk : Int) < (must : Int)) = false := by simp; omega
      have HNE := Lib.hid hlt
      clear hlt
      go_wp2_with (first | (at_builtin; refine app_plain rtSrc (by rfl) (.tmp 62) (.tmp 70) (by rfl) W2.heap.size (.slice (some ⟨g3, 0, none⟩) ma.length cap3) ma (by rfl) hG3' ⟨gg5, 0, none⟩ cap5 mb (by rfl) hG5.cells hp5 (by first | omega | (simp; done) | (simp only [List.length_cons, List.length_nil, List.length_append]; omega) | (simp; omega)) (by first | omega | (simp; done) | (simp only [List.length_cons, List.length_nil, List.length_append]; omega) | (simp; omega)) ?_; intro g6 cap6 w6 hG6 hgr6 hat6; have hz6 := hgr6.size; (try simp at hz6); have hlo6 : W2.heap.size ≤ g6 := (by rcases hat6 with h | h <;> (try simp [Value.ownBlock] at h) <;> omega); have hhi6 := (hG6.lt (b := g6) rfl).2) | fail)
      go_ret
      refine ⟨_, ma ++ mb, n5, rfl, (hG6.less (by omega)).len (by first | omega | (simp; done) | (simp only [List.length_cons, List.length_nil, List.length_append]; omega) | (simp; omega)) rfl, ?_, by (repeat (first | with_reducible assumption | with_reducible exact grown_rfl _ _ | with_reducible refine grown_al ?_ _ | with_reducible refine grown_st ?_ _ _ | with_reducible refine grown_dr ?_ | with_reducible refine grown_tr ?_ hg5 | with_reducible refine grown_tr ?_ hgwc | with_reducible refine grown_app ?_ hgr6 (by intro q hq; simp [Value.ownBlock] at hq; omega))), by (repeat (first | with_reducible assumption | with_reducible refine Blk.alloc ?_ _ | with_reducible refine Blk.drew ?_ | with_reducible refine blk_app ?_ hgr6 (by intro q hq; simp [Value.ownBlock] at hq; omega))), by omega, by omega⟩
      rw [HWD.out, if_neg (Nat.not_lt.2 HNE.out)]
      simp only [List.map_append, hM3, hM5, List.append_assoc, List.singleton_append]
    · have d1 : decide (kk < must) = true := by simp; omega
      have d3 : decide ((kk : Int) < (must : Int)) = true := by simp; omega
      have HNE := Lib.hid hlt
      clear hlt
      have tok7 : True := trivial
      go_wp2_with (first
        | (at_builtin; refine app_plain rtSrc (by rfl) (.tmp 62) (.tmp 70) (by rfl) W2.heap.size (.slice (some ⟨g3, 0, none⟩) ma.length cap3) ma (by rfl) hG3' ⟨gg5, 0, none⟩ cap5 mb (by rfl) hG5.cells hp5 (by first | omega | (simp; done) | (simp only [List.length_cons, List.length_nil, List.length_append]; omega) | (simp; omega)) (by first | omega | (simp; done) | (simp only [List.length_cons, List.length_nil, List.length_append]; omega) | (simp; omega)) ?_; intro g6 cap6 w6 hG6 hgr6 hat6; have hz6 := hgr6.size; (try simp at hz6); have hlo6 : W2.heap.size ≤ g6 := (by rcases hat6 with h | h <;> (try simp [Value.ownBlock] at h) <;> omega); have hhi6 := (hG6.lt (b := g6) rfl).2)
        | (have tk := tok7; at_builtin; refine app_plain rtSrc (by rfl) (.tmp 76) (.tmp 77) (by rfl) W2.heap.size (.slice (some ⟨w6.heap.size, 0, none⟩) 1 1) [([40], (-1 : Int))] (by rfl) (Gt.laid (w' := w6) _ _ rfl rfl _ rfl (by simp) (fun _ => rfl) (by simp) rfl (by omega)) ⟨g6, 0, none⟩ cap6 (ma ++ mb) (congrArg (fun n => Value.slice (some ⟨g6, 0, none⟩) n cap6) List.length_append.symm) ((hG6.len List.length_append.symm rfl).ext (by (repeat (first | with_reducible assumption | with_reducible exact Below.refl _ _ | with_reducible refine Below.setCell ?_ (by first | omega | (simp; done) | (simp; omega)) _ | with_reducible refine Below.alloc ?_ (by first | omega | (simp; done) | (simp; omega)) _ | with_reducible refine below_drewN ?_ _ | with_reducible refine Below.drew ?_)))).cells (by first | omega | (simp; done) | (simp only [List.length_cons, List.length_nil, List.length_append]; omega) | (simp; omega)) (by first | omega | (simp; done) | (simp only [List.length_cons, List.length_nil, List.length_append]; omega) | (simp; omega)) (by first | omega | (simp; done) | (simp only [List.length_cons, List.length_nil, List.length_append]; omega) | (simp; omega)) ?_; clear tk tok7; intro g7 cap7 w7 hG7 hgr7 hat7; have hz7 := hgr7.size; (try simp at hz7); have hlo7 : W2.heap.size ≤ g7 := (by rcases hat7 with h | h <;> (try simp [Value.ownBlock] at h) <;> omega); have hhi7 := (hG7.lt (b := g7) rfl).2)
        | (have tk := hgr7; at_builtin; refine app_plain rtSrc (by rfl) (.tmp 78) (.tmp 80) (by rfl) W2.heap.size (.slice (some ⟨g7, 0, none⟩) _ cap7) ([([40], (-1 : Int))] ++ (ma ++ mb)) (by rfl) ((hG7.ext (by (repeat (first | with_reducible assumption | with_reducible exact Below.refl _ _ | with_reducible refine Below.setCell ?_ (by first | omega | (simp; done) | (simp; omega)) _ | with_reducible refine Below.alloc ?_ (by first | omega | (simp; done) | (simp; omega)) _ | with_reducible refine below_drewN ?_ _ | with_reducible refine Below.drew ?_)))).len (by first | omega | (simp; done) | (simp only [List.length_cons, List.length_nil, List.length_append]; omega) | (simp; omega)) rfl) ⟨w7.heap.size, 0, none⟩ 1 [([41], (-1 : Int))] (by rfl) (World.news_of_block (heap_alloc_new w7 _)) (by simp) (by first | omega | (simp; done) | (simp only [List.length_cons, List.length_nil, List.length_append]; omega) | (simp; omega)) (by first | omega | (simp; done) | (simp only [List.length_cons, List.length_nil, List.length_append]; omega) | (simp; omega)) ?_; intro g8 cap8 w8 hG8 hgr8 hat8)
        | fail)
      go_ret
      refine ⟨_, [([40], (-1 : Int))] ++ (ma ++ mb) ++ [([41], (-1 : Int))], n5, rfl, (hG8.less (by omega)).len (by first | omega | (simp; done) | (simp only [List.length_cons, List.length_nil, List.length_append]; omega) | (simp; omega)) rfl, ?_, by (repeat (first | with_reducible assumption | with_reducible exact grown_rfl _ _ | with_reducible refine grown_al ?_ _ | with_reducible refine grown_st ?_ _ _ | with_reducible refine grown_dr ?_ | with_reducible refine grown_tr ?_ hg5 | with_reducible refine grown_tr ?_ hgwc | with_reducible refine grown_app ?_ hgr6 (by intro q hq; simp [Value.ownBlock] at hq; omega) | with_reducible refine grown_app ?_ hgr7 (by intro q hq; simp [Value.ownBlock] at hq; omega) | with_reducible refine grown_app ?_ hgr8 (by intro q hq; simp [Value.ownBlock] at hq; omega))), by (repeat (first | with_reducible assumption | with_reducible refine Blk.alloc ?_ _ | with_reducible refine Blk.drew ?_ | with_reducible refine blk_app ?_ hgr6 (by intro q hq; simp [Value.ownBlock] at hq; omega) | with_reducible refine blk_app ?_ hgr7 (by intro q hq; simp [Value.ownBlock] at hq; omega) | with_reducible refine blk_app ?_ hgr8 (by intro q hq; simp [Value.ownBlock] at hq; omega))), by omega, by omega⟩
      rw [HWD.out, if_pos HNE.out]
      simp only [List.map_append, hM3, hM5]
      simp
end Go.Proofs.YtgakjhaepdigpaaGreatDoor


/- The words of statements: the program's. -/
namespace Go.Proofs.YtgakjhaepdigpaaGreatDoor
set_option maxRecDepth 100000
set_option linter.unusedSimpArgs false
set_option linter.unusedVariables false
open Go.RowKit
attribute [local go_sem] bs_toList bs_get bs_size

theorem tgt_b (op : Op2) : tgt op.b = op.lv := by cases op <;> decide
theorem imW_any : ∀ (e : E) (must : Nat) (v : Value) (w : World) (p k B : Nat), e.ok → e.cnt ≤ 100 → k + e.cnt ≤ 900 → must ≤ 4 → ExV w B v e.ex → B ≤ p → Blk w p 3 #[.int .i64 (k : Int)] → EnvB B w →
    Calls Tryz.prog 85 #[v, .int .i64 (must : Int), .pointer (some ⟨p, 0, none⟩)] w (WPost e must p k w) := by
  intro e
  induction e with
  | num n => intro must v w p k B hok _ hk _ hv hB hb hE; exact imW_num n must v w p k B hok hv hB hb (by omega) hE
  | nam s => intro must v w p k B hok _ hk _ hv hB hb hE; exact imW_nam s must v w p k B hv hB hb (by omega)
  | cast ty a iha =>
    intro must v w p k B hok hc hk _ hv hB hb hE
    simp only [E.cnt] at hc hk
    exact imW_cast ty a must v w p k B (by omega) hv hB hb (by omega) hE (fun v w' h1 h2 h3 => iha 4 v w' p k B hok (by omega) (by omega) (by omega) h1 hB h2 h3)
  | two op a b iha ihb =>
    intro must v w p k B hok hc hk hm hv hB hb hE
    simp only [E.cnt] at hc hk
    obtain ⟨kv, rfl, hs, hx⟩ := hv
    obtain ⟨A, c, rfl, hc1, hm1⟩ := hx.val
    have hl1 : 1 ≤ op.lv := by cases op <;> decide
    have hl3 : op.lv ≤ 3 := by cases op <;> decide
    have h1 := E.words_len a (max op.lv 2)
    have h2 := E.words_len b (op.lv + 1)
    have hmx : ((max op.lv 2 : Nat) : Int) = max 2 (op.lv : Int) := by omega
    have hp := hb.lt
    exact imW_two op.lv op.b (tgt_b op) hl1 hl3 a.ex b.ex (a.words (max op.lv 2)) (b.words (op.lv + 1)) a.cnt b.cnt must _ rfl A c w p k B hc1 hm1 hx hB hb (by omega) hm (E.words_pos _ _) (by omega) (E.words_pos _ _) (by omega)
      (fun v w' n hg hn hv hb' => by rw [← hmx]; exact iha _ v w' p n B hok.1 (by omega) (by omega) (by omega) hv hB hb' (hE.keep (below_of_grown hg hB hp)))
      (fun v w' n hg hn hv hb' => ihb (op.lv + 1) v w' p n B hok.2 (by omega) (by omega) (by omega) hv hB hb' (hE.keep (below_of_grown hg hB hp)))
theorem bareWords_any (m : List Src) (v : Value) (W : World) (hv : SlC W W.heap.size v m) (hl : m.length ≤ 1000) :
    Calls Tryz.prog 84 #[v] W fun r w' => ∃ u, r = .returned u ∧ SlB w' w'.heap.size u (m.map (·.1)) ∧ Below W.heap.size W w' := by
  obtain ⟨A, c, rfl, hc, hm⟩ := hv.val
  obtain ⟨i0, hi, hz0, hz1, hz2⟩ := info_parts infoStr
  have hmk := fun W => run_make_rowN (P := Tryz.prog) 45 9 i0 _ Tryz.underlying45 hi hz0 .i64 .i64 m.length m.length (Nat.le_refl _) (by rw [hz2]; omega) (by omega) W
  rw [hz1] at hmk
  clear hi hz0 hz1 hz2
  go_enter Tryz.func84, Tryz.ntmps84
  go_wp2_with fail
  go_loopg [11] m.length (fun k p wr => ∃ (j : Nat) (cur : Array Value), k = m.length - j ∧ j ≤ m.length ∧ p = .int .i64 j ∧ Blk wr W.heap.size 9 cur ∧ cur.size = m.length ∧ (∀ t x, t < j → m[t]? = some x → cur[t]? = some (.string (bs x.1))) ∧ Below W.heap.size W wr)
  case atStart => exact ⟨0, _, by omega, by omega, rfl, Blk.new _ _ _, by simp [size_madeCells], fun t x h => by omega, by (repeat (first | with_reducible assumption | with_reducible exact Below.refl _ _ | with_reducible refine Below.setCell ?_ (by first | omega | (simp; done) | (simp; omega)) _ | with_reducible refine Below.alloc ?_ (by first | omega | (simp; done) | (simp; omega)) _ | with_reducible refine below_drewN ?_ _ | with_reducible refine Below.drew ?_))⟩
  case round =>
    obtain ⟨j, cur, hk, hj, rfl, hB, hsz, ha, hbl⟩ := hrel
    have HK := Lib.hid (And.intro hk (And.intro hsz ha))
    clear hk hsz ha
    have hbz := hB.lt
    by_cases hlt : j < m.length
    · obtain ⟨b, o, s, q, rfl, hb, hg, f0, f1⟩ := src_at hv hlt
      have g0 := f0 ⟨wr, hbl⟩; have g1 := f1 ⟨wr, hbl⟩
      have HG := Lib.hid hg
      clear f0 f1 hg
      have hB2 := hB.alloc (.cells #[.string (bs s), .int .i64 q] 144)
      obtain ⟨y0, hy0⟩ : ∃ y, (wr.alloc (.cells #[.string (bs s), .int .i64 q] 144)).cell? ⟨W.heap.size, j, none⟩ = some y := ⟨_, (hB2.cell _).trans (Array.getElem?_eq_getElem (by have := HK.out.2.1; omega))⟩
      have hfz := hB2.frozen j
      have hne : W.heap.size ≠ wr.heap.size := by omega
      go_wp2_with fail
      go_roundg (m.length - (j + 1))
      case measure => have := HK.out.1; omega
      case rel =>
        refine ⟨j + 1, cur.setIfInBounds j (.string (bs s)), rfl, by omega, by go_num, (hB.set_ j _).alloc _, by simp [HK.out.2.1], fun t x ht hx => ?_, by (repeat (first | with_reducible assumption | with_reducible exact Below.refl _ _ | with_reducible refine Below.setCell ?_ (by first | omega | (simp; done) | (simp; omega)) _ | with_reducible refine Below.alloc ?_ (by first | omega | (simp; done) | (simp; omega)) _ | with_reducible refine below_drewN ?_ _ | with_reducible refine Below.drew ?_ | with_reducible refine Below.trans ?_ (Below.mono hbl (by first | omega | (simp; done) | (simp; omega)))))⟩
        by_cases e : t = j
        · subst e
          rw [HG.out] at hx
          obtain rfl := Option.some.inj hx
          rw [Array.getElem?_setIfInBounds_self_of_lt (by have := HK.out.2.1; omega)]
        · rw [Array.getElem?_setIfInBounds_ne (fun h => e h.symm)]
          exact HK.out.2.2 t x (by omega) hx
    · obtain rfl : j = m.length := by omega
      go_wp2_with fail
      go_ret
      refine ⟨_, rfl, ⟨some ⟨W.heap.size, 0, none⟩, m.length, by rw [List.length_map]; rfl, by rw [List.length_map]; exact Nat.le_refl _, by unfold maxLen; omega, fun h0 => ⟨_, 0, rfl, hbz, fun i s hs jj x hx => ?_⟩⟩, hbl⟩
      rw [List.getElem?_map, Option.map_eq_some_iff] at hs
      obtain ⟨y, hy, rfl⟩ := hs
      have hj0 : jj = 0 := by have := (List.getElem?_eq_some_iff.1 hx).1; simp [strRow] at this; omega
      subst hj0
      simp [strRow] at hx
      subst hx
      rw [Nat.zero_add, Nat.mul_one, Nat.add_zero, hB.cell]
      exact HK.out.2.2 i y (List.getElem?_eq_some_iff.1 hy).1 hy
end Go.Proofs.YtgakjhaepdigpaaGreatDoor
