
/- Statements that are drawn. -/
import Derived.Test.YtgakjhaepdigpaaGreatDoorDwEB
namespace Go.Proofs.YtgakjhaepdigpaaGreatDoor
set_option maxRecDepth 100000
set_option linter.unusedSimpArgs false
set_option linter.unusedVariables false
open Go.RowKit
attribute [local go_sem] bs_toList bs_get bs_size

theorem bs_nil : bs [] = ⟨#[]⟩ := rfl
def cNew : Bytes := [110, 101, 119]
/-- a drawn name: short, and not the one that is new -/
abbrev NwOk (s : Bytes) : Prop := s ≠ cNew ∧ s.length ≤ 100
def DrewS (rb p q : Nat) (w : World) (e : Ending) (w' : World) : Prop := ∃ (v : Value) (s : Sm) (p' : Nat), e = .returned v ∧ DrV w.heap.size w' v s ∧ NwOk s.name ∧ Rd w' rb p' ∧ p' ≤ p + q ∧ w.grownBy w' (some rb)
/-- as DrewS; and no part of its trees is called w -/
def DrewW (rb p q : Nat) (w : World) (e : Ending) (w' : World) : Prop := ∃ (v : Value) (s : Sm) (p' : Nat), e = .returned v ∧ DrV w.heap.size w' v s ∧ NwOk s.name ∧ Rd w' rb p' ∧ p' ≤ p + q ∧ w.grownBy w' (some rb) ∧ NoW s.ex ∧ NoW s.th
theorem DrewW.e {rb p q : Nat} {w w' : World} {e : Ending} (h : DrewW rb p q w e w') : DrewS rb p q w e w' := by
  obtain ⟨v, x, p', h1, h2, h3, h4, h5, h6, _⟩ := h
  exact ⟨v, x, p', h1, h2, h3, h4, h5, h6⟩
theorem ne_new {l : List Bytes} {s : Bytes} (h : s ∈ l) (hl : l.all (fun x => decide (NwOk x)) = true) : NwOk s := by
  rw [List.all_eq_true] at hl
  simpa using hl s h
def zS : Array Value := #[.int .i64 0, .string (bs []), .string (bs []), .int .i64 0, .int .i64 0, .string (bs []), .slice none 0 0, .int .i64 0, .int .i64 0, .string (bs []), .slice none 0 0]
/-- the cells of a statement -/
def cS (k : Int) (nm ty : Bytes) (k1 n1 : Int) (s1 : Bytes) (v1 : Value) (k2 n2 : Int) (s2 : Bytes) (v2 : Value) : Array Value := #[.int .i64 k, .string (bs nm), .string (bs ty), .int .i64 k1, .int .i64 n1, .string (bs s1), v1, .int .i64 k2, .int .i64 n2, .string (bs s2), v2]
theorem DrV.of {lo : Nat} {w : World} {k k1 n1 k2 n2 : Int} {nm ty s1 s2 : Bytes} {v1 v2 : Value} {a b : Ex} (h1 : DrE lo w (.agg #[.int .i64 k1, .int .i64 n1, .string (bs s1), v1]) a) (h2 : DrE lo w (.agg #[.int .i64 k2, .int .i64 n2, .string (bs s2), v2]) b) (hn : nm.length ≤ 9223372036854775807) (ht : ty.length ≤ 9223372036854775807) :
    DrV lo w (.agg (cS k nm ty k1 n1 s1 v1 k2 n2 s2 v2)) ⟨k, nm, ty, a, b⟩ := by
  obtain ⟨kv, he, hs, hk⟩ := h1
  obtain ⟨kv', he', hs', hk'⟩ := h2
  simp at he he'
  obtain ⟨rfl, rfl, hss, rfl⟩ := he
  obtain ⟨rfl, rfl, hss', rfl⟩ := he'
  have e1 := bs_inj hss
  have e2 := bs_inj hss'
  subst e1 e2
  exact ⟨⟨k, nm, ty, a.kind, a.n, a.s, v1, b.kind, b.n, b.s, v2⟩, rfl, rfl, rfl, rfl, rfl, rfl, rfl, rfl, rfl, rfl, ⟨hn, ht, hs, hs'⟩, hk, hk'⟩
theorem DrE.none (lo : Nat) (w : World) : DrE lo w (.agg #[.int .i64 0, .int .i64 0, .string (bs []), .slice .none 0 0]) Ex.none := DrE.of (by simp) (DrK.nil _ _)
set_option maxHeartbeats 4000000 in
theorem l5Some_nw (rb p : Nat) (w : World) (h : Rd w rb p) (hp : p + 268 ≤ 1000000) : Calls Tryz.prog 119 #[.pointer (some ⟨rb, 0, none⟩)] w (DrewW rb p 268 w) := by
  have hrb := h.lt
  have hq0 : w.heap.size ≠ rb := by omega
  have hq1 : rb ≠ w.heap.size := by omega
  go_enter Tryz.func119, Tryz.ntmps119
  go_upto_region 1 with fail
  generalize hW : World.alloc w _ = W1
  have hz1 : w.heap.size + 1 ≤ W1.heap.size := by rw [← hW]; simp
  have hR1 : Rd W1 rb p := by rw [← hW]; exact h.alloc _
  have hg1 : w.grownBy W1 (some rb) := by rw [← hW]; exact grown_al (grown_rfl _ _) _
  have KB := Lib.hid (show ∀ w' : World, W1.grownBy w' (some rb) → Blk w' w.heap.size 26 zS from fun w' hh => blk_gr (by rw [← hW]; exact Blk.new _ _ _) hh hq0)
  clear hW h
  go_wp2_with fail
  refine (num_any rb _ W1.heap.size [1, 1, 2, 2, 3, 3, 0] _ (hR1.alloc _) (by omega) (by simp) (by simp) (by omega) (Blk.new _ _ _)).mono ?_
  rintro r w2 ⟨k, rfl, hR2, hg2⟩
  have hgw2 : W1.grownBy w2 (some rb) := by (repeat (first | with_reducible assumption | with_reducible exact grown_rfl _ _ | with_reducible refine grown_al ?_ _ | with_reducible refine grown_sn ?_ (by first | omega | (simp; done) | (simp; omega)) _ _ | with_reducible refine grown_dr ?_ | with_reducible refine grown_tr ?_ hg2))
  have hz2 := hgw2.size
  go_wp2_with fail
  refine (l4Some_nw rb _ _ hR2 (by omega)).mono ?_
  rintro r w3 ⟨v3, x3, p3, rfl, hE3, hR3, hp3, hg3, hN3⟩
  have hgw3 : W1.grownBy w3 (some rb) := grown_tr hgw2 hg3
  have hz3 := hgw3.size
  have hX3 := hE3.less (lo' := w.heap.size + 1) (by omega)
  obtain ⟨k1, n1, s1, A1, cp1, l1, hx3, rfl, hs1, hc1, hm1, hK1⟩ := hE3.form
  have HX3 := Lib.hid hX3
  clear hE3 hX3 hK1 hg3 hR2 hgw2 hg2
  have q2 : w3.heap.size ≠ rb := by omega
  have q3 : w.heap.size ≠ w3.heap.size := by omega
  have q4 : w3.heap.size ≠ w.heap.size := by omega
  go_upto_region 2 with fail
  generalize hW4 : World.alloc w3 _ = W4
  have hB4 : Blk W4 w3.heap.size 26 (cS k [] [] k1 n1 s1 (.slice A1 l1.length cp1) 0 0 [] (.slice none 0 0)) := by rw [← hW4]; exact Blk.new _ _ _
  have hR4 : Rd W4 rb p3 := by rw [← hW4]; exact hR3.alloc _
  have hg4 : w3.grownBy W4 (some rb) := by rw [← hW4]; exact grown_al (grown_rfl _ _) _
  have hz4 := hB4.lt
  clear hW4 hR3
  have c0 := hB4.cell 0
  simp [cS] at c0
  by_cases e0 : k = 0
  · subst e0
    have hgz := grown_tr hgw3 hg4
    have hN := DrE.none (w.heap.size + 1) W4
    clear hB4 hg4 HX3
    have B3 := KB.out W4 hgz
    have z0 := (B3).frozen 0; have z1 := (B3).frozen 1; have z2 := (B3).frozen 2; have z3 := (B3).frozen 3; have z4 := (B3).frozen 4; have z5 := (B3).frozen 5; have z6 := (B3).frozen 6; have z7 := (B3).frozen 7; have z8 := (B3).frozen 8; have z9 := (B3).frozen 9; have z10 := (B3).frozen 10
    have b0 := (B3).cell 0; have b1 := (B3).cell 1; have b2 := (B3).cell 2; have b3 := (B3).cell 3; have b4 := (B3).cell 4; have b5 := (B3).cell 5; have b6 := (B3).cell 6; have b7 := (B3).cell 7; have b8 := (B3).cell 8; have b9 := (B3).cell 9; have b10 := (B3).cell 10
    simp [cS, zS] at b0 b1 b2 b3 b4 b5 b6 b7 b8 b9 b10
    have HX := Lib.hid (And.intro hR4 (And.intro hgz (And.intro hg1 (And.intro hN (And.intro hN (And.intro (show ([] : Bytes).length ≤ 9223372036854775807 by simp) (And.intro (show ([] : Bytes).length ≤ 9223372036854775807 by simp) (show NwOk [] by decide))))))))
    clear B3 KB
    go_wp2_with fail
    refine bodyPost_ret (v := .agg (cS 0 [] [] 0 0 [] (.slice none 0 0) 0 0 [] (.slice none 0 0))) (by simp [results, Tryz.results119, go_sem, cS, bs_nil, *]) rfl ?_
    obtain ⟨hRz, hgz, hg1, hEz, hEy, hNz, hTz, hNNz⟩ := HX.out
    exact ⟨_, ⟨0, [], [], Ex.none, Ex.none⟩, p3, rfl, DrV.of ((hEz.grown (r := some w.heap.size) (by (repeat (first | with_reducible assumption | with_reducible exact grown_rfl _ _ | with_reducible refine grown_st ?_ _ _ | with_reducible refine grown_al ?_ _))) (fun q e => by have := Option.some.inj e; omega)).less (by omega)) ((hEy.grown (r := some w.heap.size) (by (repeat (first | with_reducible assumption | with_reducible exact grown_rfl _ _ | with_reducible refine grown_st ?_ _ _ | with_reducible refine grown_al ?_ _))) (fun q e => by have := Option.some.inj e; omega)).less (by omega)) hNz hTz, hNNz, by (repeat (first | with_reducible assumption | with_reducible refine Rd.alloc ?_ _ | with_reducible refine Rd.drew ?_ | with_reducible refine Rd.drewN ?_ _ | with_reducible refine Rd.setN ?_ (by first | omega | (simp; done) | (simp; omega)) _ _)), by omega, by (repeat (first | with_reducible assumption | with_reducible exact grown_rfl _ _ | with_reducible refine grown_al ?_ _ | with_reducible refine grown_sn ?_ (by first | omega | (simp; done) | (simp; omega)) _ _ | with_reducible refine grown_dr ?_ | with_reducible refine grown_tr ?_ hgz | with_reducible refine grown_tr ?_ hg1)), NoW.none, NoW.none⟩
  have d0 : (k == 0) = false := by simpa using e0
  by_cases e1 : k = 1
  · subst e1
    go_wp2_with fail
    refine (of_any rb _ W4.heap.size [[120], [121], [122]] _ (hR4.alloc _) (by omega) (by simp) (by simp) (by omega) (Blk.new _ _ _)).mono ?_
    rintro r w5 ⟨s5, rfl, hs5, hR5, hg5⟩
    have hB5 := blk_gr (hB4.alloc (.cells ([[120], [121], [122]].map (fun s : Bytes => Value.string (bs s))).toArray 9)) hg5 q2
    have hg35 : w3.grownBy w5 (some rb) := by (repeat (first | with_reducible assumption | with_reducible exact grown_rfl _ _ | with_reducible refine grown_al ?_ _ | with_reducible refine grown_sn ?_ (by first | omega | (simp; done) | (simp; omega)) _ _ | with_reducible refine grown_dr ?_ | with_reducible refine grown_tr ?_ hg5 | with_reducible refine grown_tr ?_ hg4))
    have hz5 := hg35.size
    have HN := Lib.hid (And.intro (len_words hs5 (by decide)) (ne_new hs5 (by decide)))
    have y1 := hB5.frozen 1
    have c1 := hB5.cell 1
    simp [cS] at c1
    have hB5' := hB5.set_ 1 (.string (bs s5))
    have hR5' := hR5.setN (b := w3.heap.size) (by omega) 1 (.string (bs s5))
    have hg5' := grown_sn hg35 (b := w3.heap.size) (Nat.le_refl _) 1 (.string (bs s5))
    clear hB4 hR4 hg4 hB5 hg5 hg35 hs5 hR5 c0
    go_upto_region 7 with fail
    generalize hW6 : World.setCell w5 _ _ = W6 at *
    clear hW6
    go_wp2_with fail
    refine (of_any rb _ W6.heap.size [[105, 110, 116], [105, 110, 116], [98, 111, 111, 108]] _ (hR5'.alloc _) (by omega) (by simp) (by simp) (by have := hB5'.lt; omega) (Blk.new _ _ _)).mono ?_
    rintro r w7 ⟨s7, rfl, hs7, hR7, hg7⟩
    have hB7 := blk_gr (hB5'.alloc (.cells ([[105, 110, 116], [105, 110, 116], [98, 111, 111, 108]].map (fun s : Bytes => Value.string (bs s))).toArray 9)) hg7 q2
    have hg37 : w3.grownBy w7 (some rb) := by (repeat (first | with_reducible assumption | with_reducible exact grown_rfl _ _ | with_reducible refine grown_al ?_ _ | with_reducible refine grown_sn ?_ (by first | omega | (simp; done) | (simp; omega)) _ _ | with_reducible refine grown_dr ?_ | with_reducible refine grown_tr ?_ hg7 | with_reducible refine grown_tr ?_ hg5'))
    have HN7 := Lib.hid (len_words hs7 (by decide))
    have y2 := hB7.frozen 2
    have c2 := hB7.cell 2
    simp [cS] at c2
    have hB8 := hB7.set_ 2 (.string (bs s7))
    have hR8 := hR7.setN (b := w3.heap.size) (by omega) 2 (.string (bs s7))
    have hg8 := grown_sn hg37 (b := w3.heap.size) (Nat.le_refl _) 2 (.string (bs s7))
    clear hB5' hg5' hg7 hs7 hR5' hg37 hB7 hR7
    go_upto_region 10 with fail
    generalize hW8 : World.setCell w7 _ _ = W8 at *
    clear hW8 y2 c2
    have hE8 := HX3.out.grown hg8 (fun q e => by have := Option.some.inj e; omega)
    have hN8 := DrE.none (w.heap.size + 1) W8
    have hgz := grown_tr hgw3 hg8
    have hB9 : Blk W8 w3.heap.size 26 (cS 1 s5 s7 k1 n1 s1 (.slice A1 l1.length cp1) 0 0 [] (.slice none 0 0)) := hB8
    have y0 := (hB9).frozen 0; have y1 := (hB9).frozen 1; have y2 := (hB9).frozen 2; have y3 := (hB9).frozen 3; have y4 := (hB9).frozen 4; have y5 := (hB9).frozen 5; have y6 := (hB9).frozen 6; have y7 := (hB9).frozen 7; have y8 := (hB9).frozen 8; have y9 := (hB9).frozen 9; have y10 := (hB9).frozen 10
    have e0 := (hB9).cell 0; have e1 := (hB9).cell 1; have e2 := (hB9).cell 2; have e3 := (hB9).cell 3; have e4 := (hB9).cell 4; have e5 := (hB9).cell 5; have e6 := (hB9).cell 6; have e7 := (hB9).cell 7; have e8 := (hB9).cell 8; have e9 := (hB9).cell 9; have e10 := (hB9).cell 10
    simp [cS, zS] at e0 e1 e2 e3 e4 e5 e6 e7 e8 e9 e10
    clear hB8 hB9 hg8 HX3
    have B3 := KB.out W8 hgz
    have z0 := (B3).frozen 0; have z1 := (B3).frozen 1; have z2 := (B3).frozen 2; have z3 := (B3).frozen 3; have z4 := (B3).frozen 4; have z5 := (B3).frozen 5; have z6 := (B3).frozen 6; have z7 := (B3).frozen 7; have z8 := (B3).frozen 8; have z9 := (B3).frozen 9; have z10 := (B3).frozen 10
    have b0 := (B3).cell 0; have b1 := (B3).cell 1; have b2 := (B3).cell 2; have b3 := (B3).cell 3; have b4 := (B3).cell 4; have b5 := (B3).cell 5; have b6 := (B3).cell 6; have b7 := (B3).cell 7; have b8 := (B3).cell 8; have b9 := (B3).cell 9; have b10 := (B3).cell 10
    simp [cS, zS] at b0 b1 b2 b3 b4 b5 b6 b7 b8 b9 b10
    have HX := Lib.hid (And.intro hR8 (And.intro hgz (And.intro hg1 (And.intro hE8 (And.intro hN8 (And.intro HN.out.1 (And.intro HN7.out HN.out.2)))))))
    clear B3 KB
    go_wp2_with fail
    refine bodyPost_ret (v := .agg (cS 1 s5 s7 k1 n1 s1 (.slice A1 l1.length cp1) 0 0 [] (.slice none 0 0))) (by simp [results, Tryz.results119, go_sem, cS, bs_nil, *]) rfl ?_
    obtain ⟨hRz, hgz, hg1, hEz, hEy, hNz, hTz, hNNz⟩ := HX.out
    exact ⟨_, ⟨1, s5, s7, x3, Ex.none⟩, (p3 + 1 + 1), rfl, DrV.of ((hEz.grown (r := some w.heap.size) (by (repeat (first | with_reducible assumption | with_reducible exact grown_rfl _ _ | with_reducible refine grown_st ?_ _ _ | with_reducible refine grown_al ?_ _))) (fun q e => by have := Option.some.inj e; omega)).less (by omega)) ((hEy.grown (r := some w.heap.size) (by (repeat (first | with_reducible assumption | with_reducible exact grown_rfl _ _ | with_reducible refine grown_st ?_ _ _ | with_reducible refine grown_al ?_ _))) (fun q e => by have := Option.some.inj e; omega)).less (by omega)) hNz hTz, hNNz, by (repeat (first | with_reducible assumption | with_reducible refine Rd.alloc ?_ _ | with_reducible refine Rd.drew ?_ | with_reducible refine Rd.drewN ?_ _ | with_reducible refine Rd.setN ?_ (by first | omega | (simp; done) | (simp; omega)) _ _)), by omega, by (repeat (first | with_reducible assumption | with_reducible exact grown_rfl _ _ | with_reducible refine grown_al ?_ _ | with_reducible refine grown_sn ?_ (by first | omega | (simp; done) | (simp; omega)) _ _ | with_reducible refine grown_dr ?_ | with_reducible refine grown_tr ?_ hgz | with_reducible refine grown_tr ?_ hg1)), hN3, NoW.none⟩
  have d1 : (k == 1) = false := by simpa using e1
  by_cases e3 : k = 3
  · subst e3
    go_wp2_with fail
    refine (l4Expr_nw 2 rb _ W4 hR4 (by have : cst 2 = 40 := (by decide); omega) (by omega)).mono ?_
    rintro r w5 ⟨v5, x5, p5, rfl, hE5, hR5, hp5, hg5, hN5⟩
    have hc2 : cst 2 = 40 := by decide
    have hX5 := hE5.less (lo' := w.heap.size + 1) (by omega)
    have hX6 : DrE (w3.heap.size + 1) w5 v5 x5 := hE5.less (by omega)
    obtain ⟨k2, n2, s2, A2, cp2, l2, hx5, rfl, hs2, hc2', hm2, hK2⟩ := hE5.form
    have hB5 := blk_gr hB4 hg5 q2
    have hg35 : w3.grownBy w5 (some rb) := by (repeat (first | with_reducible assumption | with_reducible exact grown_rfl _ _ | with_reducible refine grown_al ?_ _ | with_reducible refine grown_sn ?_ (by first | omega | (simp; done) | (simp; omega)) _ _ | with_reducible refine grown_dr ?_ | with_reducible refine grown_tr ?_ hg5 | with_reducible refine grown_tr ?_ hg4))
    have y7 := hB5.frozen 7; have y8 := hB5.frozen 8; have y9 := hB5.frozen 9; have y10 := hB5.frozen 10
    have c7 := hB5.cell 7; have c8 := hB5.cell 8; have c9 := hB5.cell 9; have c10 := hB5.cell 10
    simp [cS] at c7 c8 c9 c10
    have hB8 := (((hB5.set_ 7 (.int .i64 k2)).set_ 8 (.int .i64 n2)).set_ 9 (.string (bs s2))).set_ 10 (.slice A2 l2.length cp2)
    have hR8 := (((hR5.setN (b := w3.heap.size) (by omega) 7 (.int .i64 k2)).setN (b := w3.heap.size) (by omega) 8 (.int .i64 n2)).setN (b := w3.heap.size) (by omega) 9 (.string (bs s2))).setN (b := w3.heap.size) (by omega) 10 (.slice A2 l2.length cp2)
    have hg8 := grown_sn (grown_sn (grown_sn (grown_sn hg35 (b := w3.heap.size) (Nat.le_refl _) 7 (.int .i64 k2)) (b := w3.heap.size) (Nat.le_refl _) 8 (.int .i64 n2)) (b := w3.heap.size) (Nat.le_refl _) 9 (.string (bs s2))) (b := w3.heap.size) (Nat.le_refl _) 10 (.slice A2 l2.length cp2)
    have hg58 : w5.grownBy ((((w5.setCell ⟨w3.heap.size, 7, none⟩ (.int .i64 k2)).setCell ⟨w3.heap.size, 8, none⟩ (.int .i64 n2)).setCell ⟨w3.heap.size, 9, none⟩ (.string (bs s2))).setCell ⟨w3.heap.size, 10, none⟩ (.slice A2 l2.length cp2)) (some w3.heap.size) := by (repeat (first | with_reducible assumption | with_reducible exact grown_rfl _ _ | with_reducible refine grown_st ?_ _ _ | with_reducible refine grown_al ?_ _))
    clear hB4 hR4 hg4 hB5 hR5 hg5 hg35 hK2 c0 hE5
    go_upto_region 10 with fail
    generalize hW8 : World.setCell (World.setCell _ _ _) _ _ = W8 at *
    clear hW8 y7 y8 y9 y10 c7 c8 c9 c10
    have hE8 := HX3.out.grown hg8 (fun q e => by have := Option.some.inj e; omega)
    have hY8 := (hX6.grown hg58 (fun q e => by have := Option.some.inj e; omega)).less (lo' := w.heap.size + 1) (by omega)
    have hgz := grown_tr hgw3 hg8
    have hB9 : Blk W8 w3.heap.size 26 (cS 3 [] [] k1 n1 s1 (.slice A1 l1.length cp1) k2 n2 s2 (.slice A2 l2.length cp2)) := hB8
    have y0 := (hB9).frozen 0; have y1 := (hB9).frozen 1; have y2 := (hB9).frozen 2; have y3 := (hB9).frozen 3; have y4 := (hB9).frozen 4; have y5 := (hB9).frozen 5; have y6 := (hB9).frozen 6; have y7 := (hB9).frozen 7; have y8 := (hB9).frozen 8; have y9 := (hB9).frozen 9; have y10 := (hB9).frozen 10
    have e0 := (hB9).cell 0; have e1 := (hB9).cell 1; have e2 := (hB9).cell 2; have e3 := (hB9).cell 3; have e4 := (hB9).cell 4; have e5 := (hB9).cell 5; have e6 := (hB9).cell 6; have e7 := (hB9).cell 7; have e8 := (hB9).cell 8; have e9 := (hB9).cell 9; have e10 := (hB9).cell 10
    simp [cS, zS] at e0 e1 e2 e3 e4 e5 e6 e7 e8 e9 e10
    clear hB8 hB9 hg8 HX3 hg58 hX5 hX6
    have B3 := KB.out W8 hgz
    have z0 := (B3).frozen 0; have z1 := (B3).frozen 1; have z2 := (B3).frozen 2; have z3 := (B3).frozen 3; have z4 := (B3).frozen 4; have z5 := (B3).frozen 5; have z6 := (B3).frozen 6; have z7 := (B3).frozen 7; have z8 := (B3).frozen 8; have z9 := (B3).frozen 9; have z10 := (B3).frozen 10
    have b0 := (B3).cell 0; have b1 := (B3).cell 1; have b2 := (B3).cell 2; have b3 := (B3).cell 3; have b4 := (B3).cell 4; have b5 := (B3).cell 5; have b6 := (B3).cell 6; have b7 := (B3).cell 7; have b8 := (B3).cell 8; have b9 := (B3).cell 9; have b10 := (B3).cell 10
    simp [cS, zS] at b0 b1 b2 b3 b4 b5 b6 b7 b8 b9 b10
    have HX := Lib.hid (And.intro hR8 (And.intro hgz (And.intro hg1 (And.intro hE8 (And.intro hY8 (And.intro (show ([] : Bytes).length ≤ 9223372036854775807 by simp) (And.intro (show ([] : Bytes).length ≤ 9223372036854775807 by simp) (show NwOk [] by decide))))))))
    clear B3 KB
    go_wp2_with fail
    refine bodyPost_ret (v := .agg (cS 3 [] [] k1 n1 s1 (.slice A1 l1.length cp1) k2 n2 s2 (.slice A2 l2.length cp2))) (by simp [results, Tryz.results119, go_sem, cS, bs_nil, *]) rfl ?_
    obtain ⟨hRz, hgz, hg1, hEz, hEy, hNz, hTz, hNNz⟩ := HX.out
    exact ⟨_, ⟨3, [], [], x3, x5⟩, p5, rfl, DrV.of ((hEz.grown (r := some w.heap.size) (by (repeat (first | with_reducible assumption | with_reducible exact grown_rfl _ _ | with_reducible refine grown_st ?_ _ _ | with_reducible refine grown_al ?_ _))) (fun q e => by have := Option.some.inj e; omega)).less (by omega)) ((hEy.grown (r := some w.heap.size) (by (repeat (first | with_reducible assumption | with_reducible exact grown_rfl _ _ | with_reducible refine grown_st ?_ _ _ | with_reducible refine grown_al ?_ _))) (fun q e => by have := Option.some.inj e; omega)).less (by omega)) hNz hTz, hNNz, by (repeat (first | with_reducible assumption | with_reducible refine Rd.alloc ?_ _ | with_reducible refine Rd.drew ?_ | with_reducible refine Rd.drewN ?_ _ | with_reducible refine Rd.setN ?_ (by first | omega | (simp; done) | (simp; omega)) _ _)), by omega, by (repeat (first | with_reducible assumption | with_reducible exact grown_rfl _ _ | with_reducible refine grown_al ?_ _ | with_reducible refine grown_sn ?_ (by first | omega | (simp; done) | (simp; omega)) _ _ | with_reducible refine grown_dr ?_ | with_reducible refine grown_tr ?_ hgz | with_reducible refine grown_tr ?_ hg1)), hN3, hN5⟩
  have d3 : (k == 3) = false := by simpa using e3
  have hE8 := HX3.out.grown hg4 (fun q e => by have := Option.some.inj e; omega)
  have hN8 := DrE.none (w.heap.size + 1) W4
  have hgz := grown_tr hgw3 hg4
  have y0 := (hB4).frozen 0; have y1 := (hB4).frozen 1; have y2 := (hB4).frozen 2; have y3 := (hB4).frozen 3; have y4 := (hB4).frozen 4; have y5 := (hB4).frozen 5; have y6 := (hB4).frozen 6; have y7 := (hB4).frozen 7; have y8 := (hB4).frozen 8; have y9 := (hB4).frozen 9; have y10 := (hB4).frozen 10
  have e0 := (hB4).cell 0; have e1 := (hB4).cell 1; have e2 := (hB4).cell 2; have e3 := (hB4).cell 3; have e4 := (hB4).cell 4; have e5 := (hB4).cell 5; have e6 := (hB4).cell 6; have e7 := (hB4).cell 7; have e8 := (hB4).cell 8; have e9 := (hB4).cell 9; have e10 := (hB4).cell 10
  simp [cS, zS] at e0 e1 e2 e3 e4 e5 e6 e7 e8 e9 e10
  clear hB4 hg4 HX3 c0
  have B3 := KB.out W4 hgz
  have z0 := (B3).frozen 0; have z1 := (B3).frozen 1; have z2 := (B3).frozen 2; have z3 := (B3).frozen 3; have z4 := (B3).frozen 4; have z5 := (B3).frozen 5; have z6 := (B3).frozen 6; have z7 := (B3).frozen 7; have z8 := (B3).frozen 8; have z9 := (B3).frozen 9; have z10 := (B3).frozen 10
  have b0 := (B3).cell 0; have b1 := (B3).cell 1; have b2 := (B3).cell 2; have b3 := (B3).cell 3; have b4 := (B3).cell 4; have b5 := (B3).cell 5; have b6 := (B3).cell 6; have b7 := (B3).cell 7; have b8 := (B3).cell 8; have b9 := (B3).cell 9; have b10 := (B3).cell 10
  simp [cS, zS] at b0 b1 b2 b3 b4 b5 b6 b7 b8 b9 b10
  have HX := Lib.hid (And.intro hR4 (And.intro hgz (And.intro hg1 (And.intro hE8 (And.intro hN8 (And.intro (show ([] : Bytes).length ≤ 9223372036854775807 by simp) (And.intro (show ([] : Bytes).length ≤ 9223372036854775807 by simp) (show NwOk [] by decide))))))))
  clear B3 KB
  go_wp2_with fail
  refine bodyPost_ret (v := .agg (cS k [] [] k1 n1 s1 (.slice A1 l1.length cp1) 0 0 [] (.slice none 0 0))) (by simp [results, Tryz.results119, go_sem, cS, bs_nil, *]) rfl ?_
  obtain ⟨hRz, hgz, hg1, hEz, hEy, hNz, hTz, hNNz⟩ := HX.out
  exact ⟨_, ⟨k, [], [], x3, Ex.none⟩, p3, rfl, DrV.of ((hEz.grown (r := some w.heap.size) (by (repeat (first | with_reducible assumption | with_reducible exact grown_rfl _ _ | with_reducible refine grown_st ?_ _ _ | with_reducible refine grown_al ?_ _))) (fun q e => by have := Option.some.inj e; omega)).less (by omega)) ((hEy.grown (r := some w.heap.size) (by (repeat (first | with_reducible assumption | with_reducible exact grown_rfl _ _ | with_reducible refine grown_st ?_ _ _ | with_reducible refine grown_al ?_ _))) (fun q e => by have := Option.some.inj e; omega)).less (by omega)) hNz hTz, hNNz, by (repeat (first | with_reducible assumption | with_reducible refine Rd.alloc ?_ _ | with_reducible refine Rd.drew ?_ | with_reducible refine Rd.drewN ?_ _ | with_reducible refine Rd.setN ?_ (by first | omega | (simp; done) | (simp; omega)) _ _)), by omega, by (repeat (first | with_reducible assumption | with_reducible exact grown_rfl _ _ | with_reducible refine grown_al ?_ _ | with_reducible refine grown_sn ?_ (by first | omega | (simp; done) | (simp; omega)) _ _ | with_reducible refine grown_dr ?_ | with_reducible refine grown_tr ?_ hgz | with_reducible refine grown_tr ?_ hg1)), hN3, NoW.none⟩
theorem DrV.form {lo : Nat} {w : World} {v : Value} {s : Sm} (h : DrV lo w v s) : ∃ (k : Int) (nm ty : Bytes) (k1 n1 : Int) (s1 : Bytes) (A1 : Option Addr) (m1 c1 : Nat) (k2 n2 : Int) (s2 : Bytes) (A2 : Option Addr) (m2 c2 : Nat) (a b : Ex),
    v = .agg #[.int .i64 k, .string (bs nm), .string (bs ty), .int .i64 k1, .int .i64 n1, .string (bs s1), .slice A1 m1 c1, .int .i64 k2, .int .i64 n2, .string (bs s2), .slice A2 m2 c2] ∧ s = ⟨k, nm, ty, a, b⟩ ∧
      DrE lo w (.agg #[.int .i64 k1, .int .i64 n1, .string (bs s1), .slice A1 m1 c1]) a ∧ DrE lo w (.agg #[.int .i64 k2, .int .i64 n2, .string (bs s2), .slice A2 m2 c2]) b ∧ nm.length ≤ 9223372036854775807 ∧ ty.length ≤ 9223372036854775807 := by
  obtain ⟨⟨k, nm, ty, k1, n1, s1, v1, k2, n2, s2, v2⟩, rfl, h1, h2, h3, h4, h5, h6, h7, h8, h9, ⟨g1, g2, g3, g4⟩, x1, x2⟩ := h
  obtain ⟨k', nm', ty', a, b⟩ := s
  simp only at h1 h2 h3 h4 h5 h6 h7 h8 h9 x1 x2 g1 g2 g3 g4
  subst h1 h2 h3 h4 h5 h6 h7 h8 h9
  obtain ⟨A1, c1, rfl, _, _⟩ := x1.val
  obtain ⟨A2, c2, rfl, _, _⟩ := x2.val
  exact ⟨k, nm, ty, _, _, _, A1, _, c1, _, _, _, A2, _, c2, a, b, rfl, rfl, ⟨_, rfl, g3, x1⟩, ⟨_, rfl, g4, x2⟩, g1, g2⟩
set_option maxHeartbeats 4000000 in
theorem l5Bent_nw (rb p : Nat) (w : World) (h : Rd w rb p) (hp : p + 496 ≤ 1000000) : Calls Tryz.prog 61 #[.pointer (some ⟨rb, 0, none⟩)] w (DrewW rb p 496 w) := by
  have hrb := h.lt
  have hq0 : w.heap.size ≠ rb := by omega
  have hq1 : rb ≠ w.heap.size := by omega
  go_enter Tryz.func61, Tryz.ntmps61
  go_upto_region 1 with fail
  generalize hW : World.alloc w _ = W1
  have hz1 : w.heap.size + 1 ≤ W1.heap.size := by rw [← hW]; simp
  have hR1 : Rd W1 rb p := by rw [← hW]; exact h.alloc _
  have hg1 : w.grownBy W1 (some rb) := by rw [← hW]; exact grown_al (grown_rfl _ _) _
  have KB := Lib.hid (show ∀ w' : World, W1.grownBy w' (some rb) → Blk w' w.heap.size 26 zS from fun w' hh => blk_gr (by rw [← hW]; exact Blk.new _ _ _) hh hq0)
  clear hW h
  go_wp2_with fail
  refine (l5Some_nw rb _ _ hR1 (by omega)).mono ?_
  rintro r w3 ⟨v3, s3, p3, rfl, hV3, hNN, hR3, hp3, hgw3, hNe, hNt⟩
  have hz3 := hgw3.size
  obtain ⟨k, nm, ty, k1, n1, s1, A1, m1, cp1, k2, n2, s2, A2, m2, cp2, x1, x2, rfl, rfl, hX1, hX2, hl1, hl2⟩ := (hV3.less (lo' := w.heap.size + 1) (by omega)).form
  have HX3 := Lib.hid (And.intro hX1 hX2)
  have HL := Lib.hid (And.intro hl1 (And.intro hl2 (show NwOk nm from hNN)))
  clear hX1 hX2 hV3 hNN hl1 hl2
  have q2 : w3.heap.size ≠ rb := by omega
  have q3 : w.heap.size ≠ w3.heap.size := by omega
  have q4 : w3.heap.size ≠ w.heap.size := by omega
  go_upto_region 2 with fail
  generalize hW4 : World.alloc w3 _ = W4'
  have hB4' : Blk W4' w3.heap.size 26 (cS k nm ty k1 n1 s1 (.slice A1 m1 cp1) k2 n2 s2 (.slice A2 m2 cp2)) := by rw [← hW4]; exact Blk.new _ _ _
  have hR4' : Rd W4' rb p3 := by rw [← hW4]; exact hR3.alloc _
  have hg4' : w3.grownBy W4' (some rb) := by rw [← hW4]; exact grown_al (grown_rfl _ _) _
  clear hW4 hR3
  go_wp2_with fail
  refine (pick_any rb _ 40 _ hR4' (by omega) (by omega) (by omega)).mono ?_
  rintro r W4 ⟨k4, rfl, hk4, hk4', hR4, hgp⟩
  have hB4 := blk_gr hB4' hgp q2
  have hg4 := grown_tr hg4' hgp
  have hz4 := hB4.lt
  clear hR4' hg4' hB4' hgp
  by_cases e0 : k4 = 0
  · subst e0
    go_wp2_with fail
    refine (num_any rb _ W4.heap.size [0, 4, 1, 2, 3] _ (hR4.alloc _) (by omega) (by simp) (by simp) (by omega) (Blk.new _ _ _)).mono ?_
    rintro r w5 ⟨n5, rfl, hR5, hg5⟩
    have hB5 := blk_gr (hB4.alloc (.cells ([0, 4, 1, 2, 3].map (fun s : Int => Value.int .i64 s)).toArray 3)) hg5 q2
    have hg35 : w3.grownBy w5 (some rb) := by (repeat (first | with_reducible assumption | with_reducible exact grown_rfl _ _ | with_reducible refine grown_al ?_ _ | with_reducible refine grown_sn ?_ (by first | omega | (simp; done) | (simp; omega)) _ _ | with_reducible refine grown_dr ?_ | with_reducible refine grown_tr ?_ hg5 | with_reducible refine grown_tr ?_ hg4))
    have y0 := hB5.frozen 0
    have c0 := hB5.cell 0
    simp [cS] at c0
    have hB8 := hB5.set_ 0 (.int .i64 n5)
    have hR8 := hR5.setN (b := w3.heap.size) (by omega) 0 (.int .i64 n5)
    have hg8 := grown_sn hg35 (b := w3.heap.size) (Nat.le_refl _) 0 (.int .i64 n5)
    clear hB4 hR4 hg4 hB5 hg5 hg35 hR5
    go_upto_region 11 with fail
    generalize hW8 : World.setCell w5 _ _ = W8 at *
    clear hW8 y0 c0
    have hE8 := HX3.out.1.grown hg8 (fun q e => by have := Option.some.inj e; omega)
    have hN8 := HX3.out.2.grown hg8 (fun q e => by have := Option.some.inj e; omega)
    have hgz := grown_tr hgw3 hg8
    have hB9 : Blk W8 w3.heap.size 26 (cS n5 nm ty k1 n1 s1 (.slice A1 m1 cp1) k2 n2 s2 (.slice A2 m2 cp2)) := hB8
    have y0 := (hB9).frozen 0; have y1 := (hB9).frozen 1; have y2 := (hB9).frozen 2; have y3 := (hB9).frozen 3; have y4 := (hB9).frozen 4; have y5 := (hB9).frozen 5; have y6 := (hB9).frozen 6; have y7 := (hB9).frozen 7; have y8 := (hB9).frozen 8; have y9 := (hB9).frozen 9; have y10 := (hB9).frozen 10
    have e0 := (hB9).cell 0; have e1 := (hB9).cell 1; have e2 := (hB9).cell 2; have e3 := (hB9).cell 3; have e4 := (hB9).cell 4; have e5 := (hB9).cell 5; have e6 := (hB9).cell 6; have e7 := (hB9).cell 7; have e8 := (hB9).cell 8; have e9 := (hB9).cell 9; have e10 := (hB9).cell 10
    simp [cS, zS] at e0 e1 e2 e3 e4 e5 e6 e7 e8 e9 e10
    clear hB8 hB9 hg8 HX3
    have B3 := KB.out W8 hgz
    have z0 := (B3).frozen 0; have z1 := (B3).frozen 1; have z2 := (B3).frozen 2; have z3 := (B3).frozen 3; have z4 := (B3).frozen 4; have z5 := (B3).frozen 5; have z6 := (B3).frozen 6; have z7 := (B3).frozen 7; have z8 := (B3).frozen 8; have z9 := (B3).frozen 9; have z10 := (B3).frozen 10
    have b0 := (B3).cell 0; have b1 := (B3).cell 1; have b2 := (B3).cell 2; have b3 := (B3).cell 3; have b4 := (B3).cell 4; have b5 := (B3).cell 5; have b6 := (B3).cell 6; have b7 := (B3).cell 7; have b8 := (B3).cell 8; have b9 := (B3).cell 9; have b10 := (B3).cell 10
    simp [cS, zS] at b0 b1 b2 b3 b4 b5 b6 b7 b8 b9 b10
    have HX := Lib.hid (And.intro hR8 (And.intro hgz (And.intro hg1 (And.intro hE8 (And.intro hN8 (And.intro HL.out.1 (And.intro HL.out.2.1 HL.out.2.2)))))))
    clear B3 KB
    go_wp2_with fail
    refine bodyPost_ret (v := .agg (cS n5 nm ty k1 n1 s1 (.slice A1 m1 cp1) k2 n2 s2 (.slice A2 m2 cp2))) (by simp [results, Tryz.results61, go_sem, cS, bs_nil, *]) rfl ?_
    obtain ⟨hRz, hgz, hg1, hEz, hEy, hNz, hTz, hNNz⟩ := HX.out
    exact ⟨_, ⟨n5, nm, ty, x1, x2⟩, (p3 + 1 + 1), rfl, DrV.of ((hEz.grown (r := some w.heap.size) (by (repeat (first | with_reducible assumption | with_reducible exact grown_rfl _ _ | with_reducible refine grown_st ?_ _ _ | with_reducible refine grown_al ?_ _))) (fun q e => by have := Option.some.inj e; omega)).less (by omega)) ((hEy.grown (r := some w.heap.size) (by (repeat (first | with_reducible assumption | with_reducible exact grown_rfl _ _ | with_reducible refine grown_st ?_ _ _ | with_reducible refine grown_al ?_ _))) (fun q e => by have := Option.some.inj e; omega)).less (by omega)) hNz hTz, hNNz, by (repeat (first | with_reducible assumption | with_reducible refine Rd.alloc ?_ _ | with_reducible refine Rd.drew ?_ | with_reducible refine Rd.drewN ?_ _ | with_reducible refine Rd.setN ?_ (by first | omega | (simp; done) | (simp; omega)) _ _)), by omega, by (repeat (first | with_reducible assumption | with_reducible exact grown_rfl _ _ | with_reducible refine grown_al ?_ _ | with_reducible refine grown_sn ?_ (by first | omega | (simp; done) | (simp; omega)) _ _ | with_reducible refine grown_dr ?_ | with_reducible refine grown_tr ?_ hgz | with_reducible refine grown_tr ?_ hg1)), hNe, hNt⟩
  have d0 : (k4 == 0) = false := by simpa using e0
  by_cases e1 : k4 = 1
  · subst e1
    go_wp2_with fail
    refine (of_any rb _ W4.heap.size [[120], [108, 101, 116], [88], []] _ (hR4.alloc _) (by omega) (by simp) (by simp) (by omega) (Blk.new _ _ _)).mono ?_
    rintro r w5 ⟨s5, rfl, hs5, hR5, hg5⟩
    have hB5 := blk_gr (hB4.alloc (.cells ([[120], [108, 101, 116], [88], []].map (fun s : Bytes => Value.string (bs s))).toArray 9)) hg5 q2
    have hg35 : w3.grownBy w5 (some rb) := by (repeat (first | with_reducible assumption | with_reducible exact grown_rfl _ _ | with_reducible refine grown_al ?_ _ | with_reducible refine grown_sn ?_ (by first | omega | (simp; done) | (simp; omega)) _ _ | with_reducible refine grown_dr ?_ | with_reducible refine grown_tr ?_ hg5 | with_reducible refine grown_tr ?_ hg4))
    have HN := Lib.hid (And.intro (len_words hs5 (by decide)) (ne_new hs5 (by decide)))
    have y1 := hB5.frozen 1
    have c1 := hB5.cell 1
    simp [cS] at c1
    have hB8 := hB5.set_ 1 (.string (bs s5))
    have hR8 := hR5.setN (b := w3.heap.size) (by omega) 1 (.string (bs s5))
    have hg8 := grown_sn hg35 (b := w3.heap.size) (Nat.le_refl _) 1 (.string (bs s5))
    clear hB4 hR4 hg4 hB5 hg5 hg35 hR5 hs5
    go_upto_region 11 with fail
    generalize hW8 : World.setCell w5 _ _ = W8 at *
    clear hW8 y1 c1
    have hE8 := HX3.out.1.grown hg8 (fun q e => by have := Option.some.inj e; omega)
    have hN8 := HX3.out.2.grown hg8 (fun q e => by have := Option.some.inj e; omega)
    have hgz := grown_tr hgw3 hg8
    have hB9 : Blk W8 w3.heap.size 26 (cS k s5 ty k1 n1 s1 (.slice A1 m1 cp1) k2 n2 s2 (.slice A2 m2 cp2)) := hB8
    have y0 := (hB9).frozen 0; have y1 := (hB9).frozen 1; have y2 := (hB9).frozen 2; have y3 := (hB9).frozen 3; have y4 := (hB9).frozen 4; have y5 := (hB9).frozen 5; have y6 := (hB9).frozen 6; have y7 := (hB9).frozen 7; have y8 := (hB9).frozen 8; have y9 := (hB9).frozen 9; have y10 := (hB9).frozen 10
    have e0 := (hB9).cell 0; have e1 := (hB9).cell 1; have e2 := (hB9).cell 2; have e3 := (hB9).cell 3; have e4 := (hB9).cell 4; have e5 := (hB9).cell 5; have e6 := (hB9).cell 6; have e7 := (hB9).cell 7; have e8 := (hB9).cell 8; have e9 := (hB9).cell 9; have e10 := (hB9).cell 10
    simp [cS, zS] at e0 e1 e2 e3 e4 e5 e6 e7 e8 e9 e10
    clear hB8 hB9 hg8 HX3
    have B3 := KB.out W8 hgz
    have z0 := (B3).frozen 0; have z1 := (B3).frozen 1; have z2 := (B3).frozen 2; have z3 := (B3).frozen 3; have z4 := (B3).frozen 4; have z5 := (B3).frozen 5; have z6 := (B3).frozen 6; have z7 := (B3).frozen 7; have z8 := (B3).frozen 8; have z9 := (B3).frozen 9; have z10 := (B3).frozen 10
    have b0 := (B3).cell 0; have b1 := (B3).cell 1; have b2 := (B3).cell 2; have b3 := (B3).cell 3; have b4 := (B3).cell 4; have b5 := (B3).cell 5; have b6 := (B3).cell 6; have b7 := (B3).cell 7; have b8 := (B3).cell 8; have b9 := (B3).cell 9; have b10 := (B3).cell 10
    simp [cS, zS] at b0 b1 b2 b3 b4 b5 b6 b7 b8 b9 b10
    have HX := Lib.hid (And.intro hR8 (And.intro hgz (And.intro hg1 (And.intro hE8 (And.intro hN8 (And.intro HN.out.1 (And.intro HL.out.2.1 HN.out.2)))))))
    clear B3 KB
    go_wp2_with fail
    refine bodyPost_ret (v := .agg (cS k s5 ty k1 n1 s1 (.slice A1 m1 cp1) k2 n2 s2 (.slice A2 m2 cp2))) (by simp [results, Tryz.results61, go_sem, cS, bs_nil, *]) rfl ?_
    obtain ⟨hRz, hgz, hg1, hEz, hEy, hNz, hTz, hNNz⟩ := HX.out
    exact ⟨_, ⟨k, s5, ty, x1, x2⟩, (p3 + 1 + 1), rfl, DrV.of ((hEz.grown (r := some w.heap.size) (by (repeat (first | with_reducible assumption | with_reducible exact grown_rfl _ _ | with_reducible refine grown_st ?_ _ _ | with_reducible refine grown_al ?_ _))) (fun q e => by have := Option.some.inj e; omega)).less (by omega)) ((hEy.grown (r := some w.heap.size) (by (repeat (first | with_reducible assumption | with_reducible exact grown_rfl _ _ | with_reducible refine grown_st ?_ _ _ | with_reducible refine grown_al ?_ _))) (fun q e => by have := Option.some.inj e; omega)).less (by omega)) hNz hTz, hNNz, by (repeat (first | with_reducible assumption | with_reducible refine Rd.alloc ?_ _ | with_reducible refine Rd.drew ?_ | with_reducible refine Rd.drewN ?_ _ | with_reducible refine Rd.setN ?_ (by first | omega | (simp; done) | (simp; omega)) _ _)), by omega, by (repeat (first | with_reducible assumption | with_reducible exact grown_rfl _ _ | with_reducible refine grown_al ?_ _ | with_reducible refine grown_sn ?_ (by first | omega | (simp; done) | (simp; omega)) _ _ | with_reducible refine grown_dr ?_ | with_reducible refine grown_tr ?_ hgz | with_reducible refine grown_tr ?_ hg1)), hNe, hNt⟩
  have d1 : (k4 == 1) = false := by simpa using e1
  by_cases e2 : k4 = 2
  · subst e2
    go_wp2_with fail
    refine (of_any rb _ W4.heap.size [[105, 110, 116], [116, 101, 120, 116], []] _ (hR4.alloc _) (by omega) (by simp) (by simp) (by omega) (Blk.new _ _ _)).mono ?_
    rintro r w5 ⟨s5, rfl, hs5, hR5, hg5⟩
    have hB5 := blk_gr (hB4.alloc (.cells ([[105, 110, 116], [116, 101, 120, 116], []].map (fun s : Bytes => Value.string (bs s))).toArray 9)) hg5 q2
    have hg35 : w3.grownBy w5 (some rb) := by (repeat (first | with_reducible assumption | with_reducible exact grown_rfl _ _ | with_reducible refine grown_al ?_ _ | with_reducible refine grown_sn ?_ (by first | omega | (simp; done) | (simp; omega)) _ _ | with_reducible refine grown_dr ?_ | with_reducible refine grown_tr ?_ hg5 | with_reducible refine grown_tr ?_ hg4))
    have HN := Lib.hid (len_words hs5 (by decide))
    have y2 := hB5.frozen 2
    have c2 := hB5.cell 2
    simp [cS] at c2
    have hB8 := hB5.set_ 2 (.string (bs s5))
    have hR8 := hR5.setN (b := w3.heap.size) (by omega) 2 (.string (bs s5))
    have hg8 := grown_sn hg35 (b := w3.heap.size) (Nat.le_refl _) 2 (.string (bs s5))
    clear hB4 hR4 hg4 hB5 hg5 hg35 hR5 hs5
    go_upto_region 11 with fail
    generalize hW8 : World.setCell w5 _ _ = W8 at *
    clear hW8 y2 c2
    have hE8 := HX3.out.1.grown hg8 (fun q e => by have := Option.some.inj e; omega)
    have hN8 := HX3.out.2.grown hg8 (fun q e => by have := Option.some.inj e; omega)
    have hgz := grown_tr hgw3 hg8
    have hB9 : Blk W8 w3.heap.size 26 (cS k nm s5 k1 n1 s1 (.slice A1 m1 cp1) k2 n2 s2 (.slice A2 m2 cp2)) := hB8
    have y0 := (hB9).frozen 0; have y1 := (hB9).frozen 1; have y2 := (hB9).frozen 2; have y3 := (hB9).frozen 3; have y4 := (hB9).frozen 4; have y5 := (hB9).frozen 5; have y6 := (hB9).frozen 6; have y7 := (hB9).frozen 7; have y8 := (hB9).frozen 8; have y9 := (hB9).frozen 9; have y10 := (hB9).frozen 10
    have e0 := (hB9).cell 0; have e1 := (hB9).cell 1; have e2 := (hB9).cell 2; have e3 := (hB9).cell 3; have e4 := (hB9).cell 4; have e5 := (hB9).cell 5; have e6 := (hB9).cell 6; have e7 := (hB9).cell 7; have e8 := (hB9).cell 8; have e9 := (hB9).cell 9; have e10 := (hB9).cell 10
    simp [cS, zS] at e0 e1 e2 e3 e4 e5 e6 e7 e8 e9 e10
    clear hB8 hB9 hg8 HX3
    have B3 := KB.out W8 hgz
    have z0 := (B3).frozen 0; have z1 := (B3).frozen 1; have z2 := (B3).frozen 2; have z3 := (B3).frozen 3; have z4 := (B3).frozen 4; have z5 := (B3).frozen 5; have z6 := (B3).frozen 6; have z7 := (B3).frozen 7; have z8 := (B3).frozen 8; have z9 := (B3).frozen 9; have z10 := (B3).frozen 10
    have b0 := (B3).cell 0; have b1 := (B3).cell 1; have b2 := (B3).cell 2; have b3 := (B3).cell 3; have b4 := (B3).cell 4; have b5 := (B3).cell 5; have b6 := (B3).cell 6; have b7 := (B3).cell 7; have b8 := (B3).cell 8; have b9 := (B3).cell 9; have b10 := (B3).cell 10
    simp [cS, zS] at b0 b1 b2 b3 b4 b5 b6 b7 b8 b9 b10
    have HX := Lib.hid (And.intro hR8 (And.intro hgz (And.intro hg1 (And.intro hE8 (And.intro hN8 (And.intro HL.out.1 (And.intro HN.out HL.out.2.2)))))))
    clear B3 KB
    go_wp2_with fail
    refine bodyPost_ret (v := .agg (cS k nm s5 k1 n1 s1 (.slice A1 m1 cp1) k2 n2 s2 (.slice A2 m2 cp2))) (by simp [results, Tryz.results61, go_sem, cS, bs_nil, *]) rfl ?_
    obtain ⟨hRz, hgz, hg1, hEz, hEy, hNz, hTz, hNNz⟩ := HX.out
    exact ⟨_, ⟨k, nm, s5, x1, x2⟩, (p3 + 1 + 1), rfl, DrV.of ((hEz.grown (r := some w.heap.size) (by (repeat (first | with_reducible assumption | with_reducible exact grown_rfl _ _ | with_reducible refine grown_st ?_ _ _ | with_reducible refine grown_al ?_ _))) (fun q e => by have := Option.some.inj e; omega)).less (by omega)) ((hEy.grown (r := some w.heap.size) (by (repeat (first | with_reducible assumption | with_reducible exact grown_rfl _ _ | with_reducible refine grown_st ?_ _ _ | with_reducible refine grown_al ?_ _))) (fun q e => by have := Option.some.inj e; omega)).less (by omega)) hNz hTz, hNNz, by (repeat (first | with_reducible assumption | with_reducible refine Rd.alloc ?_ _ | with_reducible refine Rd.drew ?_ | with_reducible refine Rd.drewN ?_ _ | with_reducible refine Rd.setN ?_ (by first | omega | (simp; done) | (simp; omega)) _ _)), by omega, by (repeat (first | with_reducible assumption | with_reducible exact grown_rfl _ _ | with_reducible refine grown_al ?_ _ | with_reducible refine grown_sn ?_ (by first | omega | (simp; done) | (simp; omega)) _ _ | with_reducible refine grown_dr ?_ | with_reducible refine grown_tr ?_ hgz | with_reducible refine grown_tr ?_ hg1)), hNe, hNt⟩
  have d2 : (k4 == 2) = false := by simpa using e2
  by_cases e3 : k4 = 3
  · subst e3
    go_wp2_with fail
    refine (l4Bent_nw rb _ W4 hR4 (by omega)).mono ?_
    rintro r w5 ⟨v5, x5, p5, rfl, hE5, hR5, hp5, hg5, hN5⟩
    have hX6 : DrE (w3.heap.size + 1) w5 v5 x5 := hE5.less (by omega)
    obtain ⟨k9, n9, s9, A9, cp9, l9, hx5, rfl, hs2, hc2', hm2, hK2⟩ := hE5.form
    have hB5 := blk_gr hB4 hg5 q2
    have hg35 : w3.grownBy w5 (some rb) := by (repeat (first | with_reducible assumption | with_reducible exact grown_rfl _ _ | with_reducible refine grown_al ?_ _ | with_reducible refine grown_sn ?_ (by first | omega | (simp; done) | (simp; omega)) _ _ | with_reducible refine grown_dr ?_ | with_reducible refine grown_tr ?_ hg5 | with_reducible refine grown_tr ?_ hg4))
    have y7 := hB5.frozen 7; have y8 := hB5.frozen 8; have y9 := hB5.frozen 9; have y10 := hB5.frozen 10
    have c7 := hB5.cell 7; have c8 := hB5.cell 8; have c9 := hB5.cell 9; have c10 := hB5.cell 10
    simp [cS] at c7 c8 c9 c10
    have hB8 := (((hB5.set_ 7 (.int .i64 k9)).set_ 8 (.int .i64 n9)).set_ 9 (.string (bs s9))).set_ 10 (.slice A9 l9.length cp9)
    have hR8 := (((hR5.setN (b := w3.heap.size) (by omega) 7 (.int .i64 k9)).setN (b := w3.heap.size) (by omega) 8 (.int .i64 n9)).setN (b := w3.heap.size) (by omega) 9 (.string (bs s9))).setN (b := w3.heap.size) (by omega) 10 (.slice A9 l9.length cp9)
    have hg8 := grown_sn (grown_sn (grown_sn (grown_sn hg35 (b := w3.heap.size) (Nat.le_refl _) 7 (.int .i64 k9)) (b := w3.heap.size) (Nat.le_refl _) 8 (.int .i64 n9)) (b := w3.heap.size) (Nat.le_refl _) 9 (.string (bs s9))) (b := w3.heap.size) (Nat.le_refl _) 10 (.slice A9 l9.length cp9)
    have hg58 : w5.grownBy ((((w5.setCell ⟨w3.heap.size, 7, none⟩ (.int .i64 k9)).setCell ⟨w3.heap.size, 8, none⟩ (.int .i64 n9)).setCell ⟨w3.heap.size, 9, none⟩ (.string (bs s9))).setCell ⟨w3.heap.size, 10, none⟩ (.slice A9 l9.length cp9)) (some w3.heap.size) := by (repeat (first | with_reducible assumption | with_reducible exact grown_rfl _ _ | with_reducible refine grown_st ?_ _ _ | with_reducible refine grown_al ?_ _))
    clear hB4 hR4 hg4 hB5 hR5 hg5 hg35 hK2 hE5
    go_upto_region 11 with fail
    generalize hW8 : World.setCell (World.setCell _ _ _) _ _ = W8 at *
    clear hW8 y7 y8 y9 y10 c7 c8 c9 c10
    have hE8 := HX3.out.1.grown hg8 (fun q e => by have := Option.some.inj e; omega)
    have hY8 := (hX6.grown hg58 (fun q e => by have := Option.some.inj e; omega)).less (lo' := w.heap.size + 1) (by omega)
    have hgz := grown_tr hgw3 hg8
    have hB9 : Blk W8 w3.heap.size 26 (cS k nm ty k1 n1 s1 (.slice A1 m1 cp1) k9 n9 s9 (.slice A9 l9.length cp9)) := hB8
    have y0 := (hB9).frozen 0; have y1 := (hB9).frozen 1; have y2 := (hB9).frozen 2; have y3 := (hB9).frozen 3; have y4 := (hB9).frozen 4; have y5 := (hB9).frozen 5; have y6 := (hB9).frozen 6; have y7 := (hB9).frozen 7; have y8 := (hB9).frozen 8; have y9 := (hB9).frozen 9; have y10 := (hB9).frozen 10
    have e0 := (hB9).cell 0; have e1 := (hB9).cell 1; have e2 := (hB9).cell 2; have e3 := (hB9).cell 3; have e4 := (hB9).cell 4; have e5 := (hB9).cell 5; have e6 := (hB9).cell 6; have e7 := (hB9).cell 7; have e8 := (hB9).cell 8; have e9 := (hB9).cell 9; have e10 := (hB9).cell 10
    simp [cS, zS] at e0 e1 e2 e3 e4 e5 e6 e7 e8 e9 e10
    clear hB8 hB9 hg8 HX3 hg58 hX6
    have B3 := KB.out W8 hgz
    have z0 := (B3).frozen 0; have z1 := (B3).frozen 1; have z2 := (B3).frozen 2; have z3 := (B3).frozen 3; have z4 := (B3).frozen 4; have z5 := (B3).frozen 5; have z6 := (B3).frozen 6; have z7 := (B3).frozen 7; have z8 := (B3).frozen 8; have z9 := (B3).frozen 9; have z10 := (B3).frozen 10
    have b0 := (B3).cell 0; have b1 := (B3).cell 1; have b2 := (B3).cell 2; have b3 := (B3).cell 3; have b4 := (B3).cell 4; have b5 := (B3).cell 5; have b6 := (B3).cell 6; have b7 := (B3).cell 7; have b8 := (B3).cell 8; have b9 := (B3).cell 9; have b10 := (B3).cell 10
    simp [cS, zS] at b0 b1 b2 b3 b4 b5 b6 b7 b8 b9 b10
    have HX := Lib.hid (And.intro hR8 (And.intro hgz (And.intro hg1 (And.intro hE8 (And.intro hY8 (And.intro HL.out.1 (And.intro HL.out.2.1 HL.out.2.2)))))))
    clear B3 KB
    go_wp2_with fail
    refine bodyPost_ret (v := .agg (cS k nm ty k1 n1 s1 (.slice A1 m1 cp1) k9 n9 s9 (.slice A9 l9.length cp9))) (by simp [results, Tryz.results61, go_sem, cS, bs_nil, *]) rfl ?_
    obtain ⟨hRz, hgz, hg1, hEz, hEy, hNz, hTz, hNNz⟩ := HX.out
    exact ⟨_, ⟨k, nm, ty, x1, x5⟩, p5, rfl, DrV.of ((hEz.grown (r := some w.heap.size) (by (repeat (first | with_reducible assumption | with_reducible exact grown_rfl _ _ | with_reducible refine grown_st ?_ _ _ | with_reducible refine grown_al ?_ _))) (fun q e => by have := Option.some.inj e; omega)).less (by omega)) ((hEy.grown (r := some w.heap.size) (by (repeat (first | with_reducible assumption | with_reducible exact grown_rfl _ _ | with_reducible refine grown_st ?_ _ _ | with_reducible refine grown_al ?_ _))) (fun q e => by have := Option.some.inj e; omega)).less (by omega)) hNz hTz, hNNz, by (repeat (first | with_reducible assumption | with_reducible refine Rd.alloc ?_ _ | with_reducible refine Rd.drew ?_ | with_reducible refine Rd.drewN ?_ _ | with_reducible refine Rd.setN ?_ (by first | omega | (simp; done) | (simp; omega)) _ _)), by omega, by (repeat (first | with_reducible assumption | with_reducible exact grown_rfl _ _ | with_reducible refine grown_al ?_ _ | with_reducible refine grown_sn ?_ (by first | omega | (simp; done) | (simp; omega)) _ _ | with_reducible refine grown_dr ?_ | with_reducible refine grown_tr ?_ hgz | with_reducible refine grown_tr ?_ hg1)), hNe, hN5⟩
  have d3 : (k4 == 3) = false := by simpa using e3
  have hE8 := HX3.out.1.grown hg4 (fun q e => by have := Option.some.inj e; omega)
  have hN8 := HX3.out.2.grown hg4 (fun q e => by have := Option.some.inj e; omega)
  have hgz := grown_tr hgw3 hg4
  have y0 := (hB4).frozen 0; have y1 := (hB4).frozen 1; have y2 := (hB4).frozen 2; have y3 := (hB4).frozen 3; have y4 := (hB4).frozen 4; have y5 := (hB4).frozen 5; have y6 := (hB4).frozen 6; have y7 := (hB4).frozen 7; have y8 := (hB4).frozen 8; have y9 := (hB4).frozen 9; have y10 := (hB4).frozen 10
  have e0 := (hB4).cell 0; have e1 := (hB4).cell 1; have e2 := (hB4).cell 2; have e3 := (hB4).cell 3; have e4 := (hB4).cell 4; have e5 := (hB4).cell 5; have e6 := (hB4).cell 6; have e7 := (hB4).cell 7; have e8 := (hB4).cell 8; have e9 := (hB4).cell 9; have e10 := (hB4).cell 10
  simp [cS, zS] at e0 e1 e2 e3 e4 e5 e6 e7 e8 e9 e10
  clear hB4 hg4 HX3
  have B3 := KB.out W4 hgz
  have z0 := (B3).frozen 0; have z1 := (B3).frozen 1; have z2 := (B3).frozen 2; have z3 := (B3).frozen 3; have z4 := (B3).frozen 4; have z5 := (B3).frozen 5; have z6 := (B3).frozen 6; have z7 := (B3).frozen 7; have z8 := (B3).frozen 8; have z9 := (B3).frozen 9; have z10 := (B3).frozen 10
  have b0 := (B3).cell 0; have b1 := (B3).cell 1; have b2 := (B3).cell 2; have b3 := (B3).cell 3; have b4 := (B3).cell 4; have b5 := (B3).cell 5; have b6 := (B3).cell 6; have b7 := (B3).cell 7; have b8 := (B3).cell 8; have b9 := (B3).cell 9; have b10 := (B3).cell 10
  simp [cS, zS] at b0 b1 b2 b3 b4 b5 b6 b7 b8 b9 b10
  have HX := Lib.hid (And.intro hR4 (And.intro hgz (And.intro hg1 (And.intro hE8 (And.intro hN8 (And.intro HL.out.1 (And.intro HL.out.2.1 HL.out.2.2)))))))
  clear B3 KB
  go_wp2_with fail
  refine bodyPost_ret (v := .agg (cS k nm ty k1 n1 s1 (.slice A1 m1 cp1) k2 n2 s2 (.slice A2 m2 cp2))) (by simp [results, Tryz.results61, go_sem, cS, bs_nil, *]) rfl ?_
  obtain ⟨hRz, hgz, hg1, hEz, hEy, hNz, hTz, hNNz⟩ := HX.out
  exact ⟨_, ⟨k, nm, ty, x1, x2⟩, (p3 + 1), rfl, DrV.of ((hEz.grown (r := some w.heap.size) (by (repeat (first | with_reducible assumption | with_reducible exact grown_rfl _ _ | with_reducible refine grown_st ?_ _ _ | with_reducible refine grown_al ?_ _))) (fun q e => by have := Option.some.inj e; omega)).less (by omega)) ((hEy.grown (r := some w.heap.size) (by (repeat (first | with_reducible assumption | with_reducible exact grown_rfl _ _ | with_reducible refine grown_st ?_ _ _ | with_reducible refine grown_al ?_ _))) (fun q e => by have := Option.some.inj e; omega)).less (by omega)) hNz hTz, hNNz, by (repeat (first | with_reducible assumption | with_reducible refine Rd.alloc ?_ _ | with_reducible refine Rd.drew ?_ | with_reducible refine Rd.drewN ?_ _ | with_reducible refine Rd.setN ?_ (by first | omega | (simp; done) | (simp; omega)) _ _)), by omega, by (repeat (first | with_reducible assumption | with_reducible exact grown_rfl _ _ | with_reducible refine grown_al ?_ _ | with_reducible refine grown_sn ?_ (by first | omega | (simp; done) | (simp; omega)) _ _ | with_reducible refine grown_dr ?_ | with_reducible refine grown_tr ?_ hgz | with_reducible refine grown_tr ?_ hg1)), hNe, hNt⟩
theorem l5Some_any (rb p : Nat) (w : World) (h : Rd w rb p) (hp : p + 268 ≤ 1000000) : Calls Tryz.prog 119 #[.pointer (some ⟨rb, 0, none⟩)] w (DrewS rb p 268 w) := (l5Some_nw rb p w h hp).mono fun _ _ h => h.e
theorem l5Bent_any (rb p : Nat) (w : World) (h : Rd w rb p) (hp : p + 496 ≤ 1000000) : Calls Tryz.prog 61 #[.pointer (some ⟨rb, 0, none⟩)] w (DrewS rb p 496 w) := (l5Bent_nw rb p w h hp).mono fun _ _ h => h.e
end Go.Proofs.YtgakjhaepdigpaaGreatDoor
