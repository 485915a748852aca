
/- What is drawn to be told: a tree, names, and what they stand for. -/
import Derived.Test.YtnejngpdplhbhaaGreatDoorDwEB
import Derived.Test.YtnejngpdplhbhaaGreatDoorDwPQ
import Derived.Test.YtnejngpdplhbhaaGreatDoorLawBr
import Derived.Test.YtnejngpdplhbhaaGreatDoorAny
namespace Go.Proofs.YtnejngpdplhbhaaGreatDoor
set_option maxRecDepth 100000
set_option linter.unusedSimpArgs false
set_option linter.unusedVariables false
open Go.RowKit
attribute [local go_sem] bs_toList bs_get bs_size

theorem slb_blk {w : World} {g : Nat} {l : List Bytes} (hl : l.length ≤ 1000) (hg : Blk w g 9 (l.map (fun s => Value.string (bs s))).toArray) : SlB w w.heap.size (.slice (some ⟨g, 0, none⟩) l.length l.length) l := ⟨_, _, rfl, Nat.le_refl _, by unfold maxLen; omega, fun _ => ⟨g, 0, rfl, hg.lt, fun i t ht j x hj => by
  have hj0 : j = 0 := by have := (List.getElem?_eq_some_iff.1 hj).1; simp [strRow] at this; omega
  subst hj0
  simp [strRow] at hj
  subst hj
  have := hg.cell i
  simp [ht] at this
  simpa using this⟩⟩
theorem sln_blk {w : World} {g : Nat} {l : List Int} (hl : l.length ≤ 1000) (hg : Blk w g 3 (l.map (fun s => Value.int .i64 s)).toArray) : SlN w w.heap.size (.slice (some ⟨g, 0, none⟩) l.length l.length) l := ⟨_, _, rfl, Nat.le_refl _, by unfold maxLen; omega, fun _ => ⟨g, 0, rfl, hg.lt, fun i t ht j x hj => by
  have hj0 : j = 0 := by have := (List.getElem?_eq_some_iff.1 hj).1; simp [intRow] at this; omega
  subst hj0
  simp [intRow] at hj
  subst hj
  have := hg.cell i
  simp [ht] at this
  simpa using this⟩⟩
/-- no cell of it is a byte -/
def NoY (cs : Array Value) : Prop := ∀ (i : Nat) (x : Int), cs[i]? ≠ some (.int .u8 x)
theorem noy_ex (k n : Int) (s : Bytes) (A : Option Addr) (m c : Nat) : NoY #[.int .i64 k, .int .i64 n, .string (bs s), .slice A m c] := by
  intro i x h
  rcases i with _ | _ | _ | _ | i <;> simp at h
/-- a block that holds no bytes is none of a reader's code -/
theorem Rd.other {w w' : World} {rb p g : Nat} {t : TypeId} {cs : Array Value} (h : Rd w rb p) (hb : Blk w g t cs) (hn : NoY cs) (hg : w.grownBy w' (some g)) (hne : g ≠ rb) : Rd w' rb p := by
  obtain ⟨A, c, l, h1, h2, h3, h4⟩ := h
  refine ⟨A, c, l, blk_gr h1 hg (fun e => hne e.symm), h2, h3, ?_⟩
  obtain ⟨A', c', hv, hc, hm, hh⟩ := h4
  refine ⟨A', c', hv, hc, hm, fun h0 => ?_⟩
  obtain ⟨b, o, hA, hlt, hx⟩ := hh h0
  refine ⟨b, o, hA, hlt, fun i s hs j x hj => hg.cell (hx i s hs j x hj) (fun e => ?_)⟩
  have e' : b = g := by have := Option.some.inj e; simpa using this
  subst e'
  have hc1 := hx i s hs j x hj
  have hj0 : j = 0 := by have := (List.getElem?_eq_some_iff.1 hj).1; simp [byRow] at this; omega
  subst hj0
  simp [byRow] at hj
  subst hj
  have := hb.cell (o + i * 1 + 0)
  rw [hc1] at this
  exact hn _ _ this.symm
/-- what is drawn -/
def DrewO (w : World) (e : Ending) (w' : World) : Prop := ∃ (v : Value) (x : Ex) (vn vm : Value) (names : List Bytes) (nums : List Int), e = .returned (.tuple #[v, vn, vm]) ∧ ExV w' w'.heap.size v x ∧ SlB w' w'.heap.size vn names ∧ SlN w' w'.heap.size vm nums ∧ names.length ≤ 4 ∧ (1 ≤ names.length ∧ 1 ≤ nums.length ∧ nums.length ≤ 4) ∧ Below w.heap.size w w'
/-- what each operation of the last region has laid into its slot -/
structure OfG (ls : Array Bool) (lo : Nat) (wx : World) (X R : Value) (s3 s4 v23 v24 v25 v26 v27 v28 v29 v30 v31 v32 v33 v34 : Value) : Prop where
  f0 : ls.getD 0 false = true → v23 = X
  f1 : ls.getD 1 false = true → ∃ g, v24 = .slice (some ⟨g, 0, none⟩) 4 4 ∧ lo < g ∧ Blk wx g 9 (([[120], [121], [122], [120]] : List Bytes).map (fun s => Value.string (bs s))).toArray
  f2 : ls.getD 2 false = true → v25 = R
  f3 : ls.getD 3 false = true → ∃ g, v26 = .slice (some ⟨g, 0, none⟩) 3 3 ∧ lo < g ∧ Blk wx g 3 (([0, 1, -5] : List Int).map (fun s => Value.int .i64 s)).toArray
  f4 : ls.getD 4 false = true → ∃ n, v27 = .int .i64 n
  f5 : ls.getD 5 false = true → v28 = R
  f6 : ls.getD 6 false = true → ∃ g, v29 = .slice (some ⟨g, 0, none⟩) 2 2 ∧ lo < g ∧ Blk wx g 3 (([2, 1000] : List Int).map (fun s => Value.int .i64 s)).toArray
  f7 : ls.getD 7 false = true → ∃ n, v30 = .int .i64 n
  f8 : ls.getD 8 false = true → v31 = R
  f9 : ls.getD 9 false = true → ∃ g, v32 = .slice (some ⟨g, 0, none⟩) 3 3 ∧ lo < g ∧ Blk wx g 3 (([1, 4, 9999999] : List Int).map (fun s => Value.int .i64 s)).toArray
  f10 : ls.getD 10 false = true → ∃ n, v33 = .int .i64 n
  f11 : ls.getD 11 false = true → ∃ (g : Nat) (l : List Int), l.length = 4 ∧ v34 = .slice (some ⟨g, 0, none⟩) 4 4 ∧ lo < g ∧ Blk wx g 3 (l.map (fun s => Value.int .i64 s)).toArray
  f13 : ls.getD 13 false = true → ∃ g, s3 = .slice (some ⟨g, 0, none⟩) 4 4 ∧ lo < g ∧ Blk wx g 9 (([[120], [121], [122], [120]] : List Bytes).map (fun s => Value.string (bs s))).toArray
  f14 : ls.getD 14 false = true → ∃ (g : Nat) (l : List Int), l.length = 4 ∧ s4 = .slice (some ⟨g, 0, none⟩) 4 4 ∧ lo < g ∧ Blk wx g 3 (l.map (fun s => Value.int .i64 s)).toArray
theorem OfG.step {ls : Array Bool} {lo : Nat} {wx wy : World} {X R s3 s4 v23 v24 v25 v26 v27 v28 v29 v30 v31 v32 v33 v34 : Value} (h : OfG ls lo wx X R s3 s4 v23 v24 v25 v26 v27 v28 v29 v30 v31 v32 v33 v34) (hs : ∀ g t cs, lo < g → Blk wx g t cs → Blk wy g t cs) : OfG ls lo wy X R s3 s4 v23 v24 v25 v26 v27 v28 v29 v30 v31 v32 v33 v34 where
  f0 := h.f0
  f1 := fun q => by obtain ⟨g, h1, h2, h3⟩ := h.f1 q; exact ⟨g, h1, h2, hs _ _ _ h2 h3⟩
  f2 := h.f2
  f3 := fun q => by obtain ⟨g, h1, h2, h3⟩ := h.f3 q; exact ⟨g, h1, h2, hs _ _ _ h2 h3⟩
  f4 := h.f4
  f5 := h.f5
  f6 := fun q => by obtain ⟨g, h1, h2, h3⟩ := h.f6 q; exact ⟨g, h1, h2, hs _ _ _ h2 h3⟩
  f7 := h.f7
  f8 := h.f8
  f9 := fun q => by obtain ⟨g, h1, h2, h3⟩ := h.f9 q; exact ⟨g, h1, h2, hs _ _ _ h2 h3⟩
  f10 := h.f10
  f11 := fun q => by obtain ⟨g, l, h0, h1, h2, h3⟩ := h.f11 q; exact ⟨g, l, h0, h1, h2, hs _ _ _ h2 h3⟩
  f13 := fun q => by obtain ⟨g, h1, h2, h3⟩ := h.f13 q; exact ⟨g, h1, h2, hs _ _ _ h2 h3⟩
  f14 := fun q => by obtain ⟨g, l, h0, h1, h2, h3⟩ := h.f14 q; exact ⟨g, l, h0, h1, h2, hs _ _ _ h2 h3⟩
set_option maxHeartbeats 4000000 in
theorem drawOf_any (v : Value) (l : List Int) (w : World) (hv : CodeV w v l) : Calls Tryz.prog 4 #[v] w (DrewO w) := by
  have OP := Lib.hid (fun (w' : World) (h : Below w.heap.size w w') => l12Open_any v l w' ⟨(hv.1.below h (Nat.le_refl _)).more h.size, hv.2⟩)
  obtain ⟨A, c, rfl, hc, hm⟩ := hv.1.val
  clear hv
  go_enter Tryz.func4, Tryz.ntmps4
  go_wp2_with fail
  refine (OP.out _ (by (repeat (first | with_reducible assumption | with_reducible exact Below.refl _ _ | with_reducible refine Below.setCell ?_ (by first | omega | (simp; done) | (simp; omega)) _ | with_reducible refine Below.alloc ?_ (by first | omega | (simp; done) | (simp; omega)) _ | with_reducible refine below_drewN ?_ _ | with_reducible refine Below.drew ?_)))).mono ?_
  rintro r w1 ⟨rfl, hR1, hb1⟩
  have hbw1 : Below w.heap.size w w1 := by (repeat (first | with_reducible assumption | with_reducible exact Below.refl _ _ | with_reducible refine Below.setCell ?_ (by first | omega | (simp; done) | (simp; omega)) _ | with_reducible refine Below.alloc ?_ (by first | omega | (simp; done) | (simp; omega)) _ | with_reducible refine below_drewN ?_ _ | with_reducible refine Below.drew ?_ | with_reducible refine Below.trans ?_ (Below.mono hb1 (by first | omega | (simp; done) | (simp; omega)))))
  have hz1 := hb1.size
  (try simp at hz1)
  have hB0 := (Blk.new w _ _).below hb1 (by simp)
  (try simp at hR1)
  have hlt := hR1.lt
  clear OP hb1
  go_wp2_with fail
  refine (l4Bent_any _ 0 w1 hR1 (by omega)).mono ?_
  rintro r w2 ⟨v2, x, p2, rfl, hE2, hR2, hp2, hg2⟩
  have hbw2 : Below w.heap.size w w2 := hbw1.trans (below_of_grown hg2 (by omega) hlt)
  have hB0 := blk_gr hB0 hg2 (by omega)
  have hz2 := hg2.size
  have hD2 := hE2
  obtain ⟨A1, cp, rfl, hc1, hm1, hs, hK⟩ := hE2.exv.form4
  clear hR1 hg2 hbw1 hK hE2
  go_wp2_with fail
  refine (pick_any _ p2 8 _ (hR2.alloc _) (by omega) (by omega) (by omega)).mono ?_
  rintro r w3 ⟨k3, rfl, hk3, hk3', hR3, hg3⟩
  have hbw3 : Below w.heap.size w w3 := (hbw2.alloc (by omega) _).trans (below_of_grown hg3 (by omega) (by simp; omega))
  have hB0 := blk_gr (hB0.alloc _) hg3 (by omega)
  have hB1 := blk_gr (Blk.new w2 _ _) hg3 (by omega)
  have hz3 := hg3.size
  (try simp at hz2 hz3)
  have hD3 := (hD2.ext (by (repeat (first | with_reducible assumption | with_reducible exact Below.refl _ _ | with_reducible refine Below.setCell ?_ (by first | omega | (simp; done) | (simp; omega)) _ | with_reducible refine Below.alloc ?_ (by first | omega | (simp; done) | (simp; omega)) _ | with_reducible refine below_drewN ?_ _ | with_reducible refine Below.drew ?_)) : Below w2.heap.size w2 (w2.alloc _))).grown hg3 (fun q e => by have := Option.some.inj e; omega)
  have HB := Lib.hid (And.intro hbw3 (And.intro hB0 (And.intro hB1 hD3)))
  have q0 : w.heap.size ≠ w.heap.size + 1 := by omega
  have q1 : w2.heap.size ≠ w.heap.size + 1 := by omega
  have q2 : w2.heap.size ≠ w.heap.size := by omega
  have q3 : w.heap.size ≠ w2.heap.size := by omega
  have q4 : w.heap.size < w3.heap.size := by omega
  have q5 : w2.heap.size < w3.heap.size := by omega
  have q6 : w.heap.size ≠ w3.heap.size := by omega
  have q7 : w2.heap.size ≠ w3.heap.size := by omega
  have q8 : w.heap.size ≠ w3.heap.size + 1 := by omega
  have q9 : w2.heap.size ≠ w3.heap.size + 1 := by omega
  skip; have pa0 := hB1.cell 0; have pa1 := hB1.cell 1; have pa2 := hB1.cell 2; have pa3 := hB1.cell 3; simp at pa0 pa1 pa2 pa3
  have z0 := hB0.frozen 0; have z1 := hB0.frozen 1; have z2 := hB0.frozen 2; have z3 := hB0.frozen 3
  have r0 := hB0.cell 0; have r1 := hB0.cell 1; have r2 := hB0.cell 2; have r3 := hB0.cell 3
  simp at r0 r1 r2 r3
  by_cases e0 : k3 = 0
  · subst e0
    clear hR2 hR3 hg3 hbw2 hbw3 hB0 hB1 hD2 hD3
    go_wp2_with fail
    refine bodyPost_ret (v := .tuple #[.agg #[.int .i64 x.kind, .int .i64 x.n, .string (bs x.s), .slice A1 x.kids.length cp], .slice (some ⟨w3.heap.size, 0, none⟩) 1 1, .slice (some ⟨(w3.heap.size + 1), 0, none⟩) 1 1]) (by simp [results, Tryz.results4, go_sem, *]) rfl ?_
    obtain ⟨hbw3, hB0, hB1, hD3⟩ := HB.out
    exact ⟨_, x, _, _, [[120]], [3], rfl, (hD3.grown (r := some w.heap.size) (by (repeat (first | with_reducible assumption | with_reducible exact grown_rfl _ _ | with_reducible refine grown_st ?_ _ _ | with_reducible refine grown_al ?_ _))) (fun q e => by have := Option.some.inj e; omega)).exv, slb_blk (l := [[120]]) (by simp) (by first | exact Blk.new' (by simp) | exact Blk.alloc (Blk.new' (by simp)) _), sln_blk (l := [3]) (by simp) (by first | exact Blk.new' (by simp) | exact Blk.alloc (Blk.new' (by simp)) _), by simp, ⟨by simp, by simp, by simp⟩, by (repeat (first | with_reducible assumption | with_reducible exact Below.refl _ _ | with_reducible refine Below.setCell ?_ (by first | omega | (simp; done) | (simp; omega)) _ | with_reducible refine Below.alloc ?_ (by first | omega | (simp; done) | (simp; omega)) _ | with_reducible refine below_drewN ?_ _ | with_reducible refine Below.drew ?_ | with_reducible refine Below.trans ?_ (Below.mono hbw3 (by first | omega | (simp; done) | (simp; omega)))))⟩
  have d0 : (k3 == 0) = false := by simpa using e0
  by_cases e1 : k3 = 1
  · subst e1
    clear hR2 hR3 hg3 hbw2 hbw3 hB0 hB1 hD2 hD3
    go_wp2_with fail
    refine bodyPost_ret (v := .tuple #[.agg #[.int .i64 x.kind, .int .i64 x.n, .string (bs x.s), .slice A1 x.kids.length cp], .slice (some ⟨w3.heap.size, 0, none⟩) 2 2, .slice (some ⟨(w3.heap.size + 1), 0, none⟩) 1 1]) (by simp [results, Tryz.results4, go_sem, *]) rfl ?_
    obtain ⟨hbw3, hB0, hB1, hD3⟩ := HB.out
    exact ⟨_, x, _, _, [[120], [121]], [3], rfl, (hD3.grown (r := some w.heap.size) (by (repeat (first | with_reducible assumption | with_reducible exact grown_rfl _ _ | with_reducible refine grown_st ?_ _ _ | with_reducible refine grown_al ?_ _))) (fun q e => by have := Option.some.inj e; omega)).exv, slb_blk (l := [[120], [121]]) (by simp) (by first | exact Blk.new' (by simp) | exact Blk.alloc (Blk.new' (by simp)) _), sln_blk (l := [3]) (by simp) (by first | exact Blk.new' (by simp) | exact Blk.alloc (Blk.new' (by simp)) _), by simp, ⟨by simp, by simp, by simp⟩, by (repeat (first | with_reducible assumption | with_reducible exact Below.refl _ _ | with_reducible refine Below.setCell ?_ (by first | omega | (simp; done) | (simp; omega)) _ | with_reducible refine Below.alloc ?_ (by first | omega | (simp; done) | (simp; omega)) _ | with_reducible refine below_drewN ?_ _ | with_reducible refine Below.drew ?_ | with_reducible refine Below.trans ?_ (Below.mono hbw3 (by first | omega | (simp; done) | (simp; omega)))))⟩
  have d1 : (k3 == 1) = false := by simpa using e1
  clear hR2 hg3 hbw2 hbw3 hB0 hB1 hD2 hD3
  go_upto_region 8 with fail
  refine wp_region_inv (by kernel_rfl) (by kernel_rfl) (fun ls a' wx => ∃ (s3 s4 v23 v24 v25 v26 v27 v28 v29 v30 v31 v32 v33 v34 : Value) (q : Nat) (c0 c1 c2 c3 : Value), a' = ⟨#[.slice A l.length c, undef, .pointer (some ⟨w.heap.size, 0, none⟩), s3, s4, .pointer (some ⟨w.heap.size + 1, 0, none⟩), .pointer (some ⟨w2.heap.size, 0, none⟩), .slice A l.length c, .pointer (some ⟨w.heap.size + 1, 0, none⟩), .pointer (some ⟨w.heap.size + 1, 0, none⟩), .agg #[.int .i64 x.kind, .int .i64 x.n, .string (bs x.s), .slice A1 x.kids.length cp], .pointer (some ⟨w.heap.size + 1, 0, none⟩), .int .i64 k3, .bool false, .bool false, undef, undef, undef, .bool false, .bool false, undef, undef, undef, v23, v24, v25, v26, v27, v28, v29, v30, v31, v32, v33, v34], []⟩ ∧
    (Rd wx (w.heap.size + 1) q ∧ (ls.getD 4 false = false → q ≤ p2 + 1) ∧ (ls.getD 7 false = false → q ≤ p2 + 2) ∧ (ls.getD 10 false = false → q ≤ p2 + 3) ∧ (ls.getD 7 false = true → ls.getD 4 false = true)) ∧
    (Below w.heap.size w wx ∧ w3.heap.size ≤ wx.heap.size) ∧ Blk wx w2.heap.size 25 #[.int .i64 x.kind, .int .i64 x.n, .string (bs x.s), .slice A1 x.kids.length cp] ∧
    (Blk wx w.heap.size 25 #[c0, c1, c2, c3] ∧ NoY #[c0, c1, c2, c3] ∧ (ls.getD 12 false = true → c0 = .int .i64 x.kind ∧ c1 = .int .i64 x.n ∧ c2 = .string (bs x.s) ∧ c3 = .slice A1 x.kids.length cp)) ∧ DrE w1.heap.size wx (.agg #[.int .i64 x.kind, .int .i64 x.n, .string (bs x.s), .slice A1 x.kids.length cp]) x ∧
    OfG ls w2.heap.size wx (.agg #[.int .i64 x.kind, .int .i64 x.n, .string (bs x.s), .slice A1 x.kids.length cp]) (.pointer (some ⟨w.heap.size + 1, 0, none⟩)) s3 s4 v23 v24 v25 v26 v27 v28 v29 v30 v31 v32 v33 v34) ?_ ?_ ?_
  · refine ⟨_, _, _, _, _, _, _, _, _, _, _, _, _, _, _, _, _, _, _, rfl, ⟨by (repeat (first | with_reducible assumption | with_reducible refine Rd.alloc ?_ _ | with_reducible refine Rd.drew ?_ | with_reducible refine Rd.drewN ?_ _ | with_reducible refine Rd.setN ?_ (by first | omega | (simp; done) | (simp; omega)) _ _)), fun _ => Nat.le_refl _, fun _ => by omega, fun _ => by omega, fun q => by simp at q⟩, ⟨by have := HB.out.1; (repeat (first | with_reducible assumption | with_reducible exact Below.refl _ _ | with_reducible refine Below.setCell ?_ (by first | omega | (simp; done) | (simp; omega)) _ | with_reducible refine Below.alloc ?_ (by first | omega | (simp; done) | (simp; omega)) _ | with_reducible refine below_drewN ?_ _ | with_reducible refine Below.drew ?_ | with_reducible refine Below.trans ?_ (Below.mono this (by first | omega | (simp; done) | (simp; omega))))), Nat.le_refl _⟩, HB.out.2.2.1.drew, ⟨HB.out.2.1.drew, noy_ex 0 0 [] none 0 0, fun q => by simp at q⟩, HB.out.2.2.2.grown (r := none) (grown_dr (grown_rfl _ _)) (fun q e => by cases e), ?_⟩
    constructor <;> intro q <;> simp at q
  · intro ls a' wx i o ho hl hdep ⟨s3, s4, v23, v24, v25, v26, v27, v28, v29, v30, v31, v32, v33, v34, q, c0, c1, c2, c3, ha, ⟨hR, hq4, hq7, hq10, h47⟩, ⟨hbx, hzx⟩, hB1, ⟨hB0, hNY, hB0'⟩, hD, hG⟩
    subst ha
    have hi : i < 15 := (Array.getElem?_eq_some_iff.1 ho).1
    rcases (by omega : i = 0 ∨ i = 1 ∨ i = 2 ∨ i = 3 ∨ i = 4 ∨ i = 5 ∨ i = 6 ∨ i = 7 ∨ i = 8 ∨ i = 9 ∨ i = 10 ∨ i = 11 ∨ i = 12 ∨ i = 13 ∨ i = 14) with rfl | rfl | rfl | rfl | rfl | rfl | rfl | rfl | rfl | rfl | rfl | rfl | rfl | rfl | rfl
    all_goals (refine wpOp_step rfl (fun K hK => ?_); simp only [List.getElem?_toArray, List.getElem?_cons_zero, List.getElem?_cons_succ, Option.some.injEq] at ho; subst ho)
    · skip; have pa0 := hB1.cell 0; have pa1 := hB1.cell 1; have pa2 := hB1.cell 2; have pa3 := hB1.cell 3; simp at pa0 pa1 pa2 pa3
      go_simp
      have hG' := hG
      exact hK _ _ ⟨_, _, _, _, _, _, _, _, _, _, _, _, _, _, q, c0, c1, c2, c3, rfl, ⟨hR, fun h => hq4 (by rwa [getD_set_ne false (by decide)] at h), fun h => hq7 (by rwa [getD_set_ne false (by decide)] at h), fun h => hq10 (by rwa [getD_set_ne false (by decide)] at h), fun h => getD_set_true (h47 (by rwa [getD_set_ne false (by decide)] at h))⟩, ⟨hbx, hzx⟩, hB1, ⟨hB0, hNY, fun h => hB0' (by rwa [getD_set_ne false (by decide)] at h)⟩, hD, ⟨fun _ => rfl, fun q' => hG'.f1 (by rwa [getD_set_ne false (by decide)] at q'), fun q' => hG'.f2 (by rwa [getD_set_ne false (by decide)] at q'), fun q' => hG'.f3 (by rwa [getD_set_ne false (by decide)] at q'), fun q' => hG'.f4 (by rwa [getD_set_ne false (by decide)] at q'), fun q' => hG'.f5 (by rwa [getD_set_ne false (by decide)] at q'), fun q' => hG'.f6 (by rwa [getD_set_ne false (by decide)] at q'), fun q' => hG'.f7 (by rwa [getD_set_ne false (by decide)] at q'), fun q' => hG'.f8 (by rwa [getD_set_ne false (by decide)] at q'), fun q' => hG'.f9 (by rwa [getD_set_ne false (by decide)] at q'), fun q' => hG'.f10 (by rwa [getD_set_ne false (by decide)] at q'), fun q' => hG'.f11 (by rwa [getD_set_ne false (by decide)] at q'), fun q' => hG'.f13 (by rwa [getD_set_ne false (by decide)] at q'), fun q' => hG'.f14 (by rwa [getD_set_ne false (by decide)] at q')⟩⟩
    · go_simp
      exact hK _ _ ⟨_, _, _, _, _, _, _, _, _, _, _, _, _, _, q, c0, c1, c2, c3, rfl, ⟨hR.alloc _, fun h => hq4 (by rwa [getD_set_ne false (by decide)] at h), fun h => hq7 (by rwa [getD_set_ne false (by decide)] at h), fun h => hq10 (by rwa [getD_set_ne false (by decide)] at h), fun h => getD_set_true (h47 (by rwa [getD_set_ne false (by decide)] at h))⟩, ⟨by (repeat (first | with_reducible assumption | with_reducible exact Below.refl _ _ | with_reducible refine Below.setCell ?_ (by first | omega | (simp; done) | (simp; omega)) _ | with_reducible refine Below.alloc ?_ (by first | omega | (simp; done) | (simp; omega)) _ | with_reducible refine below_drewN ?_ _ | with_reducible refine Below.drew ?_ | with_reducible refine Below.trans ?_ (Below.mono hbx (by first | omega | (simp; done) | (simp; omega))))), by simp; omega⟩, hB1.alloc _, ⟨hB0.alloc _, hNY, fun h => hB0' (by rwa [getD_set_ne false (by decide)] at h)⟩, hD.ext (by (repeat (first | with_reducible assumption | with_reducible exact Below.refl _ _ | with_reducible refine Below.setCell ?_ (by first | omega | (simp; done) | (simp; omega)) _ | with_reducible refine Below.alloc ?_ (by first | omega | (simp; done) | (simp; omega)) _ | with_reducible refine below_drewN ?_ _ | with_reducible refine Below.drew ?_))), ⟨fun q' => hG.f0 (by rwa [getD_set_ne false (by decide)] at q'), fun _ => ⟨_, rfl, by omega, Blk.new _ _ _⟩, fun q' => hG.f2 (by rwa [getD_set_ne false (by decide)] at q'), fun q' => (hG.step (fun g t cs _ h => h.alloc _)).f3 (by rwa [getD_set_ne false (by decide)] at q'), fun q' => hG.f4 (by rwa [getD_set_ne false (by decide)] at q'), fun q' => hG.f5 (by rwa [getD_set_ne false (by decide)] at q'), fun q' => (hG.step (fun g t cs _ h => h.alloc _)).f6 (by rwa [getD_set_ne false (by decide)] at q'), fun q' => hG.f7 (by rwa [getD_set_ne false (by decide)] at q'), fun q' => hG.f8 (by rwa [getD_set_ne false (by decide)] at q'), fun q' => (hG.step (fun g t cs _ h => h.alloc _)).f9 (by rwa [getD_set_ne false (by decide)] at q'), fun q' => hG.f10 (by rwa [getD_set_ne false (by decide)] at q'), fun q' => (hG.step (fun g t cs _ h => h.alloc _)).f11 (by rwa [getD_set_ne false (by decide)] at q'), fun q' => (hG.step (fun g t cs _ h => h.alloc _)).f13 (by rwa [getD_set_ne false (by decide)] at q'), fun q' => (hG.step (fun g t cs _ h => h.alloc _)).f14 (by rwa [getD_set_ne false (by decide)] at q')⟩⟩
    · go_simp
      have hG' := hG
      exact hK _ _ ⟨_, _, _, _, _, _, _, _, _, _, _, _, _, _, q, c0, c1, c2, c3, rfl, ⟨hR, fun h => hq4 (by rwa [getD_set_ne false (by decide)] at h), fun h => hq7 (by rwa [getD_set_ne false (by decide)] at h), fun h => hq10 (by rwa [getD_set_ne false (by decide)] at h), fun h => getD_set_true (h47 (by rwa [getD_set_ne false (by decide)] at h))⟩, ⟨hbx, hzx⟩, hB1, ⟨hB0, hNY, fun h => hB0' (by rwa [getD_set_ne false (by decide)] at h)⟩, hD, ⟨fun q' => hG'.f0 (by rwa [getD_set_ne false (by decide)] at q'), fun q' => hG'.f1 (by rwa [getD_set_ne false (by decide)] at q'), fun _ => rfl, fun q' => hG'.f3 (by rwa [getD_set_ne false (by decide)] at q'), fun q' => hG'.f4 (by rwa [getD_set_ne false (by decide)] at q'), fun q' => hG'.f5 (by rwa [getD_set_ne false (by decide)] at q'), fun q' => hG'.f6 (by rwa [getD_set_ne false (by decide)] at q'), fun q' => hG'.f7 (by rwa [getD_set_ne false (by decide)] at q'), fun q' => hG'.f8 (by rwa [getD_set_ne false (by decide)] at q'), fun q' => hG'.f9 (by rwa [getD_set_ne false (by decide)] at q'), fun q' => hG'.f10 (by rwa [getD_set_ne false (by decide)] at q'), fun q' => hG'.f11 (by rwa [getD_set_ne false (by decide)] at q'), fun q' => hG'.f13 (by rwa [getD_set_ne false (by decide)] at q'), fun q' => hG'.f14 (by rwa [getD_set_ne false (by decide)] at q')⟩⟩
    · go_simp
      exact hK _ _ ⟨_, _, _, _, _, _, _, _, _, _, _, _, _, _, q, c0, c1, c2, c3, rfl, ⟨hR.alloc _, fun h => hq4 (by rwa [getD_set_ne false (by decide)] at h), fun h => hq7 (by rwa [getD_set_ne false (by decide)] at h), fun h => hq10 (by rwa [getD_set_ne false (by decide)] at h), fun h => getD_set_true (h47 (by rwa [getD_set_ne false (by decide)] at h))⟩, ⟨by (repeat (first | with_reducible assumption | with_reducible exact Below.refl _ _ | with_reducible refine Below.setCell ?_ (by first | omega | (simp; done) | (simp; omega)) _ | with_reducible refine Below.alloc ?_ (by first | omega | (simp; done) | (simp; omega)) _ | with_reducible refine below_drewN ?_ _ | with_reducible refine Below.drew ?_ | with_reducible refine Below.trans ?_ (Below.mono hbx (by first | omega | (simp; done) | (simp; omega))))), by simp; omega⟩, hB1.alloc _, ⟨hB0.alloc _, hNY, fun h => hB0' (by rwa [getD_set_ne false (by decide)] at h)⟩, hD.ext (by (repeat (first | with_reducible assumption | with_reducible exact Below.refl _ _ | with_reducible refine Below.setCell ?_ (by first | omega | (simp; done) | (simp; omega)) _ | with_reducible refine Below.alloc ?_ (by first | omega | (simp; done) | (simp; omega)) _ | with_reducible refine below_drewN ?_ _ | with_reducible refine Below.drew ?_))), ⟨fun q' => hG.f0 (by rwa [getD_set_ne false (by decide)] at q'), fun q' => (hG.step (fun g t cs _ h => h.alloc _)).f1 (by rwa [getD_set_ne false (by decide)] at q'), fun q' => hG.f2 (by rwa [getD_set_ne false (by decide)] at q'), fun _ => ⟨_, rfl, by omega, Blk.new _ _ _⟩, fun q' => hG.f4 (by rwa [getD_set_ne false (by decide)] at q'), fun q' => hG.f5 (by rwa [getD_set_ne false (by decide)] at q'), fun q' => (hG.step (fun g t cs _ h => h.alloc _)).f6 (by rwa [getD_set_ne false (by decide)] at q'), fun q' => hG.f7 (by rwa [getD_set_ne false (by decide)] at q'), fun q' => hG.f8 (by rwa [getD_set_ne false (by decide)] at q'), fun q' => (hG.step (fun g t cs _ h => h.alloc _)).f9 (by rwa [getD_set_ne false (by decide)] at q'), fun q' => hG.f10 (by rwa [getD_set_ne false (by decide)] at q'), fun q' => (hG.step (fun g t cs _ h => h.alloc _)).f11 (by rwa [getD_set_ne false (by decide)] at q'), fun q' => (hG.step (fun g t cs _ h => h.alloc _)).f13 (by rwa [getD_set_ne false (by decide)] at q'), fun q' => (hG.step (fun g t cs _ h => h.alloc _)).f14 (by rwa [getD_set_ne false (by decide)] at q')⟩⟩
    · obtain rfl := hG.f2 (hdep ⟨2, .data⟩ (by simp) rfl)
      obtain ⟨g, rfl, hgl, hgb⟩ := hG.f3 (hdep ⟨3, .data⟩ (by simp) rfl)
      have hq := hq4 (getD_no hl)
      go_simp
      go_at_call 15
      refine (num_any _ q g [0, 1, -5] wx hR (by omega) (by simp) (by simp) (by omega) hgb).mono ?_
      rintro r wy ⟨n, rfl, hR', hg⟩
      have hzy := hg.size
      have hG' := hG.step (fun g t cs hg' h => blk_gr h hg (by omega))
      go_simp
      exact hK _ _ ⟨_, _, _, _, _, _, _, _, _, _, _, _, _, _, (q + 1), c0, c1, c2, c3, rfl, ⟨hR', fun h => absurd h (by rw [getD_set_yes hl]; decide), fun _ => by omega, fun _ => by omega, fun h => getD_set_true (h47 (by rwa [getD_set_ne false (by decide)] at h))⟩, ⟨hbx.trans (below_of_grown hg (by omega) hR.lt), by omega⟩, blk_gr hB1 hg (by omega), ⟨blk_gr hB0 hg (by omega), hNY, fun h => hB0' (by rwa [getD_set_ne false (by decide)] at h)⟩, hD.grown hg (fun q e => by have := Option.some.inj e; omega), ⟨fun q' => hG'.f0 (by rwa [getD_set_ne false (by decide)] at q'), fun q' => hG'.f1 (by rwa [getD_set_ne false (by decide)] at q'), fun q' => hG'.f2 (by rwa [getD_set_ne false (by decide)] at q'), fun q' => hG'.f3 (by rwa [getD_set_ne false (by decide)] at q'), fun _ => ⟨_, rfl⟩, fun q' => hG'.f5 (by rwa [getD_set_ne false (by decide)] at q'), fun q' => hG'.f6 (by rwa [getD_set_ne false (by decide)] at q'), fun q' => hG'.f7 (by rwa [getD_set_ne false (by decide)] at q'), fun q' => hG'.f8 (by rwa [getD_set_ne false (by decide)] at q'), fun q' => hG'.f9 (by rwa [getD_set_ne false (by decide)] at q'), fun q' => hG'.f10 (by rwa [getD_set_ne false (by decide)] at q'), fun q' => hG'.f11 (by rwa [getD_set_ne false (by decide)] at q'), fun q' => hG'.f13 (by rwa [getD_set_ne false (by decide)] at q'), fun q' => hG'.f14 (by rwa [getD_set_ne false (by decide)] at q')⟩⟩
    · go_simp
      have hG' := hG
      exact hK _ _ ⟨_, _, _, _, _, _, _, _, _, _, _, _, _, _, q, c0, c1, c2, c3, rfl, ⟨hR, fun h => hq4 (by rwa [getD_set_ne false (by decide)] at h), fun h => hq7 (by rwa [getD_set_ne false (by decide)] at h), fun h => hq10 (by rwa [getD_set_ne false (by decide)] at h), fun h => getD_set_true (h47 (by rwa [getD_set_ne false (by decide)] at h))⟩, ⟨hbx, hzx⟩, hB1, ⟨hB0, hNY, fun h => hB0' (by rwa [getD_set_ne false (by decide)] at h)⟩, hD, ⟨fun q' => hG'.f0 (by rwa [getD_set_ne false (by decide)] at q'), fun q' => hG'.f1 (by rwa [getD_set_ne false (by decide)] at q'), fun q' => hG'.f2 (by rwa [getD_set_ne false (by decide)] at q'), fun q' => hG'.f3 (by rwa [getD_set_ne false (by decide)] at q'), fun q' => hG'.f4 (by rwa [getD_set_ne false (by decide)] at q'), fun _ => rfl, fun q' => hG'.f6 (by rwa [getD_set_ne false (by decide)] at q'), fun q' => hG'.f7 (by rwa [getD_set_ne false (by decide)] at q'), fun q' => hG'.f8 (by rwa [getD_set_ne false (by decide)] at q'), fun q' => hG'.f9 (by rwa [getD_set_ne false (by decide)] at q'), fun q' => hG'.f10 (by rwa [getD_set_ne false (by decide)] at q'), fun q' => hG'.f11 (by rwa [getD_set_ne false (by decide)] at q'), fun q' => hG'.f13 (by rwa [getD_set_ne false (by decide)] at q'), fun q' => hG'.f14 (by rwa [getD_set_ne false (by decide)] at q')⟩⟩
    · go_simp
      exact hK _ _ ⟨_, _, _, _, _, _, _, _, _, _, _, _, _, _, q, c0, c1, c2, c3, rfl, ⟨hR.alloc _, fun h => hq4 (by rwa [getD_set_ne false (by decide)] at h), fun h => hq7 (by rwa [getD_set_ne false (by decide)] at h), fun h => hq10 (by rwa [getD_set_ne false (by decide)] at h), fun h => getD_set_true (h47 (by rwa [getD_set_ne false (by decide)] at h))⟩, ⟨by (repeat (first | with_reducible assumption | with_reducible exact Below.refl _ _ | with_reducible refine Below.setCell ?_ (by first | omega | (simp; done) | (simp; omega)) _ | with_reducible refine Below.alloc ?_ (by first | omega | (simp; done) | (simp; omega)) _ | with_reducible refine below_drewN ?_ _ | with_reducible refine Below.drew ?_ | with_reducible refine Below.trans ?_ (Below.mono hbx (by first | omega | (simp; done) | (simp; omega))))), by simp; omega⟩, hB1.alloc _, ⟨hB0.alloc _, hNY, fun h => hB0' (by rwa [getD_set_ne false (by decide)] at h)⟩, hD.ext (by (repeat (first | with_reducible assumption | with_reducible exact Below.refl _ _ | with_reducible refine Below.setCell ?_ (by first | omega | (simp; done) | (simp; omega)) _ | with_reducible refine Below.alloc ?_ (by first | omega | (simp; done) | (simp; omega)) _ | with_reducible refine below_drewN ?_ _ | with_reducible refine Below.drew ?_))), ⟨fun q' => hG.f0 (by rwa [getD_set_ne false (by decide)] at q'), fun q' => (hG.step (fun g t cs _ h => h.alloc _)).f1 (by rwa [getD_set_ne false (by decide)] at q'), fun q' => hG.f2 (by rwa [getD_set_ne false (by decide)] at q'), fun q' => (hG.step (fun g t cs _ h => h.alloc _)).f3 (by rwa [getD_set_ne false (by decide)] at q'), fun q' => hG.f4 (by rwa [getD_set_ne false (by decide)] at q'), fun q' => hG.f5 (by rwa [getD_set_ne false (by decide)] at q'), fun _ => ⟨_, rfl, by omega, Blk.new _ _ _⟩, fun q' => hG.f7 (by rwa [getD_set_ne false (by decide)] at q'), fun q' => hG.f8 (by rwa [getD_set_ne false (by decide)] at q'), fun q' => (hG.step (fun g t cs _ h => h.alloc _)).f9 (by rwa [getD_set_ne false (by decide)] at q'), fun q' => hG.f10 (by rwa [getD_set_ne false (by decide)] at q'), fun q' => (hG.step (fun g t cs _ h => h.alloc _)).f11 (by rwa [getD_set_ne false (by decide)] at q'), fun q' => (hG.step (fun g t cs _ h => h.alloc _)).f13 (by rwa [getD_set_ne false (by decide)] at q'), fun q' => (hG.step (fun g t cs _ h => h.alloc _)).f14 (by rwa [getD_set_ne false (by decide)] at q')⟩⟩
    · obtain rfl := hG.f5 (hdep ⟨5, .data⟩ (by simp) rfl)
      obtain ⟨g, rfl, hgl, hgb⟩ := hG.f6 (hdep ⟨6, .data⟩ (by simp) rfl)
      have hq := hq7 (getD_no hl)
      go_simp
      go_at_call 15
      refine (num_any _ q g [2, 1000] wx hR (by omega) (by simp) (by simp) (by omega) hgb).mono ?_
      rintro r wy ⟨n, rfl, hR', hg⟩
      have hzy := hg.size
      have hG' := hG.step (fun g t cs hg' h => blk_gr h hg (by omega))
      go_simp
      exact hK _ _ ⟨_, _, _, _, _, _, _, _, _, _, _, _, _, _, (q + 1), c0, c1, c2, c3, rfl, ⟨hR', fun h => absurd h (by rw [getD_set_ne false (by decide), hdep ⟨4, .chain⟩ (by simp) rfl]; decide), fun h => absurd h (by rw [getD_set_yes hl]; decide), fun _ => by omega, fun _ => getD_set_true (hdep ⟨4, .chain⟩ (by simp) rfl)⟩, ⟨hbx.trans (below_of_grown hg (by omega) hR.lt), by omega⟩, blk_gr hB1 hg (by omega), ⟨blk_gr hB0 hg (by omega), hNY, fun h => hB0' (by rwa [getD_set_ne false (by decide)] at h)⟩, hD.grown hg (fun q e => by have := Option.some.inj e; omega), ⟨fun q' => hG'.f0 (by rwa [getD_set_ne false (by decide)] at q'), fun q' => hG'.f1 (by rwa [getD_set_ne false (by decide)] at q'), fun q' => hG'.f2 (by rwa [getD_set_ne false (by decide)] at q'), fun q' => hG'.f3 (by rwa [getD_set_ne false (by decide)] at q'), fun q' => hG'.f4 (by rwa [getD_set_ne false (by decide)] at q'), fun q' => hG'.f5 (by rwa [getD_set_ne false (by decide)] at q'), fun q' => hG'.f6 (by rwa [getD_set_ne false (by decide)] at q'), fun _ => ⟨_, rfl⟩, fun q' => hG'.f8 (by rwa [getD_set_ne false (by decide)] at q'), fun q' => hG'.f9 (by rwa [getD_set_ne false (by decide)] at q'), fun q' => hG'.f10 (by rwa [getD_set_ne false (by decide)] at q'), fun q' => hG'.f11 (by rwa [getD_set_ne false (by decide)] at q'), fun q' => hG'.f13 (by rwa [getD_set_ne false (by decide)] at q'), fun q' => hG'.f14 (by rwa [getD_set_ne false (by decide)] at q')⟩⟩
    · go_simp
      have hG' := hG
      exact hK _ _ ⟨_, _, _, _, _, _, _, _, _, _, _, _, _, _, q, c0, c1, c2, c3, rfl, ⟨hR, fun h => hq4 (by rwa [getD_set_ne false (by decide)] at h), fun h => hq7 (by rwa [getD_set_ne false (by decide)] at h), fun h => hq10 (by rwa [getD_set_ne false (by decide)] at h), fun h => getD_set_true (h47 (by rwa [getD_set_ne false (by decide)] at h))⟩, ⟨hbx, hzx⟩, hB1, ⟨hB0, hNY, fun h => hB0' (by rwa [getD_set_ne false (by decide)] at h)⟩, hD, ⟨fun q' => hG'.f0 (by rwa [getD_set_ne false (by decide)] at q'), fun q' => hG'.f1 (by rwa [getD_set_ne false (by decide)] at q'), fun q' => hG'.f2 (by rwa [getD_set_ne false (by decide)] at q'), fun q' => hG'.f3 (by rwa [getD_set_ne false (by decide)] at q'), fun q' => hG'.f4 (by rwa [getD_set_ne false (by decide)] at q'), fun q' => hG'.f5 (by rwa [getD_set_ne false (by decide)] at q'), fun q' => hG'.f6 (by rwa [getD_set_ne false (by decide)] at q'), fun q' => hG'.f7 (by rwa [getD_set_ne false (by decide)] at q'), fun _ => rfl, fun q' => hG'.f9 (by rwa [getD_set_ne false (by decide)] at q'), fun q' => hG'.f10 (by rwa [getD_set_ne false (by decide)] at q'), fun q' => hG'.f11 (by rwa [getD_set_ne false (by decide)] at q'), fun q' => hG'.f13 (by rwa [getD_set_ne false (by decide)] at q'), fun q' => hG'.f14 (by rwa [getD_set_ne false (by decide)] at q')⟩⟩
    · go_simp
      exact hK _ _ ⟨_, _, _, _, _, _, _, _, _, _, _, _, _, _, q, c0, c1, c2, c3, rfl, ⟨hR.alloc _, fun h => hq4 (by rwa [getD_set_ne false (by decide)] at h), fun h => hq7 (by rwa [getD_set_ne false (by decide)] at h), fun h => hq10 (by rwa [getD_set_ne false (by decide)] at h), fun h => getD_set_true (h47 (by rwa [getD_set_ne false (by decide)] at h))⟩, ⟨by (repeat (first | with_reducible assumption | with_reducible exact Below.refl _ _ | with_reducible refine Below.setCell ?_ (by first | omega | (simp; done) | (simp; omega)) _ | with_reducible refine Below.alloc ?_ (by first | omega | (simp; done) | (simp; omega)) _ | with_reducible refine below_drewN ?_ _ | with_reducible refine Below.drew ?_ | with_reducible refine Below.trans ?_ (Below.mono hbx (by first | omega | (simp; done) | (simp; omega))))), by simp; omega⟩, hB1.alloc _, ⟨hB0.alloc _, hNY, fun h => hB0' (by rwa [getD_set_ne false (by decide)] at h)⟩, hD.ext (by (repeat (first | with_reducible assumption | with_reducible exact Below.refl _ _ | with_reducible refine Below.setCell ?_ (by first | omega | (simp; done) | (simp; omega)) _ | with_reducible refine Below.alloc ?_ (by first | omega | (simp; done) | (simp; omega)) _ | with_reducible refine below_drewN ?_ _ | with_reducible refine Below.drew ?_))), ⟨fun q' => hG.f0 (by rwa [getD_set_ne false (by decide)] at q'), fun q' => (hG.step (fun g t cs _ h => h.alloc _)).f1 (by rwa [getD_set_ne false (by decide)] at q'), fun q' => hG.f2 (by rwa [getD_set_ne false (by decide)] at q'), fun q' => (hG.step (fun g t cs _ h => h.alloc _)).f3 (by rwa [getD_set_ne false (by decide)] at q'), fun q' => hG.f4 (by rwa [getD_set_ne false (by decide)] at q'), fun q' => hG.f5 (by rwa [getD_set_ne false (by decide)] at q'), fun q' => (hG.step (fun g t cs _ h => h.alloc _)).f6 (by rwa [getD_set_ne false (by decide)] at q'), fun q' => hG.f7 (by rwa [getD_set_ne false (by decide)] at q'), fun q' => hG.f8 (by rwa [getD_set_ne false (by decide)] at q'), fun _ => ⟨_, rfl, by omega, Blk.new _ _ _⟩, fun q' => hG.f10 (by rwa [getD_set_ne false (by decide)] at q'), fun q' => (hG.step (fun g t cs _ h => h.alloc _)).f11 (by rwa [getD_set_ne false (by decide)] at q'), fun q' => (hG.step (fun g t cs _ h => h.alloc _)).f13 (by rwa [getD_set_ne false (by decide)] at q'), fun q' => (hG.step (fun g t cs _ h => h.alloc _)).f14 (by rwa [getD_set_ne false (by decide)] at q')⟩⟩
    · obtain rfl := hG.f8 (hdep ⟨8, .data⟩ (by simp) rfl)
      obtain ⟨g, rfl, hgl, hgb⟩ := hG.f9 (hdep ⟨9, .data⟩ (by simp) rfl)
      have hq := hq10 (getD_no hl)
      go_simp
      go_at_call 15
      refine (num_any _ q g [1, 4, 9999999] wx hR (by omega) (by simp) (by simp) (by omega) hgb).mono ?_
      rintro r wy ⟨n, rfl, hR', hg⟩
      have hzy := hg.size
      have hG' := hG.step (fun g t cs hg' h => blk_gr h hg (by omega))
      go_simp
      exact hK _ _ ⟨_, _, _, _, _, _, _, _, _, _, _, _, _, _, (q + 1), c0, c1, c2, c3, rfl, ⟨hR', fun h => absurd h (by rw [getD_set_ne false (by decide), h47 (hdep ⟨7, .chain⟩ (by simp) rfl)]; decide), fun h => absurd h (by rw [getD_set_ne false (by decide), hdep ⟨7, .chain⟩ (by simp) rfl]; decide), fun h => absurd h (by rw [getD_set_yes hl]; decide), fun h => getD_set_true (h47 (by rwa [getD_set_ne false (by decide)] at h))⟩, ⟨hbx.trans (below_of_grown hg (by omega) hR.lt), by omega⟩, blk_gr hB1 hg (by omega), ⟨blk_gr hB0 hg (by omega), hNY, fun h => hB0' (by rwa [getD_set_ne false (by decide)] at h)⟩, hD.grown hg (fun q e => by have := Option.some.inj e; omega), ⟨fun q' => hG'.f0 (by rwa [getD_set_ne false (by decide)] at q'), fun q' => hG'.f1 (by rwa [getD_set_ne false (by decide)] at q'), fun q' => hG'.f2 (by rwa [getD_set_ne false (by decide)] at q'), fun q' => hG'.f3 (by rwa [getD_set_ne false (by decide)] at q'), fun q' => hG'.f4 (by rwa [getD_set_ne false (by decide)] at q'), fun q' => hG'.f5 (by rwa [getD_set_ne false (by decide)] at q'), fun q' => hG'.f6 (by rwa [getD_set_ne false (by decide)] at q'), fun q' => hG'.f7 (by rwa [getD_set_ne false (by decide)] at q'), fun q' => hG'.f8 (by rwa [getD_set_ne false (by decide)] at q'), fun q' => hG'.f9 (by rwa [getD_set_ne false (by decide)] at q'), fun _ => ⟨_, rfl⟩, fun q' => hG'.f11 (by rwa [getD_set_ne false (by decide)] at q'), fun q' => hG'.f13 (by rwa [getD_set_ne false (by decide)] at q'), fun q' => hG'.f14 (by rwa [getD_set_ne false (by decide)] at q')⟩⟩
    · obtain ⟨n27, rfl⟩ := hG.f4 (hdep ⟨4, .data⟩ (by simp) rfl)
      obtain ⟨n30, rfl⟩ := hG.f7 (hdep ⟨7, .data⟩ (by simp) rfl)
      obtain ⟨n33, rfl⟩ := hG.f10 (hdep ⟨10, .data⟩ (by simp) rfl)
      go_simp
      exact hK _ _ ⟨_, _, _, _, _, _, _, _, _, _, _, _, _, _, q, c0, c1, c2, c3, rfl, ⟨hR.alloc _, fun h => hq4 (by rwa [getD_set_ne false (by decide)] at h), fun h => hq7 (by rwa [getD_set_ne false (by decide)] at h), fun h => hq10 (by rwa [getD_set_ne false (by decide)] at h), fun h => getD_set_true (h47 (by rwa [getD_set_ne false (by decide)] at h))⟩, ⟨by (repeat (first | with_reducible assumption | with_reducible exact Below.refl _ _ | with_reducible refine Below.setCell ?_ (by first | omega | (simp; done) | (simp; omega)) _ | with_reducible refine Below.alloc ?_ (by first | omega | (simp; done) | (simp; omega)) _ | with_reducible refine below_drewN ?_ _ | with_reducible refine Below.drew ?_ | with_reducible refine Below.trans ?_ (Below.mono hbx (by first | omega | (simp; done) | (simp; omega))))), by simp; omega⟩, hB1.alloc _, ⟨hB0.alloc _, hNY, fun h => hB0' (by rwa [getD_set_ne false (by decide)] at h)⟩, hD.ext (by (repeat (first | with_reducible assumption | with_reducible exact Below.refl _ _ | with_reducible refine Below.setCell ?_ (by first | omega | (simp; done) | (simp; omega)) _ | with_reducible refine Below.alloc ?_ (by first | omega | (simp; done) | (simp; omega)) _ | with_reducible refine below_drewN ?_ _ | with_reducible refine Below.drew ?_))), ⟨fun q' => hG.f0 (by rwa [getD_set_ne false (by decide)] at q'), fun q' => (hG.step (fun g t cs _ h => h.alloc _)).f1 (by rwa [getD_set_ne false (by decide)] at q'), fun q' => hG.f2 (by rwa [getD_set_ne false (by decide)] at q'), fun q' => (hG.step (fun g t cs _ h => h.alloc _)).f3 (by rwa [getD_set_ne false (by decide)] at q'), fun q' => hG.f4 (by rwa [getD_set_ne false (by decide)] at q'), fun q' => hG.f5 (by rwa [getD_set_ne false (by decide)] at q'), fun q' => (hG.step (fun g t cs _ h => h.alloc _)).f6 (by rwa [getD_set_ne false (by decide)] at q'), fun q' => hG.f7 (by rwa [getD_set_ne false (by decide)] at q'), fun q' => hG.f8 (by rwa [getD_set_ne false (by decide)] at q'), fun q' => (hG.step (fun g t cs _ h => h.alloc _)).f9 (by rwa [getD_set_ne false (by decide)] at q'), fun q' => hG.f10 (by rwa [getD_set_ne false (by decide)] at q'), fun _ => ⟨_, [9, n27, n30, n33], rfl, rfl, by omega, Blk.new _ _ _⟩, fun q' => (hG.step (fun g t cs _ h => h.alloc _)).f13 (by rwa [getD_set_ne false (by decide)] at q'), fun q' => (hG.step (fun g t cs _ h => h.alloc _)).f14 (by rwa [getD_set_ne false (by decide)] at q')⟩⟩
    · obtain rfl := hG.f0 (hdep ⟨0, .data⟩ (by simp) rfl)
      have z0 := hB0.frozen 0; have r0 := hB0.cell 0
      have z1 := hB0.frozen 1; have r1 := hB0.cell 1
      have z2 := hB0.frozen 2; have r2 := hB0.cell 2
      have z3 := hB0.frozen 3; have r3 := hB0.cell 3
      simp at r0 r1 r2 r3
      go_simp
      have hg : wx.grownBy ((((wx.setCell ⟨w.heap.size, 0, none⟩ (.int .i64 x.kind)).setCell ⟨w.heap.size, 1, none⟩ (.int .i64 x.n)).setCell ⟨w.heap.size, 2, none⟩ (.string (bs x.s))).setCell ⟨w.heap.size, 3, none⟩ (.slice A1 x.kids.length cp)) (some w.heap.size) := grown_st (grown_st (grown_st (grown_st (grown_rfl _ _) _ _) _ _) _ _) _ _
      have hB0n := (((hB0.set_ 0 (.int .i64 x.kind)).set_ 1 (.int .i64 x.n)).set_ 2 (.string (bs x.s))).set_ 3 (.slice A1 x.kids.length cp)
      generalize ((((wx.setCell ⟨w.heap.size, 0, none⟩ (.int .i64 x.kind)).setCell ⟨w.heap.size, 1, none⟩ (.int .i64 x.n)).setCell ⟨w.heap.size, 2, none⟩ (.string (bs x.s))).setCell ⟨w.heap.size, 3, none⟩ (.slice A1 x.kids.length cp)) = wy at *
      have hzy := hg.size
      have hG' := hG.step (fun g t cs hg' h => blk_gr h hg (by omega))
      exact hK _ _ ⟨_, _, _, _, _, _, _, _, _, _, _, _, _, _, q, _, _, _, _, rfl, ⟨hR.other hB0 hNY hg (by omega), fun h => hq4 (by rwa [getD_set_ne false (by decide)] at h), fun h => hq7 (by rwa [getD_set_ne false (by decide)] at h), fun h => hq10 (by rwa [getD_set_ne false (by decide)] at h), fun h => getD_set_true (h47 (by rwa [getD_set_ne false (by decide)] at h))⟩, ⟨hbx.trans (below_of_grown hg (Nat.le_refl _) hB0.lt), by omega⟩, blk_gr hB1 hg (by omega), ⟨hB0n, noy_ex _ _ _ _ _ _, fun _ => ⟨rfl, rfl, rfl, rfl⟩⟩, hD.grown hg (fun q e => by have := Option.some.inj e; omega), ⟨fun q' => hG'.f0 (by rwa [getD_set_ne false (by decide)] at q'), fun q' => hG'.f1 (by rwa [getD_set_ne false (by decide)] at q'), fun q' => hG'.f2 (by rwa [getD_set_ne false (by decide)] at q'), fun q' => hG'.f3 (by rwa [getD_set_ne false (by decide)] at q'), fun q' => hG'.f4 (by rwa [getD_set_ne false (by decide)] at q'), fun q' => hG'.f5 (by rwa [getD_set_ne false (by decide)] at q'), fun q' => hG'.f6 (by rwa [getD_set_ne false (by decide)] at q'), fun q' => hG'.f7 (by rwa [getD_set_ne false (by decide)] at q'), fun q' => hG'.f8 (by rwa [getD_set_ne false (by decide)] at q'), fun q' => hG'.f9 (by rwa [getD_set_ne false (by decide)] at q'), fun q' => hG'.f10 (by rwa [getD_set_ne false (by decide)] at q'), fun q' => hG'.f11 (by rwa [getD_set_ne false (by decide)] at q'), fun q' => hG'.f13 (by rwa [getD_set_ne false (by decide)] at q'), fun q' => hG'.f14 (by rwa [getD_set_ne false (by decide)] at q')⟩⟩
    · obtain ⟨g, rfl, hgl, hgb⟩ := hG.f1 (hdep ⟨1, .data⟩ (by simp) rfl)
      go_simp
      have hG' := hG
      exact hK _ _ ⟨_, _, _, _, _, _, _, _, _, _, _, _, _, _, q, c0, c1, c2, c3, rfl, ⟨hR, fun h => hq4 (by rwa [getD_set_ne false (by decide)] at h), fun h => hq7 (by rwa [getD_set_ne false (by decide)] at h), fun h => hq10 (by rwa [getD_set_ne false (by decide)] at h), fun h => getD_set_true (h47 (by rwa [getD_set_ne false (by decide)] at h))⟩, ⟨hbx, hzx⟩, hB1, ⟨hB0, hNY, fun h => hB0' (by rwa [getD_set_ne false (by decide)] at h)⟩, hD, ⟨fun q' => hG'.f0 (by rwa [getD_set_ne false (by decide)] at q'), fun q' => hG'.f1 (by rwa [getD_set_ne false (by decide)] at q'), fun q' => hG'.f2 (by rwa [getD_set_ne false (by decide)] at q'), fun q' => hG'.f3 (by rwa [getD_set_ne false (by decide)] at q'), fun q' => hG'.f4 (by rwa [getD_set_ne false (by decide)] at q'), fun q' => hG'.f5 (by rwa [getD_set_ne false (by decide)] at q'), fun q' => hG'.f6 (by rwa [getD_set_ne false (by decide)] at q'), fun q' => hG'.f7 (by rwa [getD_set_ne false (by decide)] at q'), fun q' => hG'.f8 (by rwa [getD_set_ne false (by decide)] at q'), fun q' => hG'.f9 (by rwa [getD_set_ne false (by decide)] at q'), fun q' => hG'.f10 (by rwa [getD_set_ne false (by decide)] at q'), fun q' => hG'.f11 (by rwa [getD_set_ne false (by decide)] at q'), fun _ => ⟨g, rfl, hgl, hgb⟩, fun q' => hG'.f14 (by rwa [getD_set_ne false (by decide)] at q')⟩⟩
    · obtain ⟨g, l4, hl4, rfl, hgl, hgb⟩ := hG.f11 (hdep ⟨11, .data⟩ (by simp) rfl)
      go_simp
      have hG' := hG
      exact hK _ _ ⟨_, _, _, _, _, _, _, _, _, _, _, _, _, _, q, c0, c1, c2, c3, rfl, ⟨hR, fun h => hq4 (by rwa [getD_set_ne false (by decide)] at h), fun h => hq7 (by rwa [getD_set_ne false (by decide)] at h), fun h => hq10 (by rwa [getD_set_ne false (by decide)] at h), fun h => getD_set_true (h47 (by rwa [getD_set_ne false (by decide)] at h))⟩, ⟨hbx, hzx⟩, hB1, ⟨hB0, hNY, fun h => hB0' (by rwa [getD_set_ne false (by decide)] at h)⟩, hD, ⟨fun q' => hG'.f0 (by rwa [getD_set_ne false (by decide)] at q'), fun q' => hG'.f1 (by rwa [getD_set_ne false (by decide)] at q'), fun q' => hG'.f2 (by rwa [getD_set_ne false (by decide)] at q'), fun q' => hG'.f3 (by rwa [getD_set_ne false (by decide)] at q'), fun q' => hG'.f4 (by rwa [getD_set_ne false (by decide)] at q'), fun q' => hG'.f5 (by rwa [getD_set_ne false (by decide)] at q'), fun q' => hG'.f6 (by rwa [getD_set_ne false (by decide)] at q'), fun q' => hG'.f7 (by rwa [getD_set_ne false (by decide)] at q'), fun q' => hG'.f8 (by rwa [getD_set_ne false (by decide)] at q'), fun q' => hG'.f9 (by rwa [getD_set_ne false (by decide)] at q'), fun q' => hG'.f10 (by rwa [getD_set_ne false (by decide)] at q'), fun q' => hG'.f11 (by rwa [getD_set_ne false (by decide)] at q'), fun q' => hG'.f13 (by rwa [getD_set_ne false (by decide)] at q'), fun _ => ⟨g, l4, hl4, rfl, hgl, hgb⟩⟩⟩
  · intro ls a' wx hall ⟨s3, s4, v23, v24, v25, v26, v27, v28, v29, v30, v31, v32, v33, v34, q, c0, c1, c2, c3, ha, ⟨hR, hq4, hq7, hq10, h47⟩, ⟨hbx, hzx⟩, hB1, ⟨hB0, hNY, hB0'⟩, hD, hG⟩
    subst ha
    obtain ⟨g24, rfl, hg24, hB24⟩ := hG.f13 (hall 13 (by decide))
    obtain ⟨g34, l4, hl4, rfl, hg34, hB34⟩ := hG.f14 (hall 14 (by decide))
    obtain ⟨rfl, rfl, rfl, rfl⟩ := hB0' (hall 12 (by decide))
    skip; have pa0 := hB0.cell 0; have pa1 := hB0.cell 1; have pa2 := hB0.cell 2; have pa3 := hB0.cell 3; simp at pa0 pa1 pa2 pa3
    clear r0 r1 r2 r3 z0 z1 z2 z3
    have z0 := hB0.frozen 0; have z1 := hB0.frozen 1; have z2 := hB0.frozen 2; have z3 := hB0.frozen 3
    have HE := Lib.hid (And.intro hbx (And.intro hD (And.intro hB24 hB34)))
    clear hR hq4 hq7 hq10 h47 hB1 hB0 hB0' hNY hD hG hB24 hB34 HB hbx hall
    rename_i K0 a0
    refine a0 _ _ ?_
    go_wp2_with fail
    refine bodyPost_ret (v := .tuple #[.agg #[.int .i64 x.kind, .int .i64 x.n, .string (bs x.s), .slice A1 x.kids.length cp], .slice (some ⟨g24, 0, none⟩) 4 4, .slice (some ⟨g34, 0, none⟩) 4 4]) (by simp [results, Tryz.results4, go_sem, *]) rfl ?_
    obtain ⟨hbx, hD, hB24, hB34⟩ := HE.out
    have hN := sln_blk (l := l4) (by omega) hB34
    rw [hl4] at hN
    exact ⟨_, x, _, _, [[120], [121], [122], [120]], l4, rfl, hD.exv, slb_blk (l := [[120], [121], [122], [120]]) (by simp) hB24, hN, by simp, ⟨by simp, by omega, by omega⟩, hbx⟩
end Go.Proofs.YtnejngpdplhbhaaGreatDoor
