
/- Segments: equality of two lists, as the laws, the reference and the library ask it. -/
import Derived.Test.YtlmjaoignmgakaaRows
import Derived.Test.YtlmjaoignmgakaaLib
namespace Go.Proofs.Ytlmjaoignmgakaa
set_option maxRecDepth 100000
open Go.RowKit

theorem eqPos_any (a b a' b' : Int) (w : World) :
    Calls Try.prog 52 #[.agg #[.int .i64 a, .int .i64 b], .agg #[.int .i64 a', .int .i64 b']] w fun e w' =>
      e = .returned (.bool (decide (a = a' ∧ b = b'))) ∧ Below w.heap.size w w' := by
  by_cases h1 : a = a'
  · by_cases h2 : b = b'
    all_goals
      go_enter Try.func52, Try.ntmps52
      go_wp2
      go_ret
      exact ⟨ret_bool (by simp [h1, h2]), by (repeat (first | with_reducible assumption | with_reducible exact Below.refl _ _ | with_reducible refine Below.setCell ?_ (by first | omega | (simp; done) | (simp; omega)) _ | with_reducible refine Below.alloc ?_ (by first | omega | (simp; done) | (simp; omega)) _ | with_reducible refine below_drewN ?_ _ | with_reducible refine Below.drew ?_))⟩
  · go_enter Try.func52, Try.ntmps52
    go_wp2
    go_ret
    exact ⟨ret_bool (by simp [h1]), by (repeat (first | with_reducible assumption | with_reducible exact Below.refl _ _ | with_reducible refine Below.setCell ?_ (by first | omega | (simp; done) | (simp; omega)) _ | with_reducible refine Below.alloc ?_ (by first | omega | (simp; done) | (simp; omega)) _ | with_reducible refine below_drewN ?_ _ | with_reducible refine Below.drew ?_))⟩

theorem eqSeg_any (s t : Sg) (w : World) :
    Calls Try.prog 33 #[.agg #[.int .i64 s.1.1, .int .i64 s.1.2, .int .i64 s.2.1, .int .i64 s.2.2], .agg #[.int .i64 t.1.1, .int .i64 t.1.2, .int .i64 t.2.1, .int .i64 t.2.2]] w fun e w' =>
      e = .returned (.bool (decide (s = t))) ∧ Below w.heap.size w w' := by
  obtain ⟨⟨a, b⟩, c, d⟩ := s
  obtain ⟨⟨a', b'⟩, c', d'⟩ := t
  by_cases h1 : a = a' ∧ b = b'
  · by_cases h2 : c = c' ∧ d = d'
    all_goals
      go_enter Try.func33, Try.ntmps33
      go_wp2_with fail
      refine (eqPos_any _ _ _ _ _).mono ?_
      rintro e w1 ⟨rfl, hb1⟩
      obtain ⟨hc1, hf1, hz1⟩ := bcell hb1
      (try simp at hz1)
      go_wp2_with fail
      refine (eqPos_any _ _ _ _ _).mono ?_
      rintro e w2 ⟨rfl, hb2⟩
      go_wp2_with fail
      go_ret
      exact ⟨ret_bool (by simp [h1, h2]), by (repeat (first | with_reducible assumption | with_reducible exact Below.refl _ _ | with_reducible refine Below.setCell ?_ (by first | omega | (simp; done) | (simp; omega)) _ | with_reducible refine Below.alloc ?_ (by first | omega | (simp; done) | (simp; omega)) _ | with_reducible refine below_drewN ?_ _ | with_reducible refine Below.drew ?_ | with_reducible refine Below.trans ?_ (Below.mono hb2 (by first | omega | (simp; done) | (simp; omega))) | with_reducible refine Below.trans ?_ (Below.mono hb1 (by first | omega | (simp; done) | (simp; omega)))))⟩
  · go_enter Try.func33, Try.ntmps33
    go_wp2_with fail
    refine (eqPos_any _ _ _ _ _).mono ?_
    rintro e w1 ⟨rfl, hb1⟩
    obtain ⟨hc1, hf1, hz1⟩ := bcell hb1
    (try simp at hz1)
    go_wp2_with fail
    go_ret
    exact ⟨ret_bool (by simp [h1]), by (repeat (first | with_reducible assumption | with_reducible exact Below.refl _ _ | with_reducible refine Below.setCell ?_ (by first | omega | (simp; done) | (simp; omega)) _ | with_reducible refine Below.alloc ?_ (by first | omega | (simp; done) | (simp; omega)) _ | with_reducible refine below_drewN ?_ _ | with_reducible refine Below.drew ?_ | with_reducible refine Below.trans ?_ (Below.mono hb1 (by first | omega | (simp; done) | (simp; omega)))))⟩

theorem eqSegS_any (W : World) (v u : Value) (l m : List Sg) (hv : SlS W W.heap.size v l) (hu : SlS W W.heap.size u m) :
    Calls Try.prog 14 #[v, u] W fun e w' => e = .returned (.bool (decide (l = m))) ∧ Below W.heap.size W w' := by
  obtain ⟨A, c, rfl, hc, hm⟩ := hv.val
  obtain ⟨A', c', rfl, hc', hm'⟩ := hu.val
  by_cases hnm : l.length = m.length
  rotate_left
  · have hne : (((l.length : Nat) : Int) != ((m.length : Nat) : Int)) = true := by simp; omega
    have hd : decide (l = m) = false := by simp; intro e; exact hnm (by rw [e])
    go_enter Try.func14, Try.ntmps14
    go_wp2
    go_ret
    exact ⟨ret_bool hd.symm, Below.refl _ _⟩
  have hne : (((l.length : Nat) : Int) != ((m.length : Nat) : Int)) = false := by simp [hnm]
  have HNM := Lib.hid hnm
  clear hnm
  go_enter Try.func14, Try.ntmps14
  go_wp2
  go_loopg [5] l.length (fun k p wr => ∃ i : Nat, k = l.length - i ∧ i ≤ l.length ∧ p = .int .i64 i ∧ AgreeTo i l m ∧ Below W.heap.size W wr)
  case atStart => exact ⟨0, by omega, by omega, rfl, AgreeTo.zero _ _, Below.refl _ _⟩
  case' round =>
    obtain ⟨i, hk, hin, rfl, hij, hbl⟩ := hrel
    have HK := Lib.hid hk
    clear hk
    have hlm := HNM.out
    have him : i ≤ m.length := by omega
    clear hlm
    by_cases hlt : i < l.length
    rotate_left
    · go_wp2
      go_ret
      exact ⟨ret_bool (by simp; exact (AgreeTo.eq hij (by omega) HNM.out)), hbl⟩
    have hlm : i < m.length := by have := HNM.out; omega
  obtain ⟨b, o, p, q, r, t, rfl, hb, hg, f0, f1, f2, f3⟩ := sg_at hv hlt
  obtain ⟨b', o', p', q', r', t', rfl, hb', hg', f0', f1', f2', f3'⟩ := sg_at hu hlm
  have HG := Lib.hid (And.intro hg hg')
  clear hg hg'
  obtain ⟨x, rfl⟩ := Later.ex hbl
  by_cases hst : ((p, q), (r, t)) = ((p', q'), (r', t'))
  all_goals
    have hd : ∀ w, Calls Try.prog 33 #[.agg #[.int .i64 p, .int .i64 q, .int .i64 r, .int .i64 t], .agg #[.int .i64 p', .int .i64 q', .int .i64 r', .int .i64 t']] w fun e w' => e = .returned (.bool (decide (((p, q), (r, t)) = ((p', q'), (r', t'))))) ∧ Below w.heap.size w w' := eqSeg_any ((p, q), (r, t)) ((p', q'), (r', t'))
    rw [show decide (((p, q), (r, t)) = ((p', q'), (r', t'))) = _ by first | exact decide_eq_true hst | exact decide_eq_false hst] at hd
    have HD := Lib.hid hd
    have HST := Lib.hid hst
    clear hst hd
    go_wp2
    refine wp_region_later hbl (by kernel_rfl) (by kernel_rfl) ?_
    repeat (go_big_quiet_step ((go_at_call 33; exact later_call (Nat.le_refl _) (HD.out _))))
    refine wpQuiet_nil ?_
    rintro _ ⟨y, rfl⟩
    have hy := y.ok
    go_wp2
  · go_roundg (l.length - (i + 1))
    case measure => have := HK.out; omega
    case rel => exact ⟨i + 1, rfl, by omega, by go_num, hij.succ HG.out.1 (HST.out ▸ HG.out.2), hy⟩
  · go_ret
    exact ⟨ret_bool (by simpa using AgreeTo.ne HG.out.1 HG.out.2 HST.out), hy⟩

theorem neq_sg (p q r t p' q' r' t' : Int) (w : World) : (binOp .neq 35 (.agg #[.int .i64 p, .int .i64 q, .int .i64 r, .int .i64 t]) (.agg #[.int .i64 p', .int .i64 q', .int .i64 r', .int .i64 t'])).run Try.prog w =
    .ok (.bool (!decide (((p, q), (r, t)) = ((p', q'), (r', t'))))) w := by
  by_cases h1 : p = p' <;> by_cases h2 : q = q' <;> by_cases h3 : r = r' <;> by_cases h4 : t = t' <;> simp [go_sem, h1, h2, h3, h4]

theorem slEqual_any (W : World) (v u : Value) (l m : List Sg) (hv : SlS W W.heap.size v l) (hu : SlS W W.heap.size u m) :
    Calls Try.prog 40 #[v, u] W fun e w' => e = .returned (.bool (decide (l = m))) ∧ Below W.heap.size W w' := by
  obtain ⟨A, c, rfl, hc, hm⟩ := hv.val
  obtain ⟨A', c', rfl, hc', hm'⟩ := hu.val
  by_cases hnm : l.length = m.length
  rotate_left
  · have hne : (((l.length : Nat) : Int) != ((m.length : Nat) : Int)) = true := by simp; omega
    have hd : decide (l = m) = false := by simp; intro e; exact hnm (by rw [e])
    go_enter Try.func40, Try.ntmps40
    go_wp2
    go_ret
    exact ⟨ret_bool hd.symm, Below.refl _ _⟩
  have hne : (((l.length : Nat) : Int) != ((m.length : Nat) : Int)) = false := by simp [hnm]
  have HNM := Lib.hid hnm
  clear hnm
  go_enter Try.func40, Try.ntmps40
  go_wp2
  go_loopg [13] l.length (fun k p wr => ∃ i : Nat, k = l.length - i ∧ i ≤ l.length ∧ p = .int .i64 i ∧ AgreeTo i l m ∧ Below W.heap.size W wr)
  case atStart => exact ⟨0, by omega, by omega, rfl, AgreeTo.zero _ _, Below.refl _ _⟩
  case' round =>
    obtain ⟨i, hk, hin, rfl, hij, hbl⟩ := hrel
    have HK := Lib.hid hk
    clear hk
    have hlm := HNM.out
    have him : i ≤ m.length := by omega
    clear hlm
    by_cases hlt : i < l.length
    rotate_left
    · go_wp2
      go_ret
      exact ⟨ret_bool (by simp; exact (AgreeTo.eq hij (by omega) HNM.out)), hbl⟩
    have hlm : i < m.length := by have := HNM.out; omega
  obtain ⟨b, o, p, q, r, t, rfl, hb, hg, f0, f1, f2, f3⟩ := sg_at hv hlt
  obtain ⟨b', o', p', q', r', t', rfl, hb', hg', f0', f1', f2', f3'⟩ := sg_at hu hlm
  have HG := Lib.hid (And.intro hg hg')
  clear hg hg'
  obtain ⟨x, rfl⟩ := Later.ex hbl
  have hq := neq_sg p q r t p' q' r' t'
  by_cases hst : ((p, q), (r, t)) = ((p', q'), (r', t'))
  all_goals
    rw [show decide (((p, q), (r, t)) = ((p', q'), (r', t'))) = _ by first | exact decide_eq_true hst | exact decide_eq_false hst] at hq
    have HST := Lib.hid hst
    clear hst
    go_wp2
    refine wp_region_later hbl (by kernel_rfl) (by kernel_rfl) ?_
    repeat (go_big_quiet_step (fail))
    refine wpQuiet_nil ?_
    rintro _ ⟨y, rfl⟩
    have hy := y.ok
    go_wp2
  · go_roundg (l.length - (i + 1))
    case measure => have := HK.out; omega
    case rel => exact ⟨i + 1, rfl, by omega, by go_num, hij.succ HG.out.1 (HST.out ▸ HG.out.2), hy⟩
  · go_ret
    exact ⟨ret_bool (by simpa using AgreeTo.ne HG.out.1 HG.out.2 HST.out), hy⟩

theorem imSegsSame_any (W : World) (v u : Value) (l m : List Sg) (hv : SlS W W.heap.size v l) (hu : SlS W W.heap.size u m) :
    Calls Try.prog 18 #[v, u] W fun e w' => e = .returned (.bool (decide (l = m))) ∧ Below W.heap.size W w' := by
  go_enter Try.func18, Try.ntmps18
  go_wp2_with fail
  refine (slEqual_any W v u l m hv hu).mono ?_
  rintro e w1 ⟨rfl, hb1⟩
  go_wp2_with fail
  go_ret
  exact ⟨rfl, hb1⟩

theorem infoSeg : (Try.prog.info? 35).map (fun i => (i.zero, i.size, i.bytes)) = some (some (.agg #[.int .i64 0, .int .i64 0, .int .i64 0, .int .i64 0]), 4, 32) := by kernel_rfl

theorem toPos_any (al ac : Int) (w : World) :
    Calls Try.prog 48 #[.agg #[.int .i64 al, .int .i64 ac]] w fun e w' =>
      e = .returned (.agg #[.int .i64 al, .int .i64 ac]) ∧ Below w.heap.size w w' := by
  go_enter Try.func48, Try.ntmps48
  go_wp2
  refine bodyPost_ret (v := .agg #[.int .i64 al, .int .i64 ac]) (by simp [results, Try.results48, go_sem]) rfl ⟨rfl, ?_⟩
  (repeat (first | with_reducible assumption | with_reducible exact Below.refl _ _ | with_reducible refine Below.setCell ?_ (by first | omega | (simp; done) | (simp; omega)) _ | with_reducible refine Below.alloc ?_ (by first | omega | (simp; done) | (simp; omega)) _ | with_reducible refine below_drewN ?_ _ | with_reducible refine Below.drew ?_))

theorem toSeg_any (a b c d : Int) (w : World) :
    Calls Try.prog 31 #[.agg #[.int .i64 a, .int .i64 b, .int .i64 c, .int .i64 d]] w fun e w' =>
      e = .returned (.agg #[.int .i64 a, .int .i64 b, .int .i64 c, .int .i64 d]) ∧ Below w.heap.size w w' := by
  go_enter Try.func31, Try.ntmps31
  go_wp2_with fail
  refine (toPos_any _ _ _).mono ?_
  rintro e w1 ⟨rfl, hb1⟩
  have hz1 := hb1.size
  (try simp at hz1)
  have k1_0 := fun o => hb1.cell (p := ⟨w.heap.size, o, none⟩) (by first | omega | (simp; done) | (simp; omega)); have k1f_0 := fun o => hb1.frozen (p := ⟨w.heap.size, o, none⟩) (by first | omega | (simp; done) | (simp; omega)); have k1_1 := fun o => hb1.cell (p := ⟨w.heap.size + 1, o, none⟩) (by first | omega | (simp; done) | (simp; omega)); have k1f_1 := fun o => hb1.frozen (p := ⟨w.heap.size + 1, o, none⟩) (by first | omega | (simp; done) | (simp; omega)); have k1_2 := fun o => hb1.cell (p := ⟨w.heap.size + 1 + 1, o, none⟩) (by first | omega | (simp; done) | (simp; omega)); have k1f_2 := fun o => hb1.frozen (p := ⟨w.heap.size + 1 + 1, o, none⟩) (by first | omega | (simp; done) | (simp; omega))
  go_wp2_with fail
  refine (toPos_any _ _ _).mono ?_
  rintro e w2 ⟨rfl, hb2⟩
  have hz2 := hb2.size
  (try simp at hz2)
  have k2_0 := fun o => hb2.cell (p := ⟨w.heap.size, o, none⟩) (by first | omega | (simp; done) | (simp; omega)); have k2f_0 := fun o => hb2.frozen (p := ⟨w.heap.size, o, none⟩) (by first | omega | (simp; done) | (simp; omega)); have k2_1 := fun o => hb2.cell (p := ⟨w.heap.size + 1, o, none⟩) (by first | omega | (simp; done) | (simp; omega)); have k2f_1 := fun o => hb2.frozen (p := ⟨w.heap.size + 1, o, none⟩) (by first | omega | (simp; done) | (simp; omega)); have k2_2 := fun o => hb2.cell (p := ⟨w.heap.size + 1 + 1, o, none⟩) (by first | omega | (simp; done) | (simp; omega)); have k2f_2 := fun o => hb2.frozen (p := ⟨w.heap.size + 1 + 1, o, none⟩) (by first | omega | (simp; done) | (simp; omega))
  go_wp2_with fail
  refine bodyPost_ret (v := .agg #[.int .i64 a, .int .i64 b, .int .i64 c, .int .i64 d]) (by simp [results, Try.results31, go_sem, *]) rfl ⟨rfl, ?_⟩
  (repeat (first | with_reducible assumption | with_reducible exact Below.refl _ _ | with_reducible refine Below.setCell ?_ (by first | omega | (simp; done) | (simp; omega)) _ | with_reducible refine Below.alloc ?_ (by first | omega | (simp; done) | (simp; omega)) _ | with_reducible refine below_drewN ?_ _ | with_reducible refine Below.drew ?_ | with_reducible refine Below.trans ?_ (Below.mono hb2 (by first | omega | (simp; done) | (simp; omega))) | with_reducible refine Below.trans ?_ (Below.mono hb1 (by first | omega | (simp; done) | (simp; omega)))))
theorem toSegS_any (w : World) (v : Value) (l : List Sg) (hv : SlS w w.heap.size v l) (hl : l.length ≤ 1048576) :
    Calls Try.prog 12 #[v] w fun e w' => ∃ u, e = .returned u ∧ Fr sgRow 4 35 w' w.heap.size u l ∧ Below w.heap.size w w' := by
  obtain ⟨A, c, rfl, hc, hm⟩ := hv.val
  obtain ⟨i0, hi, hz0, hz1, hz2⟩ := info_parts infoSeg
  have hmk := fun W => run_make_rowN (P := Try.prog) 25 35 i0 _ Try.underlying25 hi hz0 .i64 .i64 l.length l.length (Nat.le_refl _) (by rw [hz2]; omega) (by omega) W
  rw [hz1] at hmk
  clear hi hz0 hz1 hz2
  go_enter Try.func12, Try.ntmps12
  go_wp2
  go_loopg [4] l.length (fun k p wr => ∃ (i : Nat) (cur : Array Value), k = l.length - i ∧ i ≤ l.length ∧ p = .int .i64 i ∧ Blk wr w.heap.size 35 cur ∧ cur.size = l.length * 4 ∧ Filled sgRow 4 l i cur ∧ Below w.heap.size w wr)
  case atStart => exact ⟨0, _, by omega, by omega, rfl, Blk.new _ _ _, by simp [size_madeCells], Filled.zero _, by (repeat (first | with_reducible assumption | with_reducible exact Below.refl _ _ | with_reducible refine Below.setCell ?_ (by first | omega | (simp; done) | (simp; omega)) _ | with_reducible refine Below.alloc ?_ (by first | omega | (simp; done) | (simp; omega)) _ | with_reducible refine below_drewN ?_ _ | with_reducible refine Below.drew ?_))⟩
  case round =>
    obtain ⟨i, cur, hk, hin, rfl, hB, hsz, hfill, hbl⟩ := hrel
    have HK := Lib.hid (And.intro hk (And.intro hsz hfill))
    clear hk hfill hsz
    by_cases hlt : i < l.length
    · obtain ⟨b, o, p, q, r, t, rfl, hb, hg, f0, f1, f2, f3⟩ := sg_at hv hlt
      have g0 := f0 ⟨wr, hbl⟩; have g1 := f1 ⟨wr, hbl⟩; have g2 := f2 ⟨wr, hbl⟩; have g3 := f3 ⟨wr, hbl⟩
      clear f0 f1 f2 f3
      have HG := Lib.hid hg
      clear hg
      go_wp2_with fail
      refine (toSeg_any _ _ _ _ _).mono ?_
      rintro e w1 ⟨rfl, hb1⟩
      have hB1 := hB.below hb1 hB.lt
      have hfz := hB1.frozen
      have hsz1 := hbl.size
      have hsz2 := hb1.size
      obtain ⟨y0, hy0⟩ : ∃ y, w1.cell? ⟨w.heap.size, i * 4, none⟩ = some y := ⟨_, (hB1.cell _).trans (Array.getElem?_eq_getElem (by have := HK.out.2.1; omega))⟩
      obtain ⟨y1, hy1⟩ : ∃ y, w1.cell? ⟨w.heap.size, i * 4 + 1, none⟩ = some y := ⟨_, (hB1.cell _).trans (Array.getElem?_eq_getElem (by have := HK.out.2.1; omega))⟩
      obtain ⟨y2, hy2⟩ : ∃ y, w1.cell? ⟨w.heap.size, i * 4 + 2, none⟩ = some y := ⟨_, (hB1.cell _).trans (Array.getElem?_eq_getElem (by have := HK.out.2.1; omega))⟩
      obtain ⟨y3, hy3⟩ : ∃ y, w1.cell? ⟨w.heap.size, i * 4 + 3, none⟩ = some y := ⟨_, (hB1.cell _).trans (Array.getElem?_eq_getElem (by have := HK.out.2.1; omega))⟩
      go_wp2_with fail
      go_roundg (l.length - (i + 1))
      case measure => have := HK.out; omega
      case rel => exact ⟨i + 1, putRow cur (i * 4) (sgRow ((p, q), (r, t))), rfl, by omega, by go_num, (((hB1.set_ _ _).set_ _ _).set_ _ _).set_ _ _, by rw [putRow_size]; exact HK.out.2.1, HK.out.2.2.put (fun _ => rfl) HG.out (by have := HK.out.2.1; omega), by (repeat (first | with_reducible assumption | with_reducible exact Below.refl _ _ | with_reducible refine Below.setCell ?_ (by first | omega | (simp; done) | (simp; omega)) _ | with_reducible refine Below.alloc ?_ (by first | omega | (simp; done) | (simp; omega)) _ | with_reducible refine below_drewN ?_ _ | with_reducible refine Below.drew ?_ | with_reducible refine Below.trans ?_ (Below.mono hb1 (by first | omega | (simp; done) | (simp; omega))) | with_reducible refine Below.trans ?_ (Below.mono hbl (by first | omega | (simp; done) | (simp; omega)))))⟩
    · go_wp2
      go_ret
      exact ⟨_, rfl, .inr ⟨w.heap.size, l.length, cur, rfl, Nat.le_refl _, Nat.le_refl _, by unfold maxLen; omega, hB, fun i' s hs => HK.out.2.2 i' s (by have := (List.getElem?_eq_some_iff.1 hs).1; omega) hs⟩, hbl⟩

theorem szSegS_any (w : World) (v : Value) (l : List Sg) (n : Int) (h0 : 0 ≤ n) (h1 : n ≤ 10000000) (hv : SlS w w.heap.size v l) :
    Calls Try.prog 10 #[v, .int .i64 n] w fun e w' => e = .returned (.int .i64 (szOut n l.length)) ∧ w = w' := by
  obtain ⟨A, c, rfl, hc, hm⟩ := hv.val
  by_cases h : n - l.length < 0
  all_goals
    go_enter Try.func10, Try.ntmps10
    go_wp2
    go_ret
    exact ⟨ret_int (by unfold szOut; split <;> omega), rfl⟩
end Go.Proofs.Ytlmjaoignmgakaa
