
/- Segments: equality of two lists, as the laws, the reference and the library ask it. -/
import Derived.Test.YtgfbjpmbaibnoaaDoorRows
import Derived.Test.YtgfbjpmbaibnoaaDoorLib
namespace Go.Proofs.YtgfbjpmbaibnoaaDoor
set_option maxRecDepth 100000
set_option linter.unusedSimpArgs false
set_option linter.unusedVariables false
open Go.RowKit

theorem eqPos_any (a b a' b' : Int) (w : World) :
    Calls Tryd.prog 44 #[.agg #[.int .i64 a, .int .i64 b], .agg #[.int .i64 a', .int .i64 b']] w fun e w' =>
      e = .returned (.bool (decide (a = a' ∧ b = b'))) ∧ Below w.heap.size w w' := by
  by_cases h1 : a = a'
  · by_cases h2 : b = b'
    all_goals
      go_enter Tryd.func44, Tryd.ntmps44
      go_wp2
      go_ret
      exact ⟨ret_bool (by simp [h1, h2]), by (repeat (first | with_reducible assumption | with_reducible exact Below.refl _ _ | with_reducible refine Below.setCell ?_ (by first | omega | (simp; done) | (simp; omega)) _ | with_reducible refine Below.alloc ?_ (by first | omega | (simp; done) | (simp; omega)) _ | with_reducible refine below_drewN ?_ _ | with_reducible refine Below.drew ?_))⟩
  · go_enter Tryd.func44, Tryd.ntmps44
    go_wp2
    go_ret
    exact ⟨ret_bool (by simp [h1]), by (repeat (first | with_reducible assumption | with_reducible exact Below.refl _ _ | with_reducible refine Below.setCell ?_ (by first | omega | (simp; done) | (simp; omega)) _ | with_reducible refine Below.alloc ?_ (by first | omega | (simp; done) | (simp; omega)) _ | with_reducible refine below_drewN ?_ _ | with_reducible refine Below.drew ?_))⟩

theorem eqSeg_any (s t : Sg) (w : World) :
    Calls Tryd.prog 24 #[.agg #[.int .i64 s.1.1, .int .i64 s.1.2, .int .i64 s.2.1, .int .i64 s.2.2], .agg #[.int .i64 t.1.1, .int .i64 t.1.2, .int .i64 t.2.1, .int .i64 t.2.2]] w fun e w' =>
      e = .returned (.bool (decide (s = t))) ∧ Below w.heap.size w w' := by
  obtain ⟨⟨a, b⟩, c, d⟩ := s
  obtain ⟨⟨a', b'⟩, c', d'⟩ := t
  by_cases h1 : a = a' ∧ b = b'
  · by_cases h2 : c = c' ∧ d = d'
    all_goals
      go_enter Tryd.func24, Tryd.ntmps24
      go_wp2_with fail
      refine (eqPos_any _ _ _ _ _).mono ?_
      rintro e w1 ⟨rfl, hb1⟩
      obtain ⟨hc1, hf1, hz1⟩ := bcell hb1
      (try simp at hz1)
      go_wp2_with fail
      refine (eqPos_any _ _ _ _ _).mono ?_
      rintro e w2 ⟨rfl, hb2⟩
      go_wp2_with fail
      go_ret
      exact ⟨ret_bool (by simp [h1, h2]), by (repeat (first | with_reducible assumption | with_reducible exact Below.refl _ _ | with_reducible refine Below.setCell ?_ (by first | omega | (simp; done) | (simp; omega)) _ | with_reducible refine Below.alloc ?_ (by first | omega | (simp; done) | (simp; omega)) _ | with_reducible refine below_drewN ?_ _ | with_reducible refine Below.drew ?_ | with_reducible refine Below.trans ?_ (Below.mono hb2 (by first | omega | (simp; done) | (simp; omega))) | with_reducible refine Below.trans ?_ (Below.mono hb1 (by first | omega | (simp; done) | (simp; omega)))))⟩
  · go_enter Tryd.func24, Tryd.ntmps24
    go_wp2_with fail
    refine (eqPos_any _ _ _ _ _).mono ?_
    rintro e w1 ⟨rfl, hb1⟩
    obtain ⟨hc1, hf1, hz1⟩ := bcell hb1
    (try simp at hz1)
    go_wp2_with fail
    go_ret
    exact ⟨ret_bool (by simp [h1]), by (repeat (first | with_reducible assumption | with_reducible exact Below.refl _ _ | with_reducible refine Below.setCell ?_ (by first | omega | (simp; done) | (simp; omega)) _ | with_reducible refine Below.alloc ?_ (by first | omega | (simp; done) | (simp; omega)) _ | with_reducible refine below_drewN ?_ _ | with_reducible refine Below.drew ?_ | with_reducible refine Below.trans ?_ (Below.mono hb1 (by first | omega | (simp; done) | (simp; omega)))))⟩

theorem eqSegS_any (W : World) (v u : Value) (l m : List Sg) (hv : SlS W W.heap.size v l) (hu : SlS W W.heap.size u m) :
    Calls Tryd.prog 7 #[v, u] W fun e w' => e = .returned (.bool (decide (l = m))) ∧ Below W.heap.size W w' := by
  obtain ⟨A, c, rfl, hc, hm⟩ := hv.val
  obtain ⟨A', c', rfl, hc', hm'⟩ := hu.val
  by_cases hnm : l.length = m.length
  rotate_left
  · have hne : (((l.length : Nat) : Int) != ((m.length : Nat) : Int)) = true := by simp; omega
    have hd : decide (l = m) = false := by simp; intro e; exact hnm (by rw [e])
    go_enter Tryd.func7, Tryd.ntmps7
    go_wp2
    go_ret
    exact ⟨ret_bool hd.symm, Below.refl _ _⟩
  have hne : (((l.length : Nat) : Int) != ((m.length : Nat) : Int)) = false := by simp [hnm]
  have HNM := Lib.hid hnm
  clear hnm
  go_enter Tryd.func7, Tryd.ntmps7
  go_wp2
  go_loopg [5] l.length (fun k p wr => ∃ i : Nat, k = l.length - i ∧ i ≤ l.length ∧ p = .int .i64 i ∧ AgreeTo i l m ∧ Below W.heap.size W wr)
  case atStart => exact ⟨0, by omega, by omega, rfl, AgreeTo.zero _ _, Below.refl _ _⟩
  case' round =>
    obtain ⟨i, hk, hin, rfl, hij, hbl⟩ := hrel
    have HK := Lib.hid hk
    clear hk
    have hlm := HNM.out
    have him : i ≤ m.length := by omega
    clear hlm
    by_cases hlt : i < l.length
    rotate_left
    · go_wp2
      go_ret
      exact ⟨ret_bool (by simp; exact (AgreeTo.eq hij (by omega) HNM.out)), hbl⟩
    have hlm : i < m.length := by have := HNM.out; omega
  obtain ⟨b, o, p, q, r, t, rfl, hb, hg, f0, f1, f2, f3⟩ := sg_at hv hlt
  obtain ⟨b', o', p', q', r', t', rfl, hb', hg', f0', f1', f2', f3'⟩ := sg_at hu hlm
  have HG := Lib.hid (And.intro hg hg')
  clear hg hg'
  obtain ⟨x, rfl⟩ := Later.ex hbl
  by_cases hst : ((p, q), (r, t)) = ((p', q'), (r', t'))
  all_goals
    have hd : ∀ w, Calls Tryd.prog 24 #[.agg #[.int .i64 p, .int .i64 q, .int .i64 r, .int .i64 t], .agg #[.int .i64 p', .int .i64 q', .int .i64 r', .int .i64 t']] w fun e w' => e = .returned (.bool (decide (((p, q), (r, t)) = ((p', q'), (r', t'))))) ∧ Below w.heap.size w w' := eqSeg_any ((p, q), (r, t)) ((p', q'), (r', t'))
    rw [show decide (((p, q), (r, t)) = ((p', q'), (r', t'))) = _ by first | exact decide_eq_true hst | exact decide_eq_false hst] at hd
    have HD := Lib.hid hd
    have HST := Lib.hid hst
    clear hst hd
    go_wp2
    refine wp_region_later hbl (by kernel_rfl) (by kernel_rfl) ?_
    repeat (go_big_quiet_step ((go_at_call 24; exact later_call (Nat.le_refl _) (HD.out _))))
    refine wpQuiet_nil ?_
    rintro _ ⟨y, rfl⟩
    have hy := y.ok
    go_wp2
  · go_roundg (l.length - (i + 1))
    case measure => have := HK.out; omega
    case rel => exact ⟨i + 1, rfl, by omega, by go_num, hij.succ HG.out.1 (HST.out ▸ HG.out.2), hy⟩
  · go_ret
    exact ⟨ret_bool (by simpa using AgreeTo.ne HG.out.1 HG.out.2 HST.out), hy⟩

theorem neq_sg (p q r t p' q' r' t' : Int) (w : World) : (binOp .neq 37 (.agg #[.int .i64 p, .int .i64 q, .int .i64 r, .int .i64 t]) (.agg #[.int .i64 p', .int .i64 q', .int .i64 r', .int .i64 t'])).run Tryd.prog w =
    .ok (.bool (!decide (((p, q), (r, t)) = ((p', q'), (r', t'))))) w := by
  by_cases h1 : p = p' <;> by_cases h2 : q = q' <;> by_cases h3 : r = r' <;> by_cases h4 : t = t' <;> simp [go_sem, h1, h2, h3, h4]

theorem slEqual_any (W : World) (v u : Value) (l m : List Sg) (hv : SlS W W.heap.size v l) (hu : SlS W W.heap.size u m) :
    Calls Tryd.prog 33 #[v, u] W fun e w' => e = .returned (.bool (decide (l = m))) ∧ Below W.heap.size W w' := by
  obtain ⟨A, c, rfl, hc, hm⟩ := hv.val
  obtain ⟨A', c', rfl, hc', hm'⟩ := hu.val
  by_cases hnm : l.length = m.length
  rotate_left
  · have hne : (((l.length : Nat) : Int) != ((m.length : Nat) : Int)) = true := by simp; omega
    have hd : decide (l = m) = false := by simp; intro e; exact hnm (by rw [e])
    go_enter Tryd.func33, Tryd.ntmps33
    go_wp2
    go_ret
    exact ⟨ret_bool hd.symm, Below.refl _ _⟩
  have hne : (((l.length : Nat) : Int) != ((m.length : Nat) : Int)) = false := by simp [hnm]
  have HNM := Lib.hid hnm
  clear hnm
  go_enter Tryd.func33, Tryd.ntmps33
  go_wp2
  go_loopg [13] l.length (fun k p wr => ∃ i : Nat, k = l.length - i ∧ i ≤ l.length ∧ p = .int .i64 i ∧ AgreeTo i l m ∧ Below W.heap.size W wr)
  case atStart => exact ⟨0, by omega, by omega, rfl, AgreeTo.zero _ _, Below.refl _ _⟩
  case' round =>
    obtain ⟨i, hk, hin, rfl, hij, hbl⟩ := hrel
    have HK := Lib.hid hk
    clear hk
    have hlm := HNM.out
    have him : i ≤ m.length := by omega
    clear hlm
    by_cases hlt : i < l.length
    rotate_left
    · go_wp2
      go_ret
      exact ⟨ret_bool (by simp; exact (AgreeTo.eq hij (by omega) HNM.out)), hbl⟩
    have hlm : i < m.length := by have := HNM.out; omega
  obtain ⟨b, o, p, q, r, t, rfl, hb, hg, f0, f1, f2, f3⟩ := sg_at hv hlt
  obtain ⟨b', o', p', q', r', t', rfl, hb', hg', f0', f1', f2', f3'⟩ := sg_at hu hlm
  have HG := Lib.hid (And.intro hg hg')
  clear hg hg'
  obtain ⟨x, rfl⟩ := Later.ex hbl
  have hq := neq_sg p q r t p' q' r' t'
  by_cases hst : ((p, q), (r, t)) = ((p', q'), (r', t'))
  all_goals
    rw [show decide (((p, q), (r, t)) = ((p', q'), (r', t'))) = _ by first | exact decide_eq_true hst | exact decide_eq_false hst] at hq
    have HST := Lib.hid hst
    clear hst
    go_wp2
    refine wp_region_later hbl (by kernel_rfl) (by kernel_rfl) ?_
    repeat (go_big_quiet_step (fail))
    refine wpQuiet_nil ?_
    rintro _ ⟨y, rfl⟩
    have hy := y.ok
    go_wp2
  · go_roundg (l.length - (i + 1))
    case measure => have := HK.out; omega
    case rel => exact ⟨i + 1, rfl, by omega, by go_num, hij.succ HG.out.1 (HST.out ▸ HG.out.2), hy⟩
  · go_ret
    exact ⟨ret_bool (by simpa using AgreeTo.ne HG.out.1 HG.out.2 HST.out), hy⟩

theorem imSegsSame_any (W : World) (v u : Value) (l m : List Sg) (hv : SlS W W.heap.size v l) (hu : SlS W W.heap.size u m) :
    Calls Tryd.prog 15 #[v, u] W fun e w' => e = .returned (.bool (decide (l = m))) ∧ Below W.heap.size W w' := by
  go_enter Tryd.func15, Tryd.ntmps15
  go_wp2_with fail
  refine (slEqual_any W v u l m hv hu).mono ?_
  rintro e w1 ⟨rfl, hb1⟩
  go_wp2_with fail
  go_ret
  exact ⟨rfl, hb1⟩

theorem infoSeg : (Tryd.prog.info? 37).map (fun i => (i.zero, i.size, i.bytes)) = some (some (.agg #[.int .i64 0, .int .i64 0, .int .i64 0, .int .i64 0]), 4, 32) := by kernel_rfl

end Go.Proofs.YtgfbjpmbaibnoaaDoor
