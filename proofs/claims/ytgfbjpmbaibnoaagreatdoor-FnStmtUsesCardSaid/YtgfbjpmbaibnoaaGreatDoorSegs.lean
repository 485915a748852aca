
/- Segments: equality of two lists, as the laws, the reference and the library ask it. -/
import Derived.Test.YtgfbjpmbaibnoaaGreatDoorRows
import Derived.Test.YtgfbjpmbaibnoaaGreatDoorLib
namespace Go.Proofs.YtgfbjpmbaibnoaaGreatDoor
set_option maxRecDepth 100000
set_option linter.unusedSimpArgs false
set_option linter.unusedVariables false
open Go.RowKit

theorem neq_sg (p q r t p' q' r' t' : Int) (w : World) : (binOp .neq 129 (.agg #[.int .i64 p, .int .i64 q, .int .i64 r, .int .i64 t]) (.agg #[.int .i64 p', .int .i64 q', .int .i64 r', .int .i64 t'])).run Tryz.prog w =
    .ok (.bool (!decide (((p, q), (r, t)) = ((p', q'), (r', t'))))) w := by
  by_cases h1 : p = p' <;> by_cases h2 : q = q' <;> by_cases h3 : r = r' <;> by_cases h4 : t = t' <;> simp [go_sem, h1, h2, h3, h4]

theorem spSegsSame_any (W : World) (v u : Value) (l m : List Sg) (hv : SlS W W.heap.size v l) (hu : SlS W W.heap.size u m) :
    Calls Tryz.prog 56 #[v, u] W fun e w' => e = .returned (.bool (decide (l = m))) ∧ Below W.heap.size W w' := by
  obtain ⟨A, c, rfl, hc, hm⟩ := hv.val
  obtain ⟨A', c', rfl, hc', hm'⟩ := hu.val
  by_cases hnm : l.length = m.length
  rotate_left
  · have hne : (((l.length : Nat) : Int) != ((m.length : Nat) : Int)) = true := by simp; omega
    have hd : decide (l = m) = false := by simp; intro e; exact hnm (by rw [e])
    go_enter Tryz.func56, Tryz.ntmps56
    go_wp2
    go_ret
    exact ⟨ret_bool hd.symm, Below.refl _ _⟩
  have hne : (((l.length : Nat) : Int) != ((m.length : Nat) : Int)) = false := by simp [hnm]
  have HNM := Lib.hid hnm
  clear hnm
  go_enter Tryz.func56, Tryz.ntmps56
  go_wp2
  go_loopg [5] l.length (fun k p wr => ∃ i : Nat, k = l.length - i ∧ i ≤ l.length ∧ p = .int .i64 i ∧ AgreeTo i l m ∧ Below W.heap.size W wr)
  case atStart => exact ⟨0, by omega, by omega, rfl, AgreeTo.zero _ _, Below.refl _ _⟩
  case' round =>
    obtain ⟨i, hk, hin, rfl, hij, hbl⟩ := hrel
    have HK := Lib.hid hk
    clear hk
    have hlm := HNM.out
    have him : i ≤ m.length := by omega
    clear hlm
    by_cases hlt : i < l.length
    rotate_left
    · go_wp2
      go_ret
      exact ⟨ret_bool (by simp; exact (AgreeTo.eq hij (by omega) HNM.out)), hbl⟩
    have hlm : i < m.length := by have := HNM.out; omega
  obtain ⟨b, o, p, q, r, t, rfl, hb, hg, f0, f1, f2, f3⟩ := sg_at hv hlt
  obtain ⟨b', o', p', q', r', t', rfl, hb', hg', f0', f1', f2', f3'⟩ := sg_at hu hlm
  have HG := Lib.hid (And.intro hg hg')
  clear hg hg'
  obtain ⟨x, rfl⟩ := Later.ex hbl
  have hq := neq_sg p q r t p' q' r' t'
  by_cases hst : ((p, q), (r, t)) = ((p', q'), (r', t'))
  all_goals
    rw [show decide (((p, q), (r, t)) = ((p', q'), (r', t'))) = _ by first | exact decide_eq_true hst | exact decide_eq_false hst] at hq
    have HST := Lib.hid hst
    clear hst
    go_wp2
    refine wp_region_later hbl (by kernel_rfl) (by kernel_rfl) ?_
    repeat (go_big_quiet_step (fail))
    refine wpQuiet_nil ?_
    rintro _ ⟨y, rfl⟩
    have hy := y.ok
    go_wp2
  · go_roundg (l.length - (i + 1))
    case measure => have := HK.out; omega
    case rel => exact ⟨i + 1, rfl, by omega, by go_num, hij.succ HG.out.1 (HST.out ▸ HG.out.2), hy⟩
  · go_ret
    exact ⟨ret_bool (by simpa using AgreeTo.ne HG.out.1 HG.out.2 HST.out), hy⟩
theorem slEqual_any (W : World) (v u : Value) (l m : List Sg) (hv : SlS W W.heap.size v l) (hu : SlS W W.heap.size u m) :
    Calls Tryz.prog 124 #[v, u] W fun e w' => e = .returned (.bool (decide (l = m))) ∧ Below W.heap.size W w' := by
  obtain ⟨A, c, rfl, hc, hm⟩ := hv.val
  obtain ⟨A', c', rfl, hc', hm'⟩ := hu.val
  by_cases hnm : l.length = m.length
  rotate_left
  · have hne : (((l.length : Nat) : Int) != ((m.length : Nat) : Int)) = true := by simp; omega
    have hd : decide (l = m) = false := by simp; intro e; exact hnm (by rw [e])
    go_enter Tryz.func124, Tryz.ntmps124
    go_wp2
    go_ret
    exact ⟨ret_bool hd.symm, Below.refl _ _⟩
  have hne : (((l.length : Nat) : Int) != ((m.length : Nat) : Int)) = false := by simp [hnm]
  have HNM := Lib.hid hnm
  clear hnm
  go_enter Tryz.func124, Tryz.ntmps124
  go_wp2
  go_loopg [13] l.length (fun k p wr => ∃ i : Nat, k = l.length - i ∧ i ≤ l.length ∧ p = .int .i64 i ∧ AgreeTo i l m ∧ Below W.heap.size W wr)
  case atStart => exact ⟨0, by omega, by omega, rfl, AgreeTo.zero _ _, Below.refl _ _⟩
  case' round =>
    obtain ⟨i, hk, hin, rfl, hij, hbl⟩ := hrel
    have HK := Lib.hid hk
    clear hk
    have hlm := HNM.out
    have him : i ≤ m.length := by omega
    clear hlm
    by_cases hlt : i < l.length
    rotate_left
    · go_wp2
      go_ret
      exact ⟨ret_bool (by simp; exact (AgreeTo.eq hij (by omega) HNM.out)), hbl⟩
    have hlm : i < m.length := by have := HNM.out; omega
  obtain ⟨b, o, p, q, r, t, rfl, hb, hg, f0, f1, f2, f3⟩ := sg_at hv hlt
  obtain ⟨b', o', p', q', r', t', rfl, hb', hg', f0', f1', f2', f3'⟩ := sg_at hu hlm
  have HG := Lib.hid (And.intro hg hg')
  clear hg hg'
  obtain ⟨x, rfl⟩ := Later.ex hbl
  have hq := neq_sg p q r t p' q' r' t'
  by_cases hst : ((p, q), (r, t)) = ((p', q'), (r', t'))
  all_goals
    rw [show decide (((p, q), (r, t)) = ((p', q'), (r', t'))) = _ by first | exact decide_eq_true hst | exact decide_eq_false hst] at hq
    have HST := Lib.hid hst
    clear hst
    go_wp2
    refine wp_region_later hbl (by kernel_rfl) (by kernel_rfl) ?_
    repeat (go_big_quiet_step (fail))
    refine wpQuiet_nil ?_
    rintro _ ⟨y, rfl⟩
    have hy := y.ok
    go_wp2
  · go_roundg (l.length - (i + 1))
    case measure => have := HK.out; omega
    case rel => exact ⟨i + 1, rfl, by omega, by go_num, hij.succ HG.out.1 (HST.out ▸ HG.out.2), hy⟩
  · go_ret
    exact ⟨ret_bool (by simpa using AgreeTo.ne HG.out.1 HG.out.2 HST.out), hy⟩

theorem imSegsSame_any (W : World) (v u : Value) (l m : List Sg) (hv : SlS W W.heap.size v l) (hu : SlS W W.heap.size u m) :
    Calls Tryz.prog 52 #[v, u] W fun e w' => e = .returned (.bool (decide (l = m))) ∧ Below W.heap.size W w' := by
  go_enter Tryz.func52, Tryz.ntmps52
  go_wp2_with fail
  refine (slEqual_any W v u l m hv hu).mono ?_
  rintro e w1 ⟨rfl, hb1⟩
  go_wp2_with fail
  go_ret
  exact ⟨rfl, hb1⟩

theorem infoSeg : (Tryz.prog.info? 129).map (fun i => (i.zero, i.size, i.bytes)) = some (some (.agg #[.int .i64 0, .int .i64 0, .int .i64 0, .int .i64 0]), 4, 32) := by kernel_rfl

end Go.Proofs.YtgfbjpmbaibnoaaGreatDoor
