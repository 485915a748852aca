
/- Lists of statements, marked, and held as marked. -/
import Derived.Test.YtgakjhaepdigpaaGreatDoorZr1
import Derived.Test.YtgakjhaepdigpaaGreatDoorPg4
import Derived.Test.YtgakjhaepdigpaaGreatDoorZm21
namespace Go.Proofs.YtgakjhaepdigpaaGreatDoor
set_option maxRecDepth 100000
set_option linter.unusedSimpArgs false
set_option linter.unusedVariables false
open Go.RowKit
attribute [local go_sem] bs_toList bs_get bs_size

/-- how many marks a line takes -/
def smK (s : Sm) : Nat := 9 + 3 * ndL s.ex.kids + 3 * ndL s.th.kids
def sumK (l : List Sm) : Nat := (l.map smK).sum
theorem sumK_succ {l : List Sm} {i : Nat} {s : Sm} (h : l[i]? = some s) : sumK (l.take (i + 1)) = sumK (l.take i) + smK s := by
  unfold sumK
  rw [List.take_add_one, h]
  simp
theorem sumK_le (l : List Sm) (i : Nat) : sumK (l.take i) ≤ sumK l := by
  conv => rhs; rw [← List.take_append_drop i l]
  unfold sumK
  rw [List.map_append, List.sum_append]
  omega
/-- a line marked from k on -/
def MkSm (k : Nat) (s : Sm) : Prop := s.kind = (k : Int) ∧ s.name = mkW (k + 1) ∧ s.typ = mkW (k + 2) ∧ s.ex.kind = ((k + 3 : Nat) : Int) ∧ s.ex.n = ((k + 4 : Nat) : Int) ∧ s.ex.s = mkW (k + 5) ∧ Marked (k + 6) s.ex.kids ∧
  s.th.kind = ((k + 6 + 3 * ndL s.ex.kids : Nat) : Int) ∧ s.th.n = ((k + 6 + 3 * ndL s.ex.kids + 1 : Nat) : Int) ∧ s.th.s = mkW (k + 6 + 3 * ndL s.ex.kids + 2) ∧ Marked (k + 6 + 3 * ndL s.ex.kids + 3) s.th.kids
/-- lines marked from 1 on, the first i of them -/
def MarkS (l : List Sm) (i : Nat) : Prop := ∀ (j : Nat) (s : Sm), j < i → l[j]? = some s → MkSm (1 + sumK (l.take j)) s
set_option maxHeartbeats 4000000 in
theorem heldStmtS_any (l : List Sm) (v : Value) (w : World) (hv : SmS w w.heap.size v l) (hM : MarkS l l.length) (hk2 : sumK l ≤ 80000000) :
    Calls Tryz.prog 49 #[v, .int .i64 1] w fun e w' => e = .returned (.int .i64 ((1 + sumK l : Nat) : Int)) ∧ Below w.heap.size w w' := by
  have HX := Lib.hid (And.intro hM hk2)
  obtain ⟨A, c, rfl, hc, hm⟩ := hv.val
  have hlz : l.length ≤ 90000000 := by
    have : l.length ≤ sumK l := by
      clear hv hM HX hc
      induction l with
      | nil => simp
      | cons a l ih =>
        unfold sumK at *
        simp only [List.map_cons, List.sum_cons, List.length_cons, smK] at *
        have := ih (by omega)
        omega
    omega
  clear hM hk2
  go_enter Tryz.func49, Tryz.ntmps49
  go_wp2_with fail
  go_loopg [1, 5] l.length (fun n a b wr => ∃ i : Nat, n = l.length - i ∧ i ≤ l.length ∧ a = .int .i64 ((1 + sumK (l.take i) : Nat) : Int) ∧ b = .int .i64 i ∧ Below w.heap.size w wr)
  case atStart => exact ⟨0, by omega, by omega, by simp [sumK], rfl, Below.refl _ _⟩
  case round =>
    obtain ⟨i, hk, hin, rfl, rfl, hbl⟩ := hrel
    have HK := Lib.hid hk
    clear hk
    by_cases hlt : i < l.length
    · have hdl : decide (((i : Nat) : Int) < ((l.length : Nat) : Int)) = true := by rw [decide_eq_true_eq]; omega
      have hle := sumK_le l i
      have hle2 := sumK_le l (i + 1)
      obtain ⟨b, o, s, B1, B2, d1, d2, rfl, hb, hg, hSV, f0, f1, f2, f3, f4, f5, f6, f7, f8, f9, f10⟩ := sm_at2 hv hlt
      rw [sumK_succ hg] at hle2
      have hks : 1 + sumK (l.take i) ≤ 80000001 := by have := HX.out.2; omega
      have hkz : 1 ≤ 1 + sumK (l.take i) := by omega
      have hsk : smK s = 9 + 3 * ndL s.ex.kids + 3 * ndL s.th.kids := rfl
      have hnd : 1 + sumK (l.take i) + 9 + 3 * ndL s.ex.kids + 3 * ndL s.th.kids ≤ 80000001 := by have := HX.out.2; omega
      obtain ⟨m1, m2, m3, m4, m5, m6, m7, m8, m9, m10, m11⟩ := HX.out.1 i s hlt hg
      have HG := Lib.hid hg
      obtain ⟨A1', A2', c1', c2', e', _, _, hx1, hx2⟩ := hSV.form2
      obtain ⟨k1', k2'⟩ : B1 = A1' ∧ d1 = c1' ∧ B2 = A2' ∧ d2 = c2' := by
        simp only [Value.agg.injEq, Array.mk.injEq, List.cons.injEq, Value.slice.injEq, true_and, and_true] at e'
        exact ⟨e'.1.1, e'.1.2, e'.2.1, e'.2.2⟩
      obtain ⟨k2', k3', k4'⟩ := k2'
      subst k1' k2' k3' k4'
      obtain ⟨kv1, ex1, _, hy1⟩ := hx1
      obtain ⟨kv2, ex2, _, hy2⟩ := hx2
      have e1 : Value.slice B1 s.ex.kids.length d1 = kv1 := by simpa using ex1
      have e2 : Value.slice B2 s.th.kids.length d2 = kv2 := by simpa using ex2
      rw [← e1] at hy1
      rw [← e2] at hy2
      clear hle hle2 hg hSV ex1 ex2 e1 e2 e'
      rw [m1] at f0
      rw [m2] at f1
      rw [m3] at f2
      rw [m4] at f3
      rw [m5] at f4
      rw [m6] at f5
      rw [m8] at f7
      rw [m9] at f8
      rw [m10] at f9
      generalize hkk : 1 + sumK (l.take i) = kk at *
      have HKK := Lib.hid hkk
      generalize hn1 : ndL s.ex.kids = n1 at *
      generalize hn2 : ndL s.th.kids = n2 at *
      have HN := Lib.hid (And.intro hn1 (And.intro hn2 hsk))
      clear hkk m1 m2 m3 m4 m5 m6 m8 m9 m10
      have t1 := markText_any (kk + 1) (by omega) (by omega)
      have t2 := markText_any (kk + 2) (by omega) (by omega)
      have t5 := markText_any (kk + 5) (by omega) (by omega)
      have t8 := markText_any (kk + 6 + 3 * n1 + 2) (by omega) (by omega)
      rw [show ((kk + 1 : Nat) : Int) = (kk : Int) + 1 by omega] at t1
      rw [show ((kk + 2 : Nat) : Int) = (kk : Int) + 1 + 1 by omega] at t2
      rw [show ((kk + 5 : Nat) : Int) = (kk : Int) + 1 + 1 + 1 + 1 + 1 by omega] at t5
      rw [show ((kk + 3 : Nat) : Int) = (kk : Int) + 1 + 1 + 1 by omega] at f3
      rw [show ((kk + 4 : Nat) : Int) = (kk : Int) + 1 + 1 + 1 + 1 by omega] at f4
      have H1 := Lib.hid (fun x : Later w.heap.size w => t1 x.w')
      have H2 := Lib.hid (fun x : Later w.heap.size w => t2 x.w')
      have H5 := Lib.hid (fun x : Later w.heap.size w => t5 x.w')
      have HC1 := Lib.hid (fun (w' : World) (h : Below w.heap.size w w') => heldExprS_n _ s.ex.kids (Nat.le_refl _) (.slice B1 s.ex.kids.length d1) w' (kk + 6) ((hy1.keep h (Nat.le_refl _)).more h.size) m7 (by omega) (by omega))
      rw [hn1, show ((kk + 6 : Nat) : Int) = (kk : Int) + 1 + 1 + 1 + 1 + 1 + 1 by omega] at HC1
      generalize hq : kk + 6 + 3 * n1 = k6 at *
      have HQ := Lib.hid hq
      rw [show ((k6 + 2 : Nat) : Int) = (k6 : Int) + 1 + 1 by omega] at t8
      rw [show ((k6 + 1 : Nat) : Int) = (k6 : Int) + 1 by omega] at f8
      have H8 := Lib.hid (fun x : Later w.heap.size w => t8 x.w')
      have HC2 := Lib.hid (fun (w' : World) (h : Below w.heap.size w w') => heldExprS_n _ s.th.kids (Nat.le_refl _) (.slice B2 s.th.kids.length d2) w' (k6 + 3) ((hy2.keep h (Nat.le_refl _)).more h.size) m11 (by omega) (by omega))
      rw [hn2, show ((k6 + 3 : Nat) : Int) = (k6 : Int) + 1 + 1 + 1 by omega] at HC2
      have hk6 : k6 + 3 + 3 * n2 ≤ 80000001 := by omega
      have hk60 : ¬ ((k6 : Nat) : Int) < 0 := by omega
      have hk90 : ¬ ((k6 + 3 + 3 * n2 : Nat) : Int) < 0 := by omega
      clear t1 t2 t5 t8 m7 m11 hy1 hy2 hq hn1 hn2 hsk hnd
      have g0 := f0 ⟨wr, hbl⟩
      go_wp2_with fail
      refine wp_region_later hbl (by kernel_rfl) (by kernel_rfl) ?_
      repeat (go_big_quiet_step ((go_at_call 103; with_reducible exact later_call' H1.out)))
      refine wpQuiet_nil ?_
      rintro _ ⟨y1, rfl⟩
      clear hbl
      have hbl := y1.ok
      go_wp2_with fail
      refine wp_region_later hbl (by kernel_rfl) (by kernel_rfl) ?_
      repeat (go_big_quiet_step ((go_at_call 103; with_reducible exact later_call' H2.out)))
      refine wpQuiet_nil ?_
      rintro _ ⟨y2, rfl⟩
      clear hbl
      have hbl := y2.ok
      have g3 := f3 y2; have g4 := f4 y2
      go_wp2_with fail
      refine wp_region_later hbl (by kernel_rfl) (by kernel_rfl) ?_
      repeat (go_big_quiet_step ((go_at_call 103; with_reducible exact later_call' H5.out)))
      refine wpQuiet_nil ?_
      rintro _ ⟨y3, rfl⟩
      clear hbl
      have hbl := y3.ok
      have g6 := f6 y3
      go_wp2_with fail
      refine (HC1.out y3.w' hbl).mono ?_
      rintro r w2 ⟨rfl, hb2⟩
      have hbl2 := hbl.ext hb2
      have g7 := f7 ⟨w2, hbl2⟩; have g8 := f8 ⟨w2, hbl2⟩
      clear hbl
      go_wp2_with fail
      refine wp_region_later hbl2 (by kernel_rfl) (by kernel_rfl) ?_
      repeat (go_big_quiet_step ((go_at_call 103; with_reducible exact later_call' H8.out)))
      refine wpQuiet_nil ?_
      rintro _ ⟨y4, rfl⟩
      have hbl := y4.ok
      have g10 := f10 y4
      go_wp2_with fail
      refine (HC2.out y4.w' hbl).mono ?_
      rintro r w3 ⟨rfl, hb3⟩
      go_wp2_with fail
      go_roundg (l.length - (i + 1))
      case measure => have := HK.out; omega
      case rel =>
        refine ⟨i + 1, rfl, by omega, ?_, by go_num, hbl.ext hb3⟩
        rw [sumK_succ HG.out]
        obtain ⟨h1, h2, h3⟩ := HN.out
        have := HKK.out
        have := HQ.out
        congr 1
        omega
    · have hdl : decide (((i : Nat) : Int) < ((l.length : Nat) : Int)) = false := by rw [decide_eq_false_iff_not]; omega
      obtain rfl : i = l.length := by omega
      go_wp2_with fail
      go_ret
      exact ⟨by rw [List.take_length]; rfl, hbl⟩
end Go.Proofs.YtgakjhaepdigpaaGreatDoor
