
/- Marked trees are held: the walk. -/
import Derived.Test.YtgoobhmbfjimoaaDoorMkX
import Derived.Test.YtgoobhmbfjimoaaDoorExLaw2
namespace Go.Proofs.YtgoobhmbfjimoaaDoor
set_option maxRecDepth 100000
set_option linter.unusedSimpArgs false
set_option linter.unusedVariables false
open Go.RowKit
attribute [local go_sem] bs_toList bs_get bs_size

theorem Marked.at {k : Nat} {l : List Ex} {i : Nat} {p q : Int} {s : Bytes} {m : List Ex} (h : Marked k l) (he : l[i]? = some (.mk p q s m)) :
    p = ((k + 3 * ndL (l.take i) : Nat) : Int) ∧ q = ((k + 3 * ndL (l.take i) + 1 : Nat) : Int) ∧ s = mkW (k + 3 * ndL (l.take i) + 2) ∧ Marked (k + 3 * ndL (l.take i) + 3) m := by
  cases h with
  | mk _ _ h1 h2 =>
    obtain ⟨a, b, c⟩ := h1 i _ he
    exact ⟨a, b, c, h2 i _ he⟩
set_option maxHeartbeats 1000000 in
theorem heldExprS_n : ∀ (N : Nat) (l : List Ex), SizeOf.sizeOf l ≤ N → ∀ (v : Value) (w : World) (k : Nat), ExS w w.heap.size v l → Marked k l → 1 ≤ k → k + 3 * ndL l ≤ 90000000 →
    Calls Tryd.prog 41 #[v, .int .i64 (k : Int)] w fun e w' => e = .returned (.int .i64 ((k + 3 * ndL l : Nat) : Int)) ∧ Below w.heap.size w w'
  | 0, l, hN, v, w, k, hO, hM, hk1, hk2 => by cases l <;> simp at hN
  | N + 1, l, hN, v, w, k, hv, hM, hk1, hk2 => by
    obtain ⟨A, c, rfl, hc, hm⟩ := hv.val
    have HX := Lib.hid (And.intro hN (And.intro hk2 (And.intro hM hv)))
    have hlz : l.length ≤ 90000000 := by unfold ndL at hk2; omega
    clear hN hk2 hM hv
    go_enter Tryd.func41, Tryd.ntmps41
    go_wp2_with fail
    go_loopg [1, 5] l.length (fun n a b wr => ∃ i : Nat, n = l.length - i ∧ i ≤ l.length ∧ a = .int .i64 ((k + 3 * ndL (l.take i) : Nat) : Int) ∧ b = .int .i64 i ∧ Below w.heap.size w wr)
    case atStart => exact ⟨0, by omega, by omega, by simp [ndL], rfl, Below.refl _ _⟩
    case round =>
      obtain ⟨i, hk, hin, rfl, rfl, hbl⟩ := hrel
      have HK := Lib.hid hk
      clear hk
      by_cases hlt : i < l.length
      · have hdl : decide (((i : Nat) : Int) < ((l.length : Nat) : Int)) = true := by rw [decide_eq_true_eq]; omega
        have hle := ndL_take l i
        have hks : k + 3 * ndL (l.take i) ≤ 90000000 := by have := HX.out.2.1; omega
        have hkz : 1 ≤ k + 3 * ndL (l.take i) := by omega
        clear hle
        obtain ⟨b, o, p, q, s, A1, c1, m1, rfl, hb, hg, hs1, hm1, hc1, hkd, f0, f1, f2, f3⟩ := ex_at HX.out.2.2.2 hlt
        obtain ⟨hp, hq, hsw, hMm⟩ := HX.out.2.2.1.at hg
        have HG := Lib.hid (And.intro hg (And.intro hMm hkd))
        have hnd : ndL (l.take i) + 1 + ndL m1 ≤ ndL l := by rw [show ndL m1 = ndL (Ex.mk p q s m1).kids from rfl, ← ndL_succ hg]; exact ndL_take _ _
        have HND := Lib.hid hnd
        clear hg hMm hkd hnd
        generalize hkk : k + 3 * ndL (l.take i) = kk at *
        have HKK := Lib.hid hkk
        clear hkk
        subst hp hq hsw
        have hT := markText_any (kk + 2) (by omega) (by omega)
        rw [show ((kk + 2 : Nat) : Int) = (kk : Int) + 1 + 1 by omega] at hT
        rw [show ((kk + 1 : Nat) : Int) = (kk : Int) + 1 by omega] at f1
        have HT := Lib.hid (fun x : Later w.heap.size w => hT x.w')
        clear hT
        have HC := Lib.hid (fun (w' : World) (h : Below w.heap.size w w') => heldExprS_n N m1 (by have := HX.out.1; have := Ex.size_mem HG.out.1; have := Ex.size_kids (Ex.mk (kk : Int) ((kk + 1 : Nat) : Int) (mkW (kk + 2)) m1); simp only [Ex.kids] at this; omega) (.slice A1 m1.length c1) w' (kk + 3) ((HG.out.2.2.keep h (Nat.le_refl _)).more h.size) HG.out.2.1 (by omega) (by have := HX.out.2.1; have := HKK.out; have := HND.out; omega))
        rw [show ((kk + 3 : Nat) : Int) = (kk : Int) + 1 + 1 + 1 by omega] at HC
        obtain ⟨x, rfl⟩ := Later.ex hbl
        go_wp2_with fail
        refine wp_region_later hbl (by kernel_rfl) (by kernel_rfl) ?_
        repeat (go_big_quiet_step ((go_at_call 68; exact later_call' HT.out)))
        refine wpQuiet_nil ?_
        rintro _ ⟨y, rfl⟩
        have hy := y.ok
        have g3 := f3 y
        have hnn : ¬ ((kk + 3 + 3 * ndL m1 : Nat) : Int) < 0 := by omega
        clear f0 f1 f2 f3
        go_wp2_with fail
        refine (HC.out y.w' hy).mono ?_
        rintro r w2 ⟨rfl, hb2⟩
        go_wp2_with fail
        go_roundg (l.length - (i + 1))
        case measure => have := HK.out; omega
        case rel =>
          refine ⟨i + 1, rfl, by omega, ?_, by go_num, hy.ext hb2⟩
          rw [ndL_succ HG.out.1]
          have := HKK.out
          simp only [Ex.kids]
          congr 1
          omega
      · have hdl : decide (((i : Nat) : Int) < ((l.length : Nat) : Int)) = false := by rw [decide_eq_false_iff_not]; omega
        obtain rfl : i = l.length := by omega
        go_wp2_with fail
        go_ret
        exact ⟨by rw [List.take_length]; rfl, hbl⟩
end Go.Proofs.YtgoobhmbfjimoaaDoor
