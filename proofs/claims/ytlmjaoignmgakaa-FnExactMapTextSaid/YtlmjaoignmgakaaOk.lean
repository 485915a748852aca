
/- Segments that are ok: the program's and the reference's test, as one plain test on lists. -/
import Derived.Test.YtlmjaoignmgakaaSegs
namespace Go.Proofs.Ytlmjaoignmgakaa
set_option maxRecDepth 100000
open Go.RowKit

/-- A place of a text of few lines. -/
def PosOk (p : Ps) : Prop := 0 ≤ p.1 ∧ p.1 < 16 ∧ 0 ≤ p.2 ∧ p.2 < 120
instance (p : Ps) : Decidable (PosOk p) := inferInstanceAs (Decidable (_ ∧ _))
def Less (p q : Ps) : Prop := p.1 < q.1 ∨ p.1 = q.1 ∧ p.2 < q.2
instance (p q : Ps) : Decidable (Less p q) := inferInstanceAs (Decidable (_ ∨ _))
/-- What is asked of the element i. -/
def GoodAt (l : List Sg) (i : Nat) : Prop := ∀ s, l[i]? = some s → PosOk s.1 ∧ PosOk s.2 ∧ ∀ r, 0 < i → l[i - 1]? = some r → Less r.1 s.1
def SegsOk (l : List Sg) : Prop := (∀ i, i < l.length → GoodAt l i) ∧ l.length ≤ 1280
open Classical in
noncomputable def segsOkB (l : List Sg) : Bool := decide (SegsOk l)
theorem segsOkB_yes {l : List Sg} (h : SegsOk l) : segsOkB l = true := by unfold segsOkB; simpa using h
theorem segsOkB_no {l : List Sg} (h : ¬ SegsOk l) : segsOkB l = false := by unfold segsOkB; simpa using h
theorem segsOkB_iff {l : List Sg} : segsOkB l = true ↔ SegsOk l := by unfold segsOkB; simp

theorem goodAt_succ {l : List Sg} {k : Nat} {p q r t p2 q2 r2 t2 : Int} (h : ∀ j, j < k + 1 → GoodAt l j) (hg : l[k + 1]? = some ((p, q), (r, t))) (hg2 : l[k]? = some ((p2, q2), (r2, t2))) (h1 : PosOk (p, q)) (h2 : PosOk (r, t)) (h3 : Less (p2, q2) (p, q)) : ∀ j, j < k + 1 + 1 → GoodAt l j := by
  intro j hj
  by_cases e : j = k + 1
  · subst e
    intro s hs
    rw [hg] at hs
    obtain rfl := Option.some.inj hs
    refine ⟨h1, h2, fun r _ hr => ?_⟩
    rw [show k + 1 - 1 = k from rfl, hg2] at hr
    obtain rfl := Option.some.inj hr
    exact h3
  · exact h j (by omega)

theorem goodAt_first {l : List Sg} {i : Nat} (hi : i < 1) {p q r t : Int} (hg : l[i]? = some ((p, q), (r, t))) (h1 : PosOk (p, q)) (h2 : PosOk (r, t)) : ∀ j, j < i + 1 → GoodAt l j := by
  intro j hj s hs
  obtain rfl : j = i := by omega
  rw [hg] at hs
  obtain rfl := Option.some.inj hs
  exact ⟨h1, h2, fun r h => absurd h (by omega)⟩

theorem in_any (n lo hi : Int) (w : World) : Calls Try.prog 56 #[.int .i64 n, .int .i64 lo, .int .i64 hi] w fun e w' => e = .returned (.bool (decide (lo ≤ n ∧ n ≤ hi))) ∧ w = w' := by
  by_cases h1 : lo ≤ n
  · go_enter Try.func56, Try.ntmps56
    go_wp2
    go_ret
    exact ⟨ret_bool (by first | rfl | (rw [Bool.eq_iff_iff]; (try simp only [decide_eq_true_eq]); first | (simp; done) | (simp; omega))), rfl⟩
  · have h1' : decide (lo ≤ n) = false := by simpa using h1
    go_enter Try.func56, Try.ntmps56
    go_wp2
    go_ret
    exact ⟨ret_bool (by first | rfl | (rw [Bool.eq_iff_iff]; (try simp only [decide_eq_true_eq]); first | (simp; done) | (simp; omega))), rfl⟩

theorem imPosOk_any (a b : Int) (w : World) : Calls Try.prog 36 #[.agg #[.int .i64 a, .int .i64 b]] w fun e w' => e = .returned (.bool (decide (PosOk (a, b)))) ∧ Below w.heap.size w w' := by
  by_cases h1 : 0 ≤ a ∧ a ≤ 15
  · have c1 := in_any a 0 15
    rw [decide_eq_true h1] at c1
    have C1 := Lib.hid c1
    clear c1
    go_enter Try.func36, Try.ntmps36
    go_wp2_with fail
    refine (C1.out _).mono ?_
    rintro e _ ⟨rfl, rfl⟩
    go_wp2_with fail
    refine (in_any _ _ _ _).mono ?_
    rintro e _ ⟨rfl, rfl⟩
    go_wp2_with fail
    go_ret
    exact ⟨ret_bool (by first | rfl | (rw [Bool.eq_iff_iff]; (try simp only [decide_eq_true_eq]); first | (simp [PosOk]; done) | (simp [PosOk]; omega))), by (repeat (first | with_reducible assumption | with_reducible exact Below.refl _ _ | with_reducible refine Below.setCell ?_ (by first | omega | (simp; done) | (simp; omega)) _ | with_reducible refine Below.alloc ?_ (by first | omega | (simp; done) | (simp; omega)) _ | with_reducible refine below_drewN ?_ _ | with_reducible refine Below.drew ?_))⟩
  · have c1 := in_any a 0 15
    rw [decide_eq_false h1] at c1
    have C1 := Lib.hid c1
    clear c1
    go_enter Try.func36, Try.ntmps36
    go_wp2_with fail
    refine (C1.out _).mono ?_
    rintro e _ ⟨rfl, rfl⟩
    go_wp2_with fail
    go_ret
    exact ⟨ret_bool (by first | rfl | (rw [Bool.eq_iff_iff]; (try simp only [decide_eq_true_eq]); first | (simp [PosOk]; done) | (simp [PosOk]; omega))), by (repeat (first | with_reducible assumption | with_reducible exact Below.refl _ _ | with_reducible refine Below.setCell ?_ (by first | omega | (simp; done) | (simp; omega)) _ | with_reducible refine Below.alloc ?_ (by first | omega | (simp; done) | (simp; omega)) _ | with_reducible refine below_drewN ?_ _ | with_reducible refine Below.drew ?_))⟩

theorem spPosOk_any (a b : Int) (w : World) : Calls Try.prog 38 #[.agg #[.int .i64 a, .int .i64 b]] w fun e w' => e = .returned (.bool (decide (PosOk (a, b)))) ∧ Below w.heap.size w w' := by
  by_cases h1 : 0 ≤ a
  rotate_left
  · have d1 : decide (0 ≤ a) = false := by simpa using h1
    go_enter Try.func38, Try.ntmps38
    go_wp2
    go_ret
    exact ⟨ret_bool (by first | rfl | (rw [Bool.eq_iff_iff]; (try simp only [decide_eq_true_eq]); first | (simp [PosOk]; done) | (simp [PosOk]; omega))), by (repeat (first | with_reducible assumption | with_reducible exact Below.refl _ _ | with_reducible refine Below.setCell ?_ (by first | omega | (simp; done) | (simp; omega)) _ | with_reducible refine Below.alloc ?_ (by first | omega | (simp; done) | (simp; omega)) _ | with_reducible refine below_drewN ?_ _ | with_reducible refine Below.drew ?_))⟩
  by_cases h2 : a < 16
  rotate_left
  · have d1 : decide (a < 16) = false := by simpa using h2
    go_enter Try.func38, Try.ntmps38
    go_wp2
    go_ret
    exact ⟨ret_bool (by first | rfl | (rw [Bool.eq_iff_iff]; (try simp only [decide_eq_true_eq]); first | (simp [PosOk]; done) | (simp [PosOk]; omega))), by (repeat (first | with_reducible assumption | with_reducible exact Below.refl _ _ | with_reducible refine Below.setCell ?_ (by first | omega | (simp; done) | (simp; omega)) _ | with_reducible refine Below.alloc ?_ (by first | omega | (simp; done) | (simp; omega)) _ | with_reducible refine below_drewN ?_ _ | with_reducible refine Below.drew ?_))⟩
  by_cases h3 : 0 ≤ b
  rotate_left
  · have d1 : decide (0 ≤ b) = false := by simpa using h3
    go_enter Try.func38, Try.ntmps38
    go_wp2
    go_ret
    exact ⟨ret_bool (by first | rfl | (rw [Bool.eq_iff_iff]; (try simp only [decide_eq_true_eq]); first | (simp [PosOk]; done) | (simp [PosOk]; omega))), by (repeat (first | with_reducible assumption | with_reducible exact Below.refl _ _ | with_reducible refine Below.setCell ?_ (by first | omega | (simp; done) | (simp; omega)) _ | with_reducible refine Below.alloc ?_ (by first | omega | (simp; done) | (simp; omega)) _ | with_reducible refine below_drewN ?_ _ | with_reducible refine Below.drew ?_))⟩
  go_enter Try.func38, Try.ntmps38
  go_wp2
  go_ret
  exact ⟨ret_bool (by first | rfl | (rw [Bool.eq_iff_iff]; (try simp only [decide_eq_true_eq]); first | (simp [PosOk]; done) | (simp [PosOk]; omega))), by (repeat (first | with_reducible assumption | with_reducible exact Below.refl _ _ | with_reducible refine Below.setCell ?_ (by first | omega | (simp; done) | (simp; omega)) _ | with_reducible refine Below.alloc ?_ (by first | omega | (simp; done) | (simp; omega)) _ | with_reducible refine below_drewN ?_ _ | with_reducible refine Below.drew ?_))⟩

theorem imPosLess_any (a b c d : Int) (w : World) : Calls Try.prog 37 #[.agg #[.int .i64 a, .int .i64 b], .agg #[.int .i64 c, .int .i64 d]] w fun e w' => e = .returned (.bool (decide (Less (a, b) (c, d)))) ∧ Below w.heap.size w w' := by
  by_cases h1 : a < c
  · go_enter Try.func37, Try.ntmps37
    go_wp2
    go_ret
    exact ⟨ret_bool (by first | rfl | (rw [Bool.eq_iff_iff]; (try simp only [decide_eq_true_eq]); first | (simp [Less]; done) | (simp [Less]; omega))), by (repeat (first | with_reducible assumption | with_reducible exact Below.refl _ _ | with_reducible refine Below.setCell ?_ (by first | omega | (simp; done) | (simp; omega)) _ | with_reducible refine Below.alloc ?_ (by first | omega | (simp; done) | (simp; omega)) _ | with_reducible refine below_drewN ?_ _ | with_reducible refine Below.drew ?_))⟩
  have d1 : decide (a < c) = false := by simpa using h1
  by_cases h2 : a = c
  · subst h2
    go_enter Try.func37, Try.ntmps37
    go_wp2
    go_ret
    exact ⟨ret_bool (by first | rfl | (rw [Bool.eq_iff_iff]; (try simp only [decide_eq_true_eq]); first | (simp [Less]; done) | (simp [Less]; omega))), by (repeat (first | with_reducible assumption | with_reducible exact Below.refl _ _ | with_reducible refine Below.setCell ?_ (by first | omega | (simp; done) | (simp; omega)) _ | with_reducible refine Below.alloc ?_ (by first | omega | (simp; done) | (simp; omega)) _ | with_reducible refine below_drewN ?_ _ | with_reducible refine Below.drew ?_))⟩
  · have d2 : (a == c) = false := by simpa using h2
    go_enter Try.func37, Try.ntmps37
    go_wp2
    go_ret
    exact ⟨ret_bool (by first | rfl | (rw [Bool.eq_iff_iff]; (try simp only [decide_eq_true_eq]); first | (simp [Less]; done) | (simp [Less]; omega))), by (repeat (first | with_reducible assumption | with_reducible exact Below.refl _ _ | with_reducible refine Below.setCell ?_ (by first | omega | (simp; done) | (simp; omega)) _ | with_reducible refine Below.alloc ?_ (by first | omega | (simp; done) | (simp; omega)) _ | with_reducible refine below_drewN ?_ _ | with_reducible refine Below.drew ?_))⟩
theorem spPosLess_any (a b c d : Int) (w : World) : Calls Try.prog 39 #[.agg #[.int .i64 a, .int .i64 b], .agg #[.int .i64 c, .int .i64 d]] w fun e w' => e = .returned (.bool (decide (Less (a, b) (c, d)))) ∧ Below w.heap.size w w' := by
  by_cases h1 : a < c
  · go_enter Try.func39, Try.ntmps39
    go_wp2
    go_ret
    exact ⟨ret_bool (by first | rfl | (rw [Bool.eq_iff_iff]; (try simp only [decide_eq_true_eq]); first | (simp [Less]; done) | (simp [Less]; omega))), by (repeat (first | with_reducible assumption | with_reducible exact Below.refl _ _ | with_reducible refine Below.setCell ?_ (by first | omega | (simp; done) | (simp; omega)) _ | with_reducible refine Below.alloc ?_ (by first | omega | (simp; done) | (simp; omega)) _ | with_reducible refine below_drewN ?_ _ | with_reducible refine Below.drew ?_))⟩
  have d1 : decide (a < c) = false := by simpa using h1
  by_cases h2 : a = c
  · subst h2
    go_enter Try.func39, Try.ntmps39
    go_wp2
    go_ret
    exact ⟨ret_bool (by first | rfl | (rw [Bool.eq_iff_iff]; (try simp only [decide_eq_true_eq]); first | (simp [Less]; done) | (simp [Less]; omega))), by (repeat (first | with_reducible assumption | with_reducible exact Below.refl _ _ | with_reducible refine Below.setCell ?_ (by first | omega | (simp; done) | (simp; omega)) _ | with_reducible refine Below.alloc ?_ (by first | omega | (simp; done) | (simp; omega)) _ | with_reducible refine below_drewN ?_ _ | with_reducible refine Below.drew ?_))⟩
  · have d2 : (a == c) = false := by simpa using h2
    go_enter Try.func39, Try.ntmps39
    go_wp2
    go_ret
    exact ⟨ret_bool (by first | rfl | (rw [Bool.eq_iff_iff]; (try simp only [decide_eq_true_eq]); first | (simp [Less]; done) | (simp [Less]; omega))), by (repeat (first | with_reducible assumption | with_reducible exact Below.refl _ _ | with_reducible refine Below.setCell ?_ (by first | omega | (simp; done) | (simp; omega)) _ | with_reducible refine Below.alloc ?_ (by first | omega | (simp; done) | (simp; omega)) _ | with_reducible refine below_drewN ?_ _ | with_reducible refine Below.drew ?_))⟩

theorem spSegsOk_any (W : World) (v : Value) (l : List Sg) (hv : SlS W W.heap.size v l) : Calls Try.prog 17 #[v] W fun e w' => e = .returned (.bool (segsOkB l)) ∧ Below W.heap.size W w' := by
  obtain ⟨A, c, rfl, hc, hm⟩ := hv.val
  go_enter Try.func17, Try.ntmps17
  go_wp2
  go_loopg [3] l.length (fun k p wr => ∃ i : Nat, k = l.length - i ∧ i ≤ l.length ∧ p = .int .i64 i ∧ (∀ j, j < i → GoodAt l j) ∧ Below W.heap.size W wr)
  case atStart => exact ⟨0, by omega, by omega, rfl, fun j h => absurd h (by omega), Below.refl _ _⟩
  case round =>
    obtain ⟨i, hk, hin, rfl, hij, hbl⟩ := hrel
    have HK := Lib.hid (And.intro hk hij)
    clear hk hij
    by_cases hlt : i < l.length
    rotate_left
    · have hlen : ¬ l.length ≤ 1280 → ¬ SegsOk l := fun h g => h g.2
      go_wp2
      go_ret
      refine ⟨ret_bool ?_, hbl⟩
      have hk := HK.out.2
      rw [Bool.eq_iff_iff, segsOkB_iff]
      simp only [decide_eq_true_eq]
      exact ⟨fun h => ⟨fun j hj => hk j (by omega), by omega⟩, fun h => by have := h.2; omega⟩
    obtain ⟨b, o, p, q, r, t, rfl, hb, hg, f0, f1, f2, f3⟩ := sg_at hv hlt
    have HG := Lib.hid hg
    clear hg
    obtain ⟨x, rfl⟩ := Later.ex hbl
    have c1 := spPosOk_any p q
    by_cases h1 : PosOk (p, q)
    rotate_left
    · rw [decide_eq_false h1] at c1
      have C1 := Lib.hid c1
      have H1 := Lib.hid h1
      clear c1 h1
      go_wp2
      refine wp_region_later hbl (by kernel_rfl) (by kernel_rfl) ?_
      repeat (go_big_quiet_step ((go_at_call 38; exact later_call (Nat.le_refl _) (C1.out _))))
      refine wpQuiet_nil ?_
      rintro _ ⟨y, rfl⟩
      have hy := y.ok
      go_wp2
      go_ret
      exact ⟨ret_bool (by rw [segsOkB_no]; exact fun h => H1.out (h.1 i hlt _ HG.out).1), hy⟩
    rw [decide_eq_true h1] at c1
    have C1 := Lib.hid c1
    have H1 := Lib.hid h1
    clear c1 h1
    have c2 := spPosOk_any r t
    by_cases h2 : PosOk (r, t)
    rotate_left
    · rw [decide_eq_false h2] at c2
      have C2 := Lib.hid c2
      have H2 := Lib.hid h2
      clear c2 h2
      go_wp2
      refine wp_region_later hbl (by kernel_rfl) (by kernel_rfl) ?_
      repeat (go_big_quiet_step ((go_at_call 38; first | with_reducible exact later_call (Nat.le_refl _) (C1.out _) | with_reducible exact later_call (Nat.le_refl _) (C2.out _))))
      refine wpQuiet_nil ?_
      rintro _ ⟨y, rfl⟩
      have hy := y.ok
      go_wp2
      go_ret
      exact ⟨ret_bool (by rw [segsOkB_no]; exact fun h => H2.out (h.1 i hlt _ HG.out).2.1), hy⟩
    rw [decide_eq_true h2] at c2
    have C2 := Lib.hid c2
    have H2 := Lib.hid h2
    clear c2 h2
    by_cases hi0 : i = 0
    · have hi1 : i < 1 := by omega
      have d1 : decide ((0 : Int) < (i : Int)) = false := by first | (simp; done) | (simp; omega)
      have d2 : decide (0 < i) = false := by first | (simp; done) | (simp; omega)
      clear hi0
      go_wp2
      refine wp_region_later hbl (by kernel_rfl) (by kernel_rfl) ?_
      repeat (go_big_quiet_step ((go_at_call 38; first | with_reducible exact later_call (Nat.le_refl _) (C1.out _) | with_reducible exact later_call (Nat.le_refl _) (C2.out _))))
      refine wpQuiet_nil ?_
      rintro _ ⟨y, rfl⟩
      have hy := y.ok
      go_wp2
      go_roundg (l.length - (i + 1))
      case measure => have := HK.out; omega
      case rel => exact ⟨i + 1, rfl, by omega, by go_num, goodAt_first hi1 HG.out H1.out H2.out, hy⟩
    obtain ⟨k, rfl⟩ : ∃ k, i = k + 1 := ⟨i - 1, by omega⟩
    obtain ⟨b2, o2, p2, q2, r2, t2, hA2, hb2, hg2, e0, e1, e2, e3⟩ := sg_at hv (i := k) (by omega)
    cases hA2
    have HG2 := Lib.hid hg2
    clear hg2 hi0
    have d1 : decide ((0 : Int) < (k : Int) + 1) = true := by first | (simp; done) | (simp; omega)
    have c3 := spPosLess_any p2 q2 p q
    by_cases h3 : Less (p2, q2) (p, q)
    all_goals
      rw [show decide (Less (p2, q2) (p, q)) = _ by first | exact decide_eq_true h3 | exact decide_eq_false h3] at c3
      have C3 := Lib.hid c3
      have H3 := Lib.hid h3
      clear c3 h3
      go_wp2
      refine wp_region_later hbl (by kernel_rfl) (by kernel_rfl) ?_
      repeat (go_big_quiet_step ((first | (go_at_call 38; first | with_reducible exact later_call (Nat.le_refl _) (C1.out _) | with_reducible exact later_call (Nat.le_refl _) (C2.out _)) | (go_at_call 39; exact later_call (Nat.le_refl _) (C3.out _)))))
      refine wpQuiet_nil ?_
      rintro _ ⟨y, rfl⟩
      have hy := y.ok
      go_wp2
    · go_roundg (l.length - (k + 1 + 1))
      case measure => have := HK.out; omega
      case rel => exact ⟨k + 1 + 1, rfl, by omega, by go_num, goodAt_succ HK.out.2 HG.out HG2.out H1.out H2.out H3.out, hy⟩
    · go_ret
      exact ⟨ret_bool (by rw [segsOkB_no]; exact fun h => H3.out ((h.1 (k + 1) hlt _ HG.out).2.2 _ (by omega) HG2.out)), hy⟩
theorem imSegsOk_any (W : World) (v : Value) (l : List Sg) (hv : SlS W W.heap.size v l) : Calls Try.prog 16 #[v] W fun e w' => e = .returned (.bool (segsOkB l)) ∧ Below W.heap.size W w' := by
  obtain ⟨A, c, rfl, hc, hm⟩ := hv.val
  go_enter Try.func16, Try.ntmps16
  go_wp2
  go_loopg [7] l.length (fun k p wr => ∃ i : Nat, k = l.length - i ∧ i ≤ l.length ∧ p = .int .i64 i ∧ (∀ j, j < i → GoodAt l j) ∧ Below W.heap.size W wr)
  case atStart => exact ⟨0, by omega, by omega, rfl, fun j h => absurd h (by omega), Below.refl _ _⟩
  case round =>
    obtain ⟨i, hk, hin, rfl, hij, hbl⟩ := hrel
    have HK := Lib.hid (And.intro hk hij)
    clear hk hij
    by_cases hlt : i < l.length
    rotate_left
    · have hlen : ¬ l.length ≤ 1280 → ¬ SegsOk l := fun h g => h g.2
      go_wp2
      go_ret
      refine ⟨ret_bool ?_, hbl⟩
      have hk := HK.out.2
      rw [Bool.eq_iff_iff, segsOkB_iff]
      simp only [decide_eq_true_eq]
      exact ⟨fun h => ⟨fun j hj => hk j (by omega), by omega⟩, fun h => by have := h.2; omega⟩
    obtain ⟨b, o, p, q, r, t, rfl, hb, hg, f0, f1, f2, f3⟩ := sg_at hv hlt
    have HG := Lib.hid hg
    clear hg
    obtain ⟨x, rfl⟩ := Later.ex hbl
    have c1 := imPosOk_any p q
    by_cases h1 : PosOk (p, q)
    rotate_left
    · rw [decide_eq_false h1] at c1
      have C1 := Lib.hid c1
      have H1 := Lib.hid h1
      clear c1 h1
      go_wp2
      obtain ⟨W2, hW2⟩ : ∃ w2, w2 = x.w'.alloc (.cells #[.int .i64 p, .int .i64 q, .int .i64 r, .int .i64 t] 35) := ⟨_, rfl⟩
      rw [← hW2]
      have hbW : Below W.heap.size W W2 := by rw [hW2]; exact hbl.alloc hbl.size _
      have hbs : W.heap.size ≤ W2.heap.size := hbW.size
      have m0 := Later.of (W := W2) (b := x.w'.heap.size) (o := 0) (v := .int .i64 p) (by rw [hW2]; simp)
      have m1 := Later.of (W := W2) (b := x.w'.heap.size) (o := 1) (v := .int .i64 q) (by rw [hW2]; simp)
      have m2 := Later.of (W := W2) (b := x.w'.heap.size) (o := 2) (v := .int .i64 r) (by rw [hW2]; simp)
      have m3 := Later.of (W := W2) (b := x.w'.heap.size) (o := 3) (v := .int .i64 t) (by rw [hW2]; simp)
      have g0 := Later.up f0 hbW hbs
      have g1 := Later.up f1 hbW hbs
      try have n0 := Later.up e0 hbW hbs
      try have n1 := Later.up e1 hbW hbs
      clear hW2
      refine wp_region_later (Below.refl W2.heap.size W2) (by kernel_rfl) (by kernel_rfl) ?_
      repeat (go_big_quiet_step ((go_at_call 36; exact later_call (Nat.le_refl _) (C1.out _))))
      refine wpQuiet_nil ?_
      rintro _ ⟨y, rfl⟩
      have hy := (hbW.trans (y.ok.mono hbs))
      go_wp2
      go_ret
      exact ⟨ret_bool (by rw [segsOkB_no]; exact fun h => H1.out (h.1 i hlt _ HG.out).1), hy⟩
    rw [decide_eq_true h1] at c1
    have C1 := Lib.hid c1
    have H1 := Lib.hid h1
    clear c1 h1
    have c2 := imPosOk_any r t
    by_cases h2 : PosOk (r, t)
    rotate_left
    · rw [decide_eq_false h2] at c2
      have C2 := Lib.hid c2
      have H2 := Lib.hid h2
      clear c2 h2
      go_wp2
      obtain ⟨W2, hW2⟩ : ∃ w2, w2 = x.w'.alloc (.cells #[.int .i64 p, .int .i64 q, .int .i64 r, .int .i64 t] 35) := ⟨_, rfl⟩
      rw [← hW2]
      have hbW : Below W.heap.size W W2 := by rw [hW2]; exact hbl.alloc hbl.size _
      have hbs : W.heap.size ≤ W2.heap.size := hbW.size
      have m0 := Later.of (W := W2) (b := x.w'.heap.size) (o := 0) (v := .int .i64 p) (by rw [hW2]; simp)
      have m1 := Later.of (W := W2) (b := x.w'.heap.size) (o := 1) (v := .int .i64 q) (by rw [hW2]; simp)
      have m2 := Later.of (W := W2) (b := x.w'.heap.size) (o := 2) (v := .int .i64 r) (by rw [hW2]; simp)
      have m3 := Later.of (W := W2) (b := x.w'.heap.size) (o := 3) (v := .int .i64 t) (by rw [hW2]; simp)
      have g0 := Later.up f0 hbW hbs
      have g1 := Later.up f1 hbW hbs
      try have n0 := Later.up e0 hbW hbs
      try have n1 := Later.up e1 hbW hbs
      clear hW2
      refine wp_region_later (Below.refl W2.heap.size W2) (by kernel_rfl) (by kernel_rfl) ?_
      repeat (go_big_quiet_step ((go_at_call 36; first | with_reducible exact later_call (Nat.le_refl _) (C1.out _) | with_reducible exact later_call (Nat.le_refl _) (C2.out _))))
      refine wpQuiet_nil ?_
      rintro _ ⟨y, rfl⟩
      have hy := (hbW.trans (y.ok.mono hbs))
      go_wp2
      go_ret
      exact ⟨ret_bool (by rw [segsOkB_no]; exact fun h => H2.out (h.1 i hlt _ HG.out).2.1), hy⟩
    rw [decide_eq_true h2] at c2
    have C2 := Lib.hid c2
    have H2 := Lib.hid h2
    clear c2 h2
    by_cases hi0 : i = 0
    · have hi1 : i < 1 := by omega
      have d1 : decide ((0 : Int) < (i : Int)) = false := by first | (simp; done) | (simp; omega)
      have d2 : decide (0 < i) = false := by first | (simp; done) | (simp; omega)
      clear hi0
      go_wp2
      obtain ⟨W2, hW2⟩ : ∃ w2, w2 = x.w'.alloc (.cells #[.int .i64 p, .int .i64 q, .int .i64 r, .int .i64 t] 35) := ⟨_, rfl⟩
      rw [← hW2]
      have hbW : Below W.heap.size W W2 := by rw [hW2]; exact hbl.alloc hbl.size _
      have hbs : W.heap.size ≤ W2.heap.size := hbW.size
      have m0 := Later.of (W := W2) (b := x.w'.heap.size) (o := 0) (v := .int .i64 p) (by rw [hW2]; simp)
      have m1 := Later.of (W := W2) (b := x.w'.heap.size) (o := 1) (v := .int .i64 q) (by rw [hW2]; simp)
      have m2 := Later.of (W := W2) (b := x.w'.heap.size) (o := 2) (v := .int .i64 r) (by rw [hW2]; simp)
      have m3 := Later.of (W := W2) (b := x.w'.heap.size) (o := 3) (v := .int .i64 t) (by rw [hW2]; simp)
      have g0 := Later.up f0 hbW hbs
      have g1 := Later.up f1 hbW hbs
      try have n0 := Later.up e0 hbW hbs
      try have n1 := Later.up e1 hbW hbs
      clear hW2
      refine wp_region_later (Below.refl W2.heap.size W2) (by kernel_rfl) (by kernel_rfl) ?_
      repeat (go_big_quiet_step ((go_at_call 36; first | with_reducible exact later_call (Nat.le_refl _) (C1.out _) | with_reducible exact later_call (Nat.le_refl _) (C2.out _))))
      refine wpQuiet_nil ?_
      rintro _ ⟨y, rfl⟩
      have hy := (hbW.trans (y.ok.mono hbs))
      go_wp2
      go_roundg (l.length - (i + 1))
      case measure => have := HK.out; omega
      case rel => exact ⟨i + 1, rfl, by omega, by go_num, goodAt_first hi1 HG.out H1.out H2.out, hy⟩
    obtain ⟨k, rfl⟩ : ∃ k, i = k + 1 := ⟨i - 1, by omega⟩
    obtain ⟨b2, o2, p2, q2, r2, t2, hA2, hb2, hg2, e0, e1, e2, e3⟩ := sg_at hv (i := k) (by omega)
    cases hA2
    have HG2 := Lib.hid hg2
    clear hg2 hi0
    have d1 : decide ((0 : Int) < (k : Int) + 1) = true := by first | (simp; done) | (simp; omega)
    have c3 := imPosLess_any p2 q2 p q
    by_cases h3 : Less (p2, q2) (p, q)
    all_goals
      rw [show decide (Less (p2, q2) (p, q)) = _ by first | exact decide_eq_true h3 | exact decide_eq_false h3] at c3
      have C3 := Lib.hid c3
      have H3 := Lib.hid h3
      clear c3 h3
      go_wp2
      obtain ⟨W2, hW2⟩ : ∃ w2, w2 = x.w'.alloc (.cells #[.int .i64 p, .int .i64 q, .int .i64 r, .int .i64 t] 35) := ⟨_, rfl⟩
      rw [← hW2]
      have hbW : Below W.heap.size W W2 := by rw [hW2]; exact hbl.alloc hbl.size _
      have hbs : W.heap.size ≤ W2.heap.size := hbW.size
      have m0 := Later.of (W := W2) (b := x.w'.heap.size) (o := 0) (v := .int .i64 p) (by rw [hW2]; simp)
      have m1 := Later.of (W := W2) (b := x.w'.heap.size) (o := 1) (v := .int .i64 q) (by rw [hW2]; simp)
      have m2 := Later.of (W := W2) (b := x.w'.heap.size) (o := 2) (v := .int .i64 r) (by rw [hW2]; simp)
      have m3 := Later.of (W := W2) (b := x.w'.heap.size) (o := 3) (v := .int .i64 t) (by rw [hW2]; simp)
      have g0 := Later.up f0 hbW hbs
      have g1 := Later.up f1 hbW hbs
      try have n0 := Later.up e0 hbW hbs
      try have n1 := Later.up e1 hbW hbs
      clear hW2
      refine wp_region_later (Below.refl W2.heap.size W2) (by kernel_rfl) (by kernel_rfl) ?_
      repeat (go_big_quiet_step ((first | (go_at_call 36; first | with_reducible exact later_call (Nat.le_refl _) (C1.out _) | with_reducible exact later_call (Nat.le_refl _) (C2.out _)) | (go_at_call 37; exact later_call (Nat.le_refl _) (C3.out _)))))
      refine wpQuiet_nil ?_
      rintro _ ⟨y, rfl⟩
      have hy := (hbW.trans (y.ok.mono hbs))
      go_wp2
    · go_roundg (l.length - (k + 1 + 1))
      case measure => have := HK.out; omega
      case rel => exact ⟨k + 1 + 1, rfl, by omega, by go_num, goodAt_succ HK.out.2 HG.out HG2.out H1.out H2.out H3.out, hy⟩
    · go_ret
      exact ⟨ret_bool (by rw [segsOkB_no]; exact fun h => H3.out ((h.1 (k + 1) hlt _ HG.out).2.2 _ (by omega) HG2.out)), hy⟩
end Go.Proofs.Ytlmjaoignmgakaa
