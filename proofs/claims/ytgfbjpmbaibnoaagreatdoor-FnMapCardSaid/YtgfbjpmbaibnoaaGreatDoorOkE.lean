
/- What is ok, and what is the same: the program's and the reference's tests on trees. -/
import Derived.Test.YtgfbjpmbaibnoaaGreatDoorImOk
import Derived.Test.YtgfbjpmbaibnoaaGreatDoorSpE
import Derived.Test.YtgfbjpmbaibnoaaGreatDoorBas
namespace Go.Proofs.YtgfbjpmbaibnoaaGreatDoor
set_option maxRecDepth 100000
set_option linter.unusedSimpArgs false
set_option linter.unusedVariables false
open Go.RowKit
attribute [local go_sem] bs_toList bs_get bs_size

theorem imOk_any (e : Ex) (v : Value) (w : World) (hv : ExV w w.heap.size v e) (hE : Env w) : Calls Tryz.prog 88 #[v] w fun r w' => r = .returned (.bool (exOkB e)) ∧ Below w.heap.size w w' := by
  obtain ⟨k, m, s, A, c, l, rfl, rfl, hs, hc, hm, hk⟩ := hv.form
  have hB2 : Below w.heap.size w ((w.alloc (.cells #[.int .i64 k, .int .i64 m, .string (bs s), .slice A l.length c] 25)).alloc (.cells #[.int .i64 0] 3)) := by (repeat (first | with_reducible assumption | with_reducible exact Below.refl _ _ | with_reducible refine Below.setCell ?_ (by first | omega | (simp; done) | (simp; omega)) _ | with_reducible refine Below.alloc ?_ (by first | omega | (simp; done) | (simp; omega)) _ | with_reducible refine below_drewN ?_ _ | with_reducible refine Below.drew ?_))
  have hcall := walk_any 5 (Nat.le_refl _) (.mk k m s l) _ _ (w.heap.size + 1) 0 w.heap.size (hv.keep hB2 (Nat.le_refl _)) (by omega) (by have := Blk.new (w.alloc (.cells #[.int .i64 k, .int .i64 m, .string (bs s), .slice A l.length c] 25)) 3 #[.int .i64 0]; simpa using this) (by omega) ((hE.envB).keep hB2)
  rw [show (6 : Int) - ((5 : Nat) : Int) = 1 from rfl] at hcall
  have HC := Lib.hid hcall
  clear hcall
  go_enter Tryz.func88, Tryz.ntmps88
  go_wp2_with fail
  refine HC.out.mono ?_
  rintro _ w1 ⟨b, rfl, n', hg, hB, h1, h2⟩
  have hr : b = exOkB (.mk k m s l) := by
    unfold exOkB
    cases b
    · have := h2 rfl
      symm
      rw [Bool.and_eq_false_iff]
      by_cases h : formB 5 (Ex.mk k m s l) = true
      · right; simp only [decide_eq_false_iff_not]; intro hh; exact this ⟨h, by omega⟩
      · left; simpa using h
    · have := h1 rfl
      rw [this.1]
      symm
      simp only [Bool.true_and, decide_eq_true_eq]
      omega
  have HR := Lib.hid (And.intro hr (And.intro hg hB2))
  clear hr h1 h2 hg hB2
  go_wp2_with fail
  go_ret
  refine ⟨ret_bool HR.out.1, ?_⟩
  have hg := HR.out.2.1
  refine HR.out.2.2.trans ⟨hg.os, hg.tape, hg.output, hg.size, fun k hk => hg.block k (by simp; omega) (fun e => by have := Option.some.inj e; omega)⟩

/-! ### how many parts -/
theorem spMany_any : ∀ (d : Nat) (e : Ex) (v : Value) (w : World), ExV w w.heap.size v e → formB d e = true → d ≤ 10 → ∀ D : Nat, D = d → Calls Tryz.prog 150 #[v, .int .i64 (D : Int)] w fun r w' => r = .returned (.int .i64 (manyN d e : Nat)) ∧ Below w.heap.size w w' := by
  intro d
  induction d with
  | zero => intro e v w _ h; simp [formB] at h
  | succ d ih =>
    rintro e v w hv hf hd D rfl
    obtain ⟨k, n, s, A, c, l, rfl, rfl, hs, hc, hm, hk⟩ := hv.form
    simp only [formB, Bool.and_eq_true, List.all_eq_true] at hf
    have hl2 := headB_len hf.1
    have hmn : manyN (d + 1) (.mk k n s l) = 1 + (l.map (manyN d)).sum := rfl
    have hms := manyS_all d l
    have HF := Lib.hid (And.intro hf.2 (And.intro hmn hms))
    have IH : Hid (∀ (e : Ex) (v : Value) (w : World), ExV w w.heap.size v e → formB d e = true → Calls Tryz.prog 150 #[v, .int .i64 (d : Int)] w fun r w' => r = .returned (.int .i64 (manyN d e : Nat)) ∧ Below w.heap.size w w') := fun e v w h1 h2 => ih e v w h1 h2 (by omega) d rfl
    have d0 : decide ((0 : Int) < (d : Int) + 1) = true := by first | (simp; done) | (simp; omega)
    clear ih hf hmn hms
    go_enter Tryz.func150, Tryz.ntmps150
    go_wp2_with fail
    go_loopg [5, 6] l.length (fun k' a i wr => ∃ (j : Nat) (cur : Array Value), k' = l.length - j ∧ j ≤ l.length ∧ i = .int .i64 j ∧ a = .int .i64 ((1 + manyS d l j : Nat) : Int) ∧ manyS d l j ≤ j * 1000 ∧ Blk wr w.heap.size 25 cur ∧ cur[3]? = some (.slice A l.length c) ∧ Below w.heap.size w wr)
    case atStart => exact ⟨0, _, by omega, by omega, rfl, by simp [manyS_zero], by simp [manyS_zero], Blk.new _ _ _, rfl, by (repeat (first | with_reducible assumption | with_reducible exact Below.refl _ _ | with_reducible refine Below.setCell ?_ (by first | omega | (simp; done) | (simp; omega)) _ | with_reducible refine Below.alloc ?_ (by first | omega | (simp; done) | (simp; omega)) _ | with_reducible refine below_drewN ?_ _ | with_reducible refine Below.drew ?_))⟩
    case round =>
      obtain ⟨j, cur, hk2, hj, rfl, rfl, hml, hB, hcur, hbl⟩ := hrel
      have HK := Lib.hid hk2
      clear hk2
      have y3 := (hB.cell 3).trans hcur
      have hz := hbl.size
      by_cases hlt : j < l.length
      · obtain ⟨b, o, p, q, s', A', c', m, rfl, hb, hg, hs', hm', hc', hk', f0, f1, f2, f3⟩ := ex_at hk hlt
        have g0 := f0 ⟨wr, hbl⟩; have g1 := f1 ⟨wr, hbl⟩; have g2 := f2 ⟨wr, hbl⟩; have g3 := f3 ⟨wr, hbl⟩
        have hfm := HF.out.1 _ (List.mem_of_getElem? hg)
        have hle := manyN_le d _ hfm
        have h1024 : 2 ^ d ≤ 2 ^ 9 := Nat.pow_le_pow_right (by omega) (by omega)
        have hle2 : manyN d (.mk p q s' m) ≤ 1000 := by
          have : (2 : Nat) ^ 9 = 512 := rfl
          omega
        clear hle h1024
        have HG := Lib.hid (And.intro hg (And.intro hfm (manyS_succ (d := d) hg)))
        clear f0 f1 f2 f3 hg hfm
        have hcall := IH.out (.mk p q s' m) _ wr ⟨_, rfl, by rw [bs_size] at hs'; exact hs', (hk'.keep hbl (Nat.le_refl _)).more hz⟩ HG.out.2.1
        have HC := Lib.hid hcall
        clear hcall
        generalize hmm : manyN d (.mk p q s' m) = mm at *
        have HMM := Lib.hid hmm
        clear hmm
        go_wp2_with fail
        refine HC.out.mono ?_
        rintro e w1 ⟨rfl, hb1⟩
        have hB1 := hB.below hb1 hB.lt
        go_wp2_with fail
        go_roundg (l.length - (j + 1))
        case measure => have := HK.out; omega
        case rel => exact ⟨j + 1, cur, rfl, by omega, by go_num, by rw [HG.out.2.2]; congr 1; omega, by rw [HG.out.2.2]; omega, hB1, hcur, by (repeat (first | with_reducible assumption | with_reducible exact Below.refl _ _ | with_reducible refine Below.setCell ?_ (by first | omega | (simp; done) | (simp; omega)) _ | with_reducible refine Below.alloc ?_ (by first | omega | (simp; done) | (simp; omega)) _ | with_reducible refine below_drewN ?_ _ | with_reducible refine Below.drew ?_ | with_reducible refine Below.trans ?_ (Below.mono hb1 (by first | omega | (simp; done) | (simp; omega))) | with_reducible refine Below.trans ?_ (Below.mono hbl (by first | omega | (simp; done) | (simp; omega)))))⟩
      · obtain rfl : j = l.length := by omega
        go_wp2_with fail
        go_ret
        exact ⟨ret_int (by rw [HF.out.2.1, ← HF.out.2.2]), hbl⟩
theorem spOk_any (e : Ex) (v : Value) (w : World) (hv : ExV w w.heap.size v e) : Calls Tryz.prog 77 #[v] w fun r w' => r = .returned (.bool (exOkB e)) ∧ Below w.heap.size w w' := by
  obtain ⟨k, m, s, A, c, l, rfl, rfl, hs, hc, hm, hk⟩ := hv.form
  have hB1 : Below w.heap.size w (w.alloc (.cells #[.int .i64 k, .int .i64 m, .string (bs s), .slice A l.length c] 25)) := by (repeat (first | with_reducible assumption | with_reducible exact Below.refl _ _ | with_reducible refine Below.setCell ?_ (by first | omega | (simp; done) | (simp; omega)) _ | with_reducible refine Below.alloc ?_ (by first | omega | (simp; done) | (simp; omega)) _ | with_reducible refine below_drewN ?_ _ | with_reducible refine Below.drew ?_))
  have hcall := spForm_any 5 (.mk k m s l) _ _ (hv.ext hB1) (by omega)
  rw [show (((5 : Nat)) : Int) = 5 from rfl] at hcall
  have H1 := Lib.hid (And.intro hv hB1)
  by_cases hf : formB 5 (.mk k m s l) = true
  · rw [hf] at hcall
    have HC := Lib.hid hcall
    have HF := Lib.hid hf
    clear hcall hf hv hB1
    go_enter Tryz.func77, Tryz.ntmps77
    go_wp2_with fail
    refine HC.out.mono ?_
    rintro e w1 ⟨rfl, hb1⟩
    have hz1 := hb1.size
    (try simp at hz1)
    have k1_0 := fun o => hb1.cell (p := ⟨w.heap.size, o, none⟩) (by first | omega | (simp; done) | (simp; omega)); have k1f_0 := fun o => hb1.frozen (p := ⟨w.heap.size, o, none⟩) (by first | omega | (simp; done) | (simp; omega))
    have hc2 := spMany_any 5 (.mk k m s l) _ w1 (H1.out.1.ext (H1.out.2.ext hb1)) HF.out (by omega) 5 rfl
    rw [show (((5 : Nat)) : Int) = 5 from rfl] at hc2
    have HC2 := Lib.hid hc2
    have hr : exOkB (.mk k m s l) = decide (manyN 5 (.mk k m s l) ≤ 12) := by unfold exOkB; rw [HF.out, Bool.true_and]
    have HR := Lib.hid hr
    clear hc2 hr
    generalize manyN 5 (.mk k m s l) = mm at *
    go_wp2_with fail
    refine HC2.out.mono ?_
    rintro e w2 ⟨rfl, hb2⟩
    go_wp2_with fail
    go_ret
    refine ⟨ret_bool ?_, by (repeat (first | with_reducible assumption | with_reducible exact Below.refl _ _ | with_reducible refine Below.setCell ?_ (by first | omega | (simp; done) | (simp; omega)) _ | with_reducible refine Below.alloc ?_ (by first | omega | (simp; done) | (simp; omega)) _ | with_reducible refine below_drewN ?_ _ | with_reducible refine Below.drew ?_ | with_reducible refine Below.trans ?_ (Below.mono hb2 (by first | omega | (simp; done) | (simp; omega))) | with_reducible refine Below.trans ?_ (Below.mono hb1 (by first | omega | (simp; done) | (simp; omega)))))⟩
    rw [HR.out, Bool.eq_iff_iff]
    simp
    omega
  · have hf2 : formB 5 (.mk k m s l) = false := by simpa using hf
    rw [hf2] at hcall
    have HC := Lib.hid hcall
    have HF := Lib.hid hf2
    clear hcall hf hf2 hv hB1
    go_enter Tryz.func77, Tryz.ntmps77
    go_wp2_with fail
    refine HC.out.mono ?_
    rintro e w1 ⟨rfl, hb1⟩
    go_wp2_with fail
    go_ret
    exact ⟨ret_bool (by unfold exOkB; rw [HF.out]; rfl), by (repeat (first | with_reducible assumption | with_reducible exact Below.refl _ _ | with_reducible refine Below.setCell ?_ (by first | omega | (simp; done) | (simp; omega)) _ | with_reducible refine Below.alloc ?_ (by first | omega | (simp; done) | (simp; omega)) _ | with_reducible refine below_drewN ?_ _ | with_reducible refine Below.drew ?_ | with_reducible refine Below.trans ?_ (Below.mono hb1 (by first | omega | (simp; done) | (simp; omega)))))⟩
end Go.Proofs.YtgfbjpmbaibnoaaGreatDoor
