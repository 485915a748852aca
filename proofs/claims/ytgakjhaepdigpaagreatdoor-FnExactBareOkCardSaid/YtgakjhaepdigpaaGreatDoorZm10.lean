/- The reference's tests on words and trees, as plain functions. -/
import Derived.Test.YtgakjhaepdigpaaGreatDoorRows
import Derived.Test.YtgakjhaepdigpaaGreatDoorBas
import Derived.Deep.Light
import Derived.Test.YtgakjhaepdigpaaGreatDoorImOk
namespace Go.Proofs.YtgakjhaepdigpaaGreatDoor
set_option maxRecDepth 100000
set_option linter.unusedSimpArgs false
set_option linter.unusedVariables false
open Go.RowKit
attribute [local go_sem] bs_toList bs_get bs_size

theorem spType_any (s : Bytes) (w : World) : Calls Tryz.prog 70 #[.string (bs s)] w fun e w' => e = .returned (.bool (typeB s)) ∧ w = w' := by
  go_enter Tryz.func70, Tryz.ntmps70
  go_wp2_with fail
  all_goals (try (go_ret; refine ⟨ret_bool ?_, rfl⟩; go_light; first | (simp_all [typeB, cInt, cBool]; done) | (simp_all [typeB, cInt, cBool]; omega) | (rw [Bool.eq_iff_iff]; simp [typeB, cInt, cBool]; omega)))
theorem spOp_any (s : Bytes) (w : World) : Calls Tryz.prog 161 #[.string (bs s)] w fun e w' => e = .returned (.bool (opB s)) ∧ w = w' := by
  go_enter Tryz.func161, Tryz.ntmps161
  go_wp2_with fail
  all_goals (try (go_ret; refine ⟨ret_bool ?_, rfl⟩; go_light; first | (simp_all [opB]; done) | (simp_all [opB]; omega) | (rw [Bool.eq_iff_iff]; simp [opB]; omega)))
theorem spHeld_any (s : Bytes) (w : World) : Calls Tryz.prog 125 #[.string (bs s)] w fun e w' => e = .returned (.bool (heldB s)) ∧ w = w' := by
  go_enter Tryz.func125, Tryz.ntmps125
  go_wp2_with (go_at_call 70; refine (spType_any _ _).mono ?_; rintro e w' ⟨rfl, rfl⟩)
  all_goals (try (go_ret; refine ⟨ret_bool ?_, rfl⟩; go_light; first | (simp_all [heldB, cLet, cSay, cWhen, cAs, cPrint, cIf]; done) | (simp_all [heldB, cLet, cSay, cWhen, cAs, cPrint, cIf]; omega) | (rw [Bool.eq_iff_iff]; simp [heldB, cLet, cSay, cWhen, cAs, cPrint, cIf]; omega)))
theorem wordB_of {s : Bytes} (h : ∀ t c, t < s.length → s[t]? = some c → isLet c = true) : wordB s = (decide (1 ≤ s.length) && decide (s.length ≤ 8)) := by
  have ha : s.all isLet = true := by
    rw [List.all_eq_true]
    intro c hc
    obtain ⟨i, hi⟩ := List.mem_iff_getElem?.1 hc
    exact h i c (List.getElem?_eq_some_iff.1 hi).1 hi
  unfold wordB
  rw [ha, Bool.true_and]
theorem wordB_not {s : Bytes} {j : Nat} (hj : j < s.length) (h : isLet s[j] = false) : wordB s = false := by
  unfold wordB
  have : s.all isLet = false := by
    rw [List.all_eq_false]
    exact ⟨s[j], List.getElem_mem hj, by simp [h]⟩
  rw [this]
  rfl
theorem spWord_any (s : Bytes) (w : World) (hs : s.length ≤ 9223372036854775807) : Calls Tryz.prog 124 #[.string (bs s)] w fun e w' => e = .returned (.bool (wordB s)) ∧ w = w' := by
  go_enter Tryz.func124, Tryz.ntmps124
  go_wp2_with fail
  go_loopg [3] s.length (fun k i wr => ∃ j : Nat, k = s.length - j ∧ j ≤ s.length ∧ i = .int .i64 j ∧ (∀ t c, t < j → s[t]? = some c → isLet c = true) ∧ wr = w)
  case atStart => exact ⟨0, by omega, by omega, rfl, fun t c h => by omega, rfl⟩
  case round =>
    obtain ⟨j, hk, hj, rfl, ha, rfl⟩ := hrel
    have HK := Lib.hid (And.intro hk ha)
    clear hk ha
    by_cases hlt : j < s.length
    · have hi : isLet s[j] = (decide (97 ≤ s[j].toNat) && decide (s[j].toNat ≤ 122)) := rfl
      have HI := Lib.hid hi
      clear hi
      go_wp2_with fail
      all_goals first
        | (go_ret
           exact ⟨ret_bool (wordB_not hlt (by rw [HI.out]; simp; omega)).symm, rfl⟩)
        | (go_roundg (s.length - (j + 1))
           case measure => have := HK.out.1; omega
           case rel => exact ⟨j + 1, rfl, by omega, by go_num, fun t c ht hc => by
            by_cases e : t = j
            · subst e
              rw [List.getElem?_eq_getElem hlt] at hc
              obtain rfl := Option.some.inj hc
              rw [HI.out]
              simp
              omega
            · exact HK.out.2 t c (by omega) hc, rfl⟩)
    · have hj2 : j = s.length := by omega
      have HJ := Lib.hid hj2
      clear hj2
      go_wp2_with fail
      all_goals
        go_ret
        refine ⟨ret_bool ?_, rfl⟩
        rw [wordB_of (fun t c ht => HK.out.2 t c (by have := HJ.out; omega))]
        go_light
        rw [Bool.eq_iff_iff]
        simp
        omega
theorem spName_any (s : Bytes) (w : World) (hs : s.length ≤ 9223372036854775807) : Calls Tryz.prog 69 #[.string (bs s)] w fun e w' => e = .returned (.bool (nameB s)) ∧ w = w' := by
  go_enter Tryz.func69, Tryz.ntmps69
  go_wp2_with (first | (go_at_call 125; refine (spHeld_any _ _).mono ?_; rintro e w' ⟨rfl, rfl⟩) | (go_at_call 124; refine (spWord_any _ _ hs).mono ?_; rintro e w' ⟨rfl, rfl⟩))
  all_goals (try (go_ret; refine ⟨ret_bool ?_, rfl⟩; go_light; first | (simp_all [nameB]; done) | (simp_all [nameB]; omega) | (rw [Bool.eq_iff_iff]; simp [nameB]; omega)))
set_option maxHeartbeats 4000000 in
theorem spForm_any : ∀ (d : Nat) (e : Ex) (v : Value) (w : World), ExV w w.heap.size v e → d ≤ 100 → Calls Tryz.prog 126 #[v, .int .i64 (d : Int)] w fun r w' => r = .returned (.bool (formB d e)) ∧ Below w.heap.size w w' := by
  intro d
  induction d with
  | zero =>
    intro e v w h _
    obtain ⟨k, n, s, A, c, l, rfl, rfl, hs, hc, hm, hk⟩ := h.form
    go_enter Tryz.func126, Tryz.ntmps126
    go_wp2_with fail
    go_ret
    exact ⟨ret_bool (by simp [formB]), by (repeat (first | with_reducible assumption | with_reducible exact Below.refl _ _ | with_reducible refine Below.setCell ?_ (by first | omega | (simp; done) | (simp; omega)) _ | with_reducible refine Below.alloc ?_ (by first | omega | (simp; done) | (simp; omega)) _ | with_reducible refine below_drewN ?_ _ | with_reducible refine Below.drew ?_))⟩
  | succ d ih =>
    intro e v w h hd
    obtain ⟨k, n, s, A, c, l, rfl, rfl, hs, hc, hm, hk⟩ := h.form
    rw [bs_size] at hs
    have d0 : decide ((d : Int) + 1 < 1) = false := by simp; omega
    have IH := Lib.hid ih
    clear ih
    obtain ⟨b0, hb0⟩ : ∃ x, ((l.length : Int) != 0) = x := ⟨_, rfl⟩
    obtain ⟨b1, hb1⟩ : ∃ x, ((l.length : Int) != 1) = x := ⟨_, rfl⟩
    obtain ⟨b2, hb2⟩ : ∃ x, ((l.length : Int) != 2) = x := ⟨_, rfl⟩
    cases b0 <;> cases b1 <;> cases b2
    all_goals (try (exfalso; simp at hb0 hb1 hb2; omega))
    all_goals
      go_enter Tryz.func126, Tryz.ntmps126
      go_wp2_with (first | (go_at_call 69; refine (spName_any _ _ hs).mono ?_; rintro e w' ⟨rfl, rfl⟩) | (go_at_call 161; refine (spOp_any _ _).mono ?_; rintro e w' ⟨rfl, rfl⟩) | (go_at_call 70; refine (spType_any _ _).mono ?_; rintro e w' ⟨rfl, rfl⟩))
    all_goals (try (go_ret; refine ⟨ret_bool ?_, by (repeat (first | with_reducible assumption | with_reducible exact Below.refl _ _ | with_reducible refine Below.setCell ?_ (by first | omega | (simp; done) | (simp; omega)) _ | with_reducible refine Below.alloc ?_ (by first | omega | (simp; done) | (simp; omega)) _ | with_reducible refine below_drewN ?_ _ | with_reducible refine Below.drew ?_))⟩; go_light; first | (simp_all [formB, headB]; done) | (simp_all [formB, headB]; omega) | (rw [Bool.eq_iff_iff]; simp [formB, headB]; omega)))
    all_goals
      have hh : headB k n s l.length = true := by go_light; first | (simp_all [headB]; done) | (simp_all [headB]; omega)
      have HH := Lib.hid hh
      clear hh
      go_loopg [7] l.length (fun k' i wr => ∃ (j : Nat) (cur : Array Value), k' = l.length - j ∧ j ≤ l.length ∧ i = .int .i64 j ∧ (∀ t x, t < j → l[t]? = some x → formB d x = true) ∧ Blk wr w.heap.size 24 cur ∧ cur[3]? = some (.slice A l.length c) ∧ Below w.heap.size w wr)
      case atStart => exact ⟨0, _, by omega, by omega, rfl, fun t x h => by omega, Blk.new _ _ _, rfl, by (repeat (first | with_reducible assumption | with_reducible exact Below.refl _ _ | with_reducible refine Below.setCell ?_ (by first | omega | (simp; done) | (simp; omega)) _ | with_reducible refine Below.alloc ?_ (by first | omega | (simp; done) | (simp; omega)) _ | with_reducible refine below_drewN ?_ _ | with_reducible refine Below.drew ?_))⟩
      case round =>
        obtain ⟨j, cur, hk2, hj, rfl, ha, hB, hcur, hbl⟩ := hrel
        have HK := Lib.hid (And.intro hk2 ha)
        clear hk2 ha
        have y3 := (hB.cell 3).trans hcur
        have hz := hbl.size
        by_cases hlt : j < l.length
        · have hd1 : ∀ K : Int, ((l.length : Int) != K) = false → decide ((j : Int) < K) = true := fun K h => by simp at h; simp; omega
          first | have d1 := hd1 2 ‹_› | have d1 := hd1 1 ‹_› | have d1 := hd1 0 ‹_›
          clear hd1
          obtain ⟨b, o, p, q, s', A', c', m, rfl, hb, hg, hs', hm', hc', hk', f0, f1, f2, f3⟩ := ex_at hk hlt
          have g0 := f0 ⟨wr, hbl⟩; have g1 := f1 ⟨wr, hbl⟩; have g2 := f2 ⟨wr, hbl⟩; have g3 := f3 ⟨wr, hbl⟩
          have HG := Lib.hid hg
          clear f0 f1 f2 f3 hg
          go_wp2_with fail
          refine (IH.out (.mk p q s' m) _ wr ⟨_, rfl, by rw [bs_size] at hs'; exact hs', (hk'.keep hbl (Nat.le_refl _)).more hz⟩ (by omega)).mono ?_
          rintro e w1 ⟨rfl, hb1⟩
          have hB1 := hB.below hb1 hB.lt
          by_cases hf : formB d (.mk p q s' m) = true
          · rw [hf]
            have HF := Lib.hid hf
            clear hf
            go_wp2_with fail
            go_roundg (l.length - (j + 1))
            case measure => have := HK.out.1; omega
            case rel => exact ⟨j + 1, cur, rfl, by omega, by go_num, fun t x ht hx => by
              by_cases e : t = j
              · subst e
                rw [HG.out] at hx
                obtain rfl := Option.some.inj hx
                exact HF.out
              · exact HK.out.2 t x (by omega) hx, hB1, hcur, by (repeat (first | with_reducible assumption | with_reducible exact Below.refl _ _ | with_reducible refine Below.setCell ?_ (by first | omega | (simp; done) | (simp; omega)) _ | with_reducible refine Below.alloc ?_ (by first | omega | (simp; done) | (simp; omega)) _ | with_reducible refine below_drewN ?_ _ | with_reducible refine Below.drew ?_ | with_reducible refine Below.trans ?_ (Below.mono hb1 (by first | omega | (simp; done) | (simp; omega))) | with_reducible refine Below.trans ?_ (Below.mono hbl (by first | omega | (simp; done) | (simp; omega)))))⟩
          · have hf2 : formB d (.mk p q s' m) = false := by simpa using hf
            rw [hf2]
            have HF := Lib.hid hf2
            clear hf hf2
            go_wp2_with fail
            go_ret
            refine ⟨ret_bool (Eq.symm ?_), by (repeat (first | with_reducible assumption | with_reducible exact Below.refl _ _ | with_reducible refine Below.setCell ?_ (by first | omega | (simp; done) | (simp; omega)) _ | with_reducible refine Below.alloc ?_ (by first | omega | (simp; done) | (simp; omega)) _ | with_reducible refine below_drewN ?_ _ | with_reducible refine Below.drew ?_ | with_reducible refine Below.trans ?_ (Below.mono hb1 (by first | omega | (simp; done) | (simp; omega))) | with_reducible refine Below.trans ?_ (Below.mono hbl (by first | omega | (simp; done) | (simp; omega)))))⟩
            simp only [formB, HH.out, Bool.true_and, List.all_eq_false]
            exact ⟨_, List.mem_of_getElem? HG.out, by rw [HF.out]; decide⟩
        · have hd1 : ∀ K : Int, ((l.length : Int) != K) = false → decide ((j : Int) < K) = false := fun K h => by simp at h; simp; omega
          first | have d1 := hd1 2 ‹_› | have d1 := hd1 1 ‹_› | have d1 := hd1 0 ‹_›
          clear hd1
          go_wp2_with fail
          go_ret
          refine ⟨ret_bool (Eq.symm ?_), hbl⟩
          simp only [formB, HH.out, Bool.true_and, List.all_eq_true]
          intro x hx
          obtain ⟨t, ht⟩ := List.mem_iff_getElem?.1 hx
          exact HK.out.2 t x (by have := (List.getElem?_eq_some_iff.1 ht).1; omega) ht
end Go.Proofs.YtgakjhaepdigpaaGreatDoor


/- What is ok, and what is the same: the program's and the reference's tests on trees. -/
namespace Go.Proofs.YtgakjhaepdigpaaGreatDoor
set_option maxRecDepth 100000
set_option linter.unusedSimpArgs false
set_option linter.unusedVariables false
open Go.RowKit
attribute [local go_sem] bs_toList bs_get bs_size

theorem imOk_any (e : Ex) (v : Value) (w : World) (hv : ExV w w.heap.size v e) (hE : Env w) : Calls Tryz.prog 67 #[v] w fun r w' => r = .returned (.bool (exOkB e)) ∧ Below w.heap.size w w' := by
  obtain ⟨k, m, s, A, c, l, rfl, rfl, hs, hc, hm, hk⟩ := hv.form
  have hB2 : Below w.heap.size w ((w.alloc (.cells #[.int .i64 k, .int .i64 m, .string (bs s), .slice A l.length c] 24)).alloc (.cells #[.int .i64 0] 3)) := by (repeat (first | with_reducible assumption | with_reducible exact Below.refl _ _ | with_reducible refine Below.setCell ?_ (by first | omega | (simp; done) | (simp; omega)) _ | with_reducible refine Below.alloc ?_ (by first | omega | (simp; done) | (simp; omega)) _ | with_reducible refine below_drewN ?_ _ | with_reducible refine Below.drew ?_))
  have hcall := walk_any 5 (Nat.le_refl _) (.mk k m s l) _ _ (w.heap.size + 1) 0 w.heap.size (hv.keep hB2 (Nat.le_refl _)) (by omega) (by have := Blk.new (w.alloc (.cells #[.int .i64 k, .int .i64 m, .string (bs s), .slice A l.length c] 24)) 3 #[.int .i64 0]; simpa using this) (by omega) ((hE.envB).keep hB2)
  rw [show (6 : Int) - ((5 : Nat) : Int) = 1 from rfl] at hcall
  have HC := Lib.hid hcall
  clear hcall
  go_enter Tryz.func67, Tryz.ntmps67
  go_wp2_with fail
  refine HC.out.mono ?_
  rintro _ w1 ⟨b, rfl, n', hg, hB, h1, h2⟩
  have hr : b = exOkB (.mk k m s l) := by
    unfold exOkB
    cases b
    · have := h2 rfl
      symm
      rw [Bool.and_eq_false_iff]
      by_cases h : formB 5 (Ex.mk k m s l) = true
      · right; simp only [decide_eq_false_iff_not]; intro hh; exact this ⟨h, by omega⟩
      · left; simpa using h
    · have := h1 rfl
      rw [this.1]
      symm
      simp only [Bool.true_and, decide_eq_true_eq]
      omega
  have HR := Lib.hid (And.intro hr (And.intro hg hB2))
  clear hr h1 h2 hg hB2
  go_wp2_with fail
  go_ret
  refine ⟨ret_bool HR.out.1, ?_⟩
  have hg := HR.out.2.1
  refine HR.out.2.2.trans ⟨hg.os, hg.tape, hg.output, hg.size, fun k hk => hg.block k (by simp; omega) (fun e => by have := Option.some.inj e; omega)⟩

/-! ### how many parts -/
theorem spMany_any : ∀ (d : Nat) (e : Ex) (v : Value) (w : World), ExV w w.heap.size v e → formB d e = true → d ≤ 10 → ∀ D : Nat, D = d → Calls Tryz.prog 127 #[v, .int .i64 (D : Int)] w fun r w' => r = .returned (.int .i64 (manyN d e : Nat)) ∧ Below w.heap.size w w' := by
  intro d
  induction d with
  | zero => intro e v w _ h; simp [formB] at h
  | succ d ih =>
    rintro e v w hv hf hd D rfl
    obtain ⟨k, n, s, A, c, l, rfl, rfl, hs, hc, hm, hk⟩ := hv.form
    simp only [formB, Bool.and_eq_true, List.all_eq_true] at hf
    have hl2 := headB_len hf.1
    have hmn : manyN (d + 1) (.mk k n s l) = 1 + (l.map (manyN d)).sum := rfl
    have hms := manyS_all d l
    have HF := Lib.hid (And.intro hf.2 (And.intro hmn hms))
    have IH : Hid (∀ (e : Ex) (v : Value) (w : World), ExV w w.heap.size v e → formB d e = true → Calls Tryz.prog 127 #[v, .int .i64 (d : Int)] w fun r w' => r = .returned (.int .i64 (manyN d e : Nat)) ∧ Below w.heap.size w w') := fun e v w h1 h2 => ih e v w h1 h2 (by omega) d rfl
    have d0 : decide ((0 : Int) < (d : Int) + 1) = true := by first | (simp; done) | (simp; omega)
    clear ih hf hmn hms
    go_enter Tryz.func127, Tryz.ntmps127
    go_wp2_with fail
    go_loopg [5, 6] l.length (fun k' a i wr => ∃ (j : Nat) (cur : Array Value), k' = l.length - j ∧ j ≤ l.length ∧ i = .int .i64 j ∧ a = .int .i64 ((1 + manyS d l j : Nat) : Int) ∧ manyS d l j ≤ j * 1000 ∧ Blk wr w.heap.size 24 cur ∧ cur[3]? = some (.slice A l.length c) ∧ Below w.heap.size w wr)
    case atStart => exact ⟨0, _, by omega, by omega, rfl, by simp [manyS_zero], by simp [manyS_zero], Blk.new _ _ _, rfl, by (repeat (first | with_reducible assumption | with_reducible exact Below.refl _ _ | with_reducible refine Below.setCell ?_ (by first | omega | (simp; done) | (simp; omega)) _ | with_reducible refine Below.alloc ?_ (by first | omega | (simp; done) | (simp; omega)) _ | with_reducible refine below_drewN ?_ _ | with_reducible refine Below.drew ?_))⟩
    case round =>
      obtain ⟨j, cur, hk2, hj, rfl, rfl, hml, hB, hcur, hbl⟩ := hrel
      have HK := Lib.hid hk2
      clear hk2
      have y3 := (hB.cell 3).trans hcur
      have hz := hbl.size
      by_cases hlt : j < l.length
      · obtain ⟨b, o, p, q, s', A', c', m, rfl, hb, hg, hs', hm', hc', hk', f0, f1, f2, f3⟩ := ex_at hk hlt
        have g0 := f0 ⟨wr, hbl⟩; have g1 := f1 ⟨wr, hbl⟩; have g2 := f2 ⟨wr, hbl⟩; have g3 := f3 ⟨wr, hbl⟩
        have hfm := HF.out.1 _ (List.mem_of_getElem? hg)
        have hle := manyN_le d _ hfm
        have h1024 : 2 ^ d ≤ 2 ^ 9 := Nat.pow_le_pow_right (by omega) (by omega)
        have hle2 : manyN d (.mk p q s' m) ≤ 1000 := by
          have : (2 : Nat) ^ 9 = 512 := rfl
          omega
        clear hle h1024
        have HG := Lib.hid (And.intro hg (And.intro hfm (manyS_succ (d := d) hg)))
        clear f0 f1 f2 f3 hg hfm
        have hcall := IH.out (.mk p q s' m) _ wr ⟨_, rfl, by rw [bs_size] at hs'; exact hs', (hk'.keep hbl (Nat.le_refl _)).more hz⟩ HG.out.2.1
        have HC := Lib.hid hcall
        clear hcall
        generalize hmm : manyN d (.mk p q s' m) = mm at *
        have HMM := Lib.hid hmm
        clear hmm
        go_wp2_with fail
        refine HC.out.mono ?_
        rintro e w1 ⟨rfl, hb1⟩
        have hB1 := hB.below hb1 hB.lt
        go_wp2_with fail
        go_roundg (l.length - (j + 1))
        case measure => have := HK.out; omega
        case rel => exact ⟨j + 1, cur, rfl, by omega, by go_num, by rw [HG.out.2.2]; congr 1; omega, by rw [HG.out.2.2]; omega, hB1, hcur, by (repeat (first | with_reducible assumption | with_reducible exact Below.refl _ _ | with_reducible refine Below.setCell ?_ (by first | omega | (simp; done) | (simp; omega)) _ | with_reducible refine Below.alloc ?_ (by first | omega | (simp; done) | (simp; omega)) _ | with_reducible refine below_drewN ?_ _ | with_reducible refine Below.drew ?_ | with_reducible refine Below.trans ?_ (Below.mono hb1 (by first | omega | (simp; done) | (simp; omega))) | with_reducible refine Below.trans ?_ (Below.mono hbl (by first | omega | (simp; done) | (simp; omega)))))⟩
      · obtain rfl : j = l.length := by omega
        go_wp2_with fail
        go_ret
        exact ⟨ret_int (by rw [HF.out.2.1, ← HF.out.2.2]), hbl⟩
theorem spOk_any (e : Ex) (v : Value) (w : World) (hv : ExV w w.heap.size v e) : Calls Tryz.prog 71 #[v] w fun r w' => r = .returned (.bool (exOkB e)) ∧ Below w.heap.size w w' := by
  obtain ⟨k, m, s, A, c, l, rfl, rfl, hs, hc, hm, hk⟩ := hv.form
  have hB1 : Below w.heap.size w (w.alloc (.cells #[.int .i64 k, .int .i64 m, .string (bs s), .slice A l.length c] 24)) := by (repeat (first | with_reducible assumption | with_reducible exact Below.refl _ _ | with_reducible refine Below.setCell ?_ (by first | omega | (simp; done) | (simp; omega)) _ | with_reducible refine Below.alloc ?_ (by first | omega | (simp; done) | (simp; omega)) _ | with_reducible refine below_drewN ?_ _ | with_reducible refine Below.drew ?_))
  have hcall := spForm_any 5 (.mk k m s l) _ _ (hv.ext hB1) (by omega)
  rw [show (((5 : Nat)) : Int) = 5 from rfl] at hcall
  have H1 := Lib.hid (And.intro hv hB1)
  by_cases hf : formB 5 (.mk k m s l) = true
  · rw [hf] at hcall
    have HC := Lib.hid hcall
    have HF := Lib.hid hf
    clear hcall hf hv hB1
    go_enter Tryz.func71, Tryz.ntmps71
    go_wp2_with fail
    refine HC.out.mono ?_
    rintro e w1 ⟨rfl, hb1⟩
    have hz1 := hb1.size
    (try simp at hz1)
    have k1_0 := fun o => hb1.cell (p := ⟨w.heap.size, o, none⟩) (by first | omega | (simp; done) | (simp; omega)); have k1f_0 := fun o => hb1.frozen (p := ⟨w.heap.size, o, none⟩) (by first | omega | (simp; done) | (simp; omega))
    have hc2 := spMany_any 5 (.mk k m s l) _ w1 (H1.out.1.ext (H1.out.2.ext hb1)) HF.out (by omega) 5 rfl
    rw [show (((5 : Nat)) : Int) = 5 from rfl] at hc2
    have HC2 := Lib.hid hc2
    have hr : exOkB (.mk k m s l) = decide (manyN 5 (.mk k m s l) ≤ 12) := by unfold exOkB; rw [HF.out, Bool.true_and]
    have HR := Lib.hid hr
    clear hc2 hr
    generalize manyN 5 (.mk k m s l) = mm at *
    go_wp2_with fail
    refine HC2.out.mono ?_
    rintro e w2 ⟨rfl, hb2⟩
    go_wp2_with fail
    go_ret
    refine ⟨ret_bool ?_, by (repeat (first | with_reducible assumption | with_reducible exact Below.refl _ _ | with_reducible refine Below.setCell ?_ (by first | omega | (simp; done) | (simp; omega)) _ | with_reducible refine Below.alloc ?_ (by first | omega | (simp; done) | (simp; omega)) _ | with_reducible refine below_drewN ?_ _ | with_reducible refine Below.drew ?_ | with_reducible refine Below.trans ?_ (Below.mono hb2 (by first | omega | (simp; done) | (simp; omega))) | with_reducible refine Below.trans ?_ (Below.mono hb1 (by first | omega | (simp; done) | (simp; omega)))))⟩
    rw [HR.out, Bool.eq_iff_iff]
    simp
    omega
  · have hf2 : formB 5 (.mk k m s l) = false := by simpa using hf
    rw [hf2] at hcall
    have HC := Lib.hid hcall
    have HF := Lib.hid hf2
    clear hcall hf hf2 hv hB1
    go_enter Tryz.func71, Tryz.ntmps71
    go_wp2_with fail
    refine HC.out.mono ?_
    rintro e w1 ⟨rfl, hb1⟩
    go_wp2_with fail
    go_ret
    exact ⟨ret_bool (by unfold exOkB; rw [HF.out]; rfl), by (repeat (first | with_reducible assumption | with_reducible exact Below.refl _ _ | with_reducible refine Below.setCell ?_ (by first | omega | (simp; done) | (simp; omega)) _ | with_reducible refine Below.alloc ?_ (by first | omega | (simp; done) | (simp; omega)) _ | with_reducible refine below_drewN ?_ _ | with_reducible refine Below.drew ?_ | with_reducible refine Below.trans ?_ (Below.mono hb1 (by first | omega | (simp; done) | (simp; omega)))))⟩
end Go.Proofs.YtgakjhaepdigpaaGreatDoor
