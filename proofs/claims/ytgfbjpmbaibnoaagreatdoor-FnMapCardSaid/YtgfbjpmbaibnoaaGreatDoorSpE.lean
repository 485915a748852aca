
/- The reference's tests on words and trees, as plain functions. -/
import Derived.Test.YtgfbjpmbaibnoaaGreatDoorRows
import Derived.Test.YtgfbjpmbaibnoaaGreatDoorBas
import Derived.Deep.Light
namespace Go.Proofs.YtgfbjpmbaibnoaaGreatDoor
set_option maxRecDepth 100000
set_option linter.unusedSimpArgs false
set_option linter.unusedVariables false
open Go.RowKit
attribute [local go_sem] bs_toList bs_get bs_size

theorem spType_any (s : Bytes) (w : World) : Calls Tryz.prog 76 #[.string (bs s)] w fun e w' => e = .returned (.bool (typeB s)) ∧ w = w' := by
  go_enter Tryz.func76, Tryz.ntmps76
  go_wp2_with fail
  all_goals (try (go_ret; refine ⟨ret_bool ?_, rfl⟩; go_light; first | (simp_all [typeB, cInt, cBool]; done) | (simp_all [typeB, cInt, cBool]; omega) | (rw [Bool.eq_iff_iff]; simp [typeB, cInt, cBool]; omega)))
theorem spOp_any (s : Bytes) (w : World) : Calls Tryz.prog 187 #[.string (bs s)] w fun e w' => e = .returned (.bool (opB s)) ∧ w = w' := by
  go_enter Tryz.func187, Tryz.ntmps187
  go_wp2_with fail
  all_goals (try (go_ret; refine ⟨ret_bool ?_, rfl⟩; go_light; first | (simp_all [opB]; done) | (simp_all [opB]; omega) | (rw [Bool.eq_iff_iff]; simp [opB]; omega)))
theorem spHeld_any (s : Bytes) (w : World) : Calls Tryz.prog 148 #[.string (bs s)] w fun e w' => e = .returned (.bool (heldB s)) ∧ w = w' := by
  go_enter Tryz.func148, Tryz.ntmps148
  go_wp2_with (go_at_call 76; refine (spType_any _ _).mono ?_; rintro e w' ⟨rfl, rfl⟩)
  all_goals (try (go_ret; refine ⟨ret_bool ?_, rfl⟩; go_light; first | (simp_all [heldB, cLet, cSay, cWhen, cAs, cPrint, cIf]; done) | (simp_all [heldB, cLet, cSay, cWhen, cAs, cPrint, cIf]; omega) | (rw [Bool.eq_iff_iff]; simp [heldB, cLet, cSay, cWhen, cAs, cPrint, cIf]; omega)))
theorem wordB_of {s : Bytes} (h : ∀ t c, t < s.length → s[t]? = some c → isLet c = true) : wordB s = (decide (1 ≤ s.length) && decide (s.length ≤ 8)) := by
  have ha : s.all isLet = true := by
    rw [List.all_eq_true]
    intro c hc
    obtain ⟨i, hi⟩ := List.mem_iff_getElem?.1 hc
    exact h i c (List.getElem?_eq_some_iff.1 hi).1 hi
  unfold wordB
  rw [ha, Bool.true_and]
theorem wordB_not {s : Bytes} {j : Nat} (hj : j < s.length) (h : isLet s[j] = false) : wordB s = false := by
  unfold wordB
  have : s.all isLet = false := by
    rw [List.all_eq_false]
    exact ⟨s[j], List.getElem_mem hj, by simp [h]⟩
  rw [this]
  rfl
theorem spWord_any (s : Bytes) (w : World) (hs : s.length ≤ 9223372036854775807) : Calls Tryz.prog 147 #[.string (bs s)] w fun e w' => e = .returned (.bool (wordB s)) ∧ w = w' := by
  go_enter Tryz.func147, Tryz.ntmps147
  go_wp2_with fail
  go_loopg [3] s.length (fun k i wr => ∃ j : Nat, k = s.length - j ∧ j ≤ s.length ∧ i = .int .i64 j ∧ (∀ t c, t < j → s[t]? = some c → isLet c = true) ∧ wr = w)
  case atStart => exact ⟨0, by omega, by omega, rfl, fun t c h => by omega, rfl⟩
  case round =>
    obtain ⟨j, hk, hj, rfl, ha, rfl⟩ := hrel
    have HK := Lib.hid (And.intro hk ha)
    clear hk ha
    by_cases hlt : j < s.length
    · have hi : isLet s[j] = (decide (97 ≤ s[j].toNat) && decide (s[j].toNat ≤ 122)) := rfl
      have HI := Lib.hid hi
      clear hi
      go_wp2_with fail
      all_goals first
        | (go_ret
           exact ⟨ret_bool (wordB_not hlt (by rw [HI.out]; simp; omega)).symm, rfl⟩)
        | (go_roundg (s.length - (j + 1))
           case measure => have := HK.out.1; omega
           case rel => exact ⟨j + 1, rfl, by omega, by go_num, fun t c ht hc => by
            by_cases e : t = j
            · subst e
              rw [List.getElem?_eq_getElem hlt] at hc
              obtain rfl := Option.some.inj hc
              rw [HI.out]
              simp
              omega
            · exact HK.out.2 t c (by omega) hc, rfl⟩)
    · have hj2 : j = s.length := by omega
      have HJ := Lib.hid hj2
      clear hj2
      go_wp2_with fail
      all_goals
        go_ret
        refine ⟨ret_bool ?_, rfl⟩
        rw [wordB_of (fun t c ht => HK.out.2 t c (by have := HJ.out; omega))]
        go_light
        rw [Bool.eq_iff_iff]
        simp
        omega
theorem spName_any (s : Bytes) (w : World) (hs : s.length ≤ 9223372036854775807) : Calls Tryz.prog 75 #[.string (bs s)] w fun e w' => e = .returned (.bool (nameB s)) ∧ w = w' := by
  go_enter Tryz.func75, Tryz.ntmps75
  go_wp2_with (first | (go_at_call 148; refine (spHeld_any _ _).mono ?_; rintro e w' ⟨rfl, rfl⟩) | (go_at_call 147; refine (spWord_any _ _ hs).mono ?_; rintro e w' ⟨rfl, rfl⟩))
  all_goals (try (go_ret; refine ⟨ret_bool ?_, rfl⟩; go_light; first | (simp_all [nameB]; done) | (simp_all [nameB]; omega) | (rw [Bool.eq_iff_iff]; simp [nameB]; omega)))
set_option maxHeartbeats 4000000 in
theorem spForm_any : ∀ (d : Nat) (e : Ex) (v : Value) (w : World), ExV w w.heap.size v e → d ≤ 100 → Calls Tryz.prog 149 #[v, .int .i64 (d : Int)] w fun r w' => r = .returned (.bool (formB d e)) ∧ Below w.heap.size w w' := by
  intro d
  induction d with
  | zero =>
    intro e v w h _
    obtain ⟨k, n, s, A, c, l, rfl, rfl, hs, hc, hm, hk⟩ := h.form
    go_enter Tryz.func149, Tryz.ntmps149
    go_wp2_with fail
    go_ret
    exact ⟨ret_bool (by simp [formB]), by (repeat (first | with_reducible assumption | with_reducible exact Below.refl _ _ | with_reducible refine Below.setCell ?_ (by first | omega | (simp; done) | (simp; omega)) _ | with_reducible refine Below.alloc ?_ (by first | omega | (simp; done) | (simp; omega)) _ | with_reducible refine below_drewN ?_ _ | with_reducible refine Below.drew ?_))⟩
  | succ d ih =>
    intro e v w h hd
    obtain ⟨k, n, s, A, c, l, rfl, rfl, hs, hc, hm, hk⟩ := h.form
    rw [bs_size] at hs
    have d0 : decide ((d : Int) + 1 < 1) = false := by simp; omega
    have IH := Lib.hid ih
    clear ih
    obtain ⟨b0, hb0⟩ : ∃ x, ((l.length : Int) != 0) = x := ⟨_, rfl⟩
    obtain ⟨b1, hb1⟩ : ∃ x, ((l.length : Int) != 1) = x := ⟨_, rfl⟩
    obtain ⟨b2, hb2⟩ : ∃ x, ((l.length : Int) != 2) = x := ⟨_, rfl⟩
    cases b0 <;> cases b1 <;> cases b2
    all_goals (try (exfalso; simp at hb0 hb1 hb2; omega))
    all_goals
      go_enter Tryz.func149, Tryz.ntmps149
      go_wp2_with (first | (go_at_call 75; refine (spName_any _ _ hs).mono ?_; rintro e w' ⟨rfl, rfl⟩) | (go_at_call 187; refine (spOp_any _ _).mono ?_; rintro e w' ⟨rfl, rfl⟩) | (go_at_call 76; refine (spType_any _ _).mono ?_; rintro e w' ⟨rfl, rfl⟩))
    all_goals (try (go_ret; refine ⟨ret_bool ?_, by (repeat (first | with_reducible assumption | with_reducible exact Below.refl _ _ | with_reducible refine Below.setCell ?_ (by first | omega | (simp; done) | (simp; omega)) _ | with_reducible refine Below.alloc ?_ (by first | omega | (simp; done) | (simp; omega)) _ | with_reducible refine below_drewN ?_ _ | with_reducible refine Below.drew ?_))⟩; go_light; first | (simp_all [formB, headB]; done) | (simp_all [formB, headB]; omega) | (rw [Bool.eq_iff_iff]; simp [formB, headB]; omega)))
    all_goals
      have hh : headB k n s l.length = true := by go_light; first | (simp_all [headB]; done) | (simp_all [headB]; omega)
      have HH := Lib.hid hh
      clear hh
      go_loopg [7] l.length (fun k' i wr => ∃ (j : Nat) (cur : Array Value), k' = l.length - j ∧ j ≤ l.length ∧ i = .int .i64 j ∧ (∀ t x, t < j → l[t]? = some x → formB d x = true) ∧ Blk wr w.heap.size 25 cur ∧ cur[3]? = some (.slice A l.length c) ∧ Below w.heap.size w wr)
      case atStart => exact ⟨0, _, by omega, by omega, rfl, fun t x h => by omega, Blk.new _ _ _, rfl, by (repeat (first | with_reducible assumption | with_reducible exact Below.refl _ _ | with_reducible refine Below.setCell ?_ (by first | omega | (simp; done) | (simp; omega)) _ | with_reducible refine Below.alloc ?_ (by first | omega | (simp; done) | (simp; omega)) _ | with_reducible refine below_drewN ?_ _ | with_reducible refine Below.drew ?_))⟩
      case round =>
        obtain ⟨j, cur, hk2, hj, rfl, ha, hB, hcur, hbl⟩ := hrel
        have HK := Lib.hid (And.intro hk2 ha)
        clear hk2 ha
        have y3 := (hB.cell 3).trans hcur
        have hz := hbl.size
        by_cases hlt : j < l.length
        · have hd1 : ∀ K : Int, ((l.length : Int) != K) = false → decide ((j : Int) < K) = true := fun K h => by simp at h; simp; omega
          first | have d1 := hd1 2 ‹_› | have d1 := hd1 1 ‹_› | have d1 := hd1 0 ‹_›
          clear hd1
          obtain ⟨b, o, p, q, s', A', c', m, rfl, hb, hg, hs', hm', hc', hk', f0, f1, f2, f3⟩ := ex_at hk hlt
          have g0 := f0 ⟨wr, hbl⟩; have g1 := f1 ⟨wr, hbl⟩; have g2 := f2 ⟨wr, hbl⟩; have g3 := f3 ⟨wr, hbl⟩
          have HG := Lib.hid hg
          clear f0 f1 f2 f3 hg
          go_wp2_with fail
          refine (IH.out (.mk p q s' m) _ wr ⟨_, rfl, by rw [bs_size] at hs'; exact hs', (hk'.keep hbl (Nat.le_refl _)).more hz⟩ (by omega)).mono ?_
          rintro e w1 ⟨rfl, hb1⟩
          have hB1 := hB.below hb1 hB.lt
          by_cases hf : formB d (.mk p q s' m) = true
          · rw [hf]
            have HF := Lib.hid hf
            clear hf
            go_wp2_with fail
            go_roundg (l.length - (j + 1))
            case measure => have := HK.out.1; omega
            case rel => exact ⟨j + 1, cur, rfl, by omega, by go_num, fun t x ht hx => by
              by_cases e : t = j
              · subst e
                rw [HG.out] at hx
                obtain rfl := Option.some.inj hx
                exact HF.out
              · exact HK.out.2 t x (by omega) hx, hB1, hcur, by (repeat (first | with_reducible assumption | with_reducible exact Below.refl _ _ | with_reducible refine Below.setCell ?_ (by first | omega | (simp; done) | (simp; omega)) _ | with_reducible refine Below.alloc ?_ (by first | omega | (simp; done) | (simp; omega)) _ | with_reducible refine below_drewN ?_ _ | with_reducible refine Below.drew ?_ | with_reducible refine Below.trans ?_ (Below.mono hb1 (by first | omega | (simp; done) | (simp; omega))) | with_reducible refine Below.trans ?_ (Below.mono hbl (by first | omega | (simp; done) | (simp; omega)))))⟩
          · have hf2 : formB d (.mk p q s' m) = false := by simpa using hf
            rw [hf2]
            have HF := Lib.hid hf2
            clear hf hf2
            go_wp2_with fail
            go_ret
            refine ⟨ret_bool (Eq.symm ?_), by (repeat (first | with_reducible assumption | with_reducible exact Below.refl _ _ | with_reducible refine Below.setCell ?_ (by first | omega | (simp; done) | (simp; omega)) _ | with_reducible refine Below.alloc ?_ (by first | omega | (simp; done) | (simp; omega)) _ | with_reducible refine below_drewN ?_ _ | with_reducible refine Below.drew ?_ | with_reducible refine Below.trans ?_ (Below.mono hb1 (by first | omega | (simp; done) | (simp; omega))) | with_reducible refine Below.trans ?_ (Below.mono hbl (by first | omega | (simp; done) | (simp; omega)))))⟩
            simp only [formB, HH.out, Bool.true_and, List.all_eq_false]
            exact ⟨_, List.mem_of_getElem? HG.out, by rw [HF.out]; decide⟩
        · have hd1 : ∀ K : Int, ((l.length : Int) != K) = false → decide ((j : Int) < K) = false := fun K h => by simp at h; simp; omega
          first | have d1 := hd1 2 ‹_› | have d1 := hd1 1 ‹_› | have d1 := hd1 0 ‹_›
          clear hd1
          go_wp2_with fail
          go_ret
          refine ⟨ret_bool (Eq.symm ?_), hbl⟩
          simp only [formB, HH.out, Bool.true_and, List.all_eq_true]
          intro x hx
          obtain ⟨t, ht⟩ := List.mem_iff_getElem?.1 hx
          exact HK.out.2 t x (by have := (List.getElem?_eq_some_iff.1 ht).1; omega) ht
end Go.Proofs.YtgfbjpmbaibnoaaGreatDoor
