/- What is the same: the program's and the reference's equality of trees. -/
import Derived.Test.YtgakjhaepdigpaaGreatDoorZm10
import Derived.Deep.RegionHeld3
import Derived.Deep.DeepCutAuto
import Derived.Lib.SlBytesRow
namespace Go.Proofs.YtgakjhaepdigpaaGreatDoor
set_option maxRecDepth 100000
set_option linter.unusedSimpArgs false
set_option linter.unusedVariables false
open Go.RowKit
attribute [local go_sem] bs_toList bs_get bs_size

theorem later_call2 {P : Program} {f : FuncId} {args : Array Value} {W : World} {x : Later W.heap.size W} {v : Value}
    (h : ∀ y : Later W.heap.size W, Calls P f args y.w' fun e w' => e = .returned v ∧ Below y.w'.heap.size y.w' w') : Calls P f args x.w' fun e w'' => e = .returned v ∧ ∃ y : Later W.heap.size W, w'' = y.w' :=
  later_call (Nat.le_refl _) (h x)
theorem spSame_n : ∀ (k : Nat) (a b : Ex) (v u : Value) (W : World), SizeOf.sizeOf a ≤ k → ExV W W.heap.size v a → ExV W W.heap.size u b →
    Calls Tryz.prog 74 #[v, u] W fun e w' => e = .returned (.bool (decide (a = b))) ∧ Below W.heap.size W w' := by
  intro k
  induction k using Nat.strongRecOn with
  | _ k ih =>
    intro a b v u W hk hv hu
    obtain ⟨p, q, s, A, c, l, rfl, rfl, hs, hc, hm, hkv⟩ := hv.form
    obtain ⟨p', q', s', A', c', m, rfl, rfl, hs', hc', hm', hku⟩ := hu.form
    have hsk := Ex.size_kids (.mk p q s l)
    simp only [Ex.kids] at hsk
    have IH := Lib.hid ih
    clear ih
    by_cases h0 : p = p' ∧ q = q' ∧ s = s' ∧ l.length = m.length
    rotate_left
    · have hd : decide (Ex.mk p q s l = Ex.mk p' q' s' m) = false := by
        apply decide_eq_false
        intro e
        obtain ⟨a, b, c, d⟩ := Ex.mk.inj e
        exact h0 ⟨a, b, c, by rw [d]⟩
      have HD := Lib.hid (And.intro hd h0)
      clear hd h0 IH hv hu
      go_enter Tryz.func74, Tryz.ntmps74
      go_wp2_with fail
      all_goals first
        | (go_ret; exact ⟨ret_bool HD.out.1.symm, by (repeat (first | with_reducible assumption | with_reducible exact Below.refl _ _ | with_reducible refine Below.setCell ?_ (by first | omega | (simp; done) | (simp; omega)) _ | with_reducible refine Below.alloc ?_ (by first | omega | (simp; done) | (simp; omega)) _ | with_reducible refine below_drewN ?_ _ | with_reducible refine Below.drew ?_))⟩)
        | (exfalso; have := HD.out.2; clear HD; go_light; simp_all; done)
        | (exfalso; have := HD.out.2; clear HD; go_light; simp_all; omega)
    · obtain ⟨rfl, rfl, rfl, hnm⟩ := h0
      have hne : (((l.length : Nat) : Int) != ((m.length : Nat) : Int)) = false := by simp [hnm]
      have HNM := Lib.hid hnm
      clear hnm
      go_enter Tryz.func74, Tryz.ntmps74
      go_wp2_with fail
      obtain ⟨W1, hW1⟩ : ∃ W1, W1 = ((W.alloc (.cells #[.int .i64 p, .int .i64 q, .string (bs s), .slice A l.length c] 24)).alloc (.cells #[.int .i64 p, .int .i64 q, .string (bs s), .slice A' m.length c'] 24)) := ⟨_, rfl⟩
      rw [← hW1]
      have hB1 : Below W.heap.size W W1 := by rw [hW1]; (repeat (first | with_reducible assumption | with_reducible exact Below.refl _ _ | with_reducible refine Below.setCell ?_ (by first | omega | (simp; done) | (simp; omega)) _ | with_reducible refine Below.alloc ?_ (by first | omega | (simp; done) | (simp; omega)) _ | with_reducible refine below_drewN ?_ _ | with_reducible refine Below.drew ?_))
      have hs1 : W.heap.size + 1 < W1.heap.size := by rw [hW1]; simp
      have k0 := Later.of (W := W1) (b := W.heap.size) (o := 3) (v := .slice A l.length c) (by rw [hW1]; simp [go_sem])
      have k1 := Later.of (W := W1) (b := W.heap.size + 1) (o := 3) (v := .slice A' m.length c') (by rw [hW1]; simp [go_sem])
      have hkv1 := hkv.ext hB1
      have hku1 := hku.ext hB1
      have HW1 := Lib.hid hW1
      clear hW1 hv hu hkv hku
      go_loopg [5] l.length (fun k p wr => ∃ i : Nat, k = l.length - i ∧ i ≤ l.length ∧ p = .int .i64 i ∧ AgreeTo i l m ∧ Below W1.heap.size W1 wr)
      case atStart => exact ⟨0, by omega, by omega, rfl, AgreeTo.zero _ _, Below.refl _ _⟩
      case' round =>
        obtain ⟨i, hk2, hin, rfl, hij, hbl⟩ := hrel
        have HK := Lib.hid hk2
        clear hk2
        have hlm := HNM.out
        have him : i ≤ m.length := by omega
        clear hlm
        obtain ⟨x, rfl⟩ := Later.ex hbl
        by_cases hlt : i < l.length
        rotate_left
        · go_wp2_with fail
          go_ret
          refine ⟨ret_bool ?_, ?_⟩
          · simp
            exact AgreeTo.eq hij (by omega) HNM.out
          · exact hB1.trans (hbl.mono (by omega))
        have hlm : i < m.length := by have := HNM.out; omega
        obtain ⟨b, o, p1, q1, s1, A1, c1, m1, rfl, hb, hg, hs1, hm1, hc1, hk1, f0, f1, f2, f3⟩ := ex_at hkv1 hlt
        obtain ⟨b', o', p1', q1', s1', A1', c1', m1', rfl, hb', hg', hs1', hm1', hc1', hk1', f0', f1', f2', f3'⟩ := ex_at hku1 hlm
        have hsz := Ex.size_mem hg
        have HG := Lib.hid (And.intro hg hg')
        clear hg hg'
        rw [bs_size] at hs1 hs1'
        have hcall : ∀ y : Later W1.heap.size W1, Calls Tryz.prog 74 #[.agg #[.int .i64 p1, .int .i64 q1, .string (bs s1), .slice A1 m1.length c1], .agg #[.int .i64 p1', .int .i64 q1', .string (bs s1'), .slice A1' m1'.length c1']] y.w' fun e w' => e = .returned (.bool (decide (Ex.mk p1 q1 s1 m1 = Ex.mk p1' q1' s1' m1'))) ∧ Below y.w'.heap.size y.w' w' :=
          fun y => IH.out (SizeOf.sizeOf (Ex.mk p1 q1 s1 m1)) (by omega) (.mk p1 q1 s1 m1) (.mk p1' q1' s1' m1') _ _ y.w' (Nat.le_refl _) ⟨_, rfl, hs1, hk1.ext y.ok⟩ ⟨_, rfl, hs1', hk1'.ext y.ok⟩
        by_cases hst : Ex.mk p1 q1 s1 m1 = Ex.mk p1' q1' s1' m1'
        all_goals
          rw [show decide (Ex.mk p1 q1 s1 m1 = Ex.mk p1' q1' s1' m1') = _ by first | exact decide_eq_true hst | exact decide_eq_false hst] at hcall
          have HD := Lib.hid hcall
          have HST := Lib.hid hst
          clear hst hcall
          go_wp2_with fail
          refine wp_region_later hbl (by kernel_rfl) (by kernel_rfl) ?_
          repeat (go_big_quiet_step ((go_at_call 74; exact later_call2 HD.out)))
          refine wpQuiet_nil ?_
          rintro _ ⟨y, rfl⟩
          have hy := y.ok
          go_wp2_with fail
        · go_roundg (l.length - (i + 1))
          case measure => have := HK.out; omega
          case rel => exact ⟨i + 1, rfl, by omega, by go_num, hij.succ HG.out.1 (HST.out ▸ HG.out.2), hy⟩
        · go_ret
          refine ⟨ret_bool (Eq.symm (decide_eq_false ?_)), hB1.trans (hy.mono (by omega))⟩
          intro e
          have hlm2 : l = m := (Ex.mk.inj e).2.2.2
          exact AgreeTo.ne HG.out.1 HG.out.2 HST.out hlm2
theorem spSame_any (a b : Ex) (v u : Value) (W : World) (hv : ExV W W.heap.size v a) (hu : ExV W W.heap.size u b) :
    Calls Tryz.prog 74 #[v, u] W fun e w' => e = .returned (.bool (decide (a = b))) ∧ Below W.heap.size W w' := spSame_n _ a b v u W (Nat.le_refl _) hv hu
theorem spNone_any (e : Ex) (v : Value) (w : World) (hv : ExV w w.heap.size v e) : Calls Tryz.prog 68 #[v] w fun r w' => r = .returned (.bool (decide (e = Ex.none))) ∧ Below w.heap.size w w' := by
  obtain ⟨k, m, s, A, c, l, rfl, rfl, hs, hc, hm, hk⟩ := hv.form
  have HC := Lib.hid (fun (w' : World) (h : Below w.heap.size w w') => spSame_any _ _ _ _ w' ((hv.keep h (Nat.le_refl _)).more h.size) (ExV.none w' _))
  clear hv hk
  go_enter Tryz.func68, Tryz.ntmps68
  go_wp2_with fail
  refine (HC.out _ (by (repeat (first | with_reducible assumption | with_reducible exact Below.refl _ _ | with_reducible refine Below.setCell ?_ (by first | omega | (simp; done) | (simp; omega)) _ | with_reducible refine Below.alloc ?_ (by first | omega | (simp; done) | (simp; omega)) _ | with_reducible refine below_drewN ?_ _ | with_reducible refine Below.drew ?_)))).mono ?_
  rintro e w1 ⟨rfl, hb1⟩
  go_wp2_with fail
  go_ret
  exact ⟨rfl, by (repeat (first | with_reducible assumption | with_reducible exact Below.refl _ _ | with_reducible refine Below.setCell ?_ (by first | omega | (simp; done) | (simp; omega)) _ | with_reducible refine Below.alloc ?_ (by first | omega | (simp; done) | (simp; omega)) _ | with_reducible refine below_drewN ?_ _ | with_reducible refine Below.drew ?_ | with_reducible refine Below.trans ?_ (Below.mono hb1 (by first | omega | (simp; done) | (simp; omega)))))⟩
end Go.Proofs.YtgakjhaepdigpaaGreatDoor


/- What is the same: the program's equality of trees. -/
namespace Go.Proofs.YtgakjhaepdigpaaGreatDoor
set_option maxRecDepth 100000
set_option linter.unusedSimpArgs false
set_option linter.unusedVariables false
open Go.RowKit
attribute [local go_sem] bs_toList bs_get bs_size

def SameAt (k : Nat) : Prop := ∀ (a b : Ex) (v u : Value) (W : World), SizeOf.sizeOf a < k → ExV W W.heap.size v a → ExV W W.heap.size u b →
  Calls Tryz.prog 72 #[v, u] W fun e w' => e = .returned (.bool (decide (a = b))) ∧ Below W.heap.size W w'
theorem equalFunc_any (k : Nat) (H : SameAt k) (l m : List Ex) (v u : Value) (W : World) (hk : SizeOf.sizeOf l ≤ k) (hv : ExS W W.heap.size v l) (hu : ExS W W.heap.size u m) :
    Calls Tryz.prog 128 #[v, u, .func (.func 72) #[] #[]] W fun e w' => e = .returned (.bool (decide (l = m))) ∧ Below W.heap.size W w' := by
  obtain ⟨A, c, rfl, hc, hm⟩ := hv.val
  obtain ⟨A', c', rfl, hc', hm'⟩ := hu.val
  have ONE := Lib.hid H
  clear H
  by_cases hnm : l.length = m.length
  rotate_left
  · have hne : (((l.length : Nat) : Int) != ((m.length : Nat) : Int)) = true := by simp; omega
    have hd : decide (l = m) = false := by simp; intro e; exact hnm (by rw [e])
    have HD := Lib.hid hd
    clear hd
    go_enter Tryz.func128, Tryz.ntmps128
    go_wp2_with fail
    go_ret
    exact ⟨ret_bool HD.out.symm, Below.refl _ _⟩
  have hne : (((l.length : Nat) : Int) != ((m.length : Nat) : Int)) = false := by simp [hnm]
  have HNM := Lib.hid hnm
  clear hnm
  go_enter Tryz.func128, Tryz.ntmps128
  go_wp2_with fail
  go_loopg [17] l.length (fun k p wr => ∃ i : Nat, k = l.length - i ∧ i ≤ l.length ∧ p = .int .i64 i ∧ AgreeTo i l m ∧ Below W.heap.size W wr)
  case atStart => exact ⟨0, by omega, by omega, rfl, AgreeTo.zero _ _, Below.refl _ _⟩
  case' round =>
    obtain ⟨i, hk2, hin, rfl, hij, hbl⟩ := hrel
    have HK := Lib.hid hk2
    clear hk2
    have hlm := HNM.out
    have him : i ≤ m.length := by omega
    clear hlm
    by_cases hlt : i < l.length
    rotate_left
    · go_wp2_with fail
      go_ret
      exact ⟨ret_bool (by simp; exact (AgreeTo.eq hij (by omega) HNM.out)), hbl⟩
    have hlm : i < m.length := by have := HNM.out; omega
    obtain ⟨b, o, p, q, s, A1, c1, m1, rfl, hb, hg, hs1, hm1, hc1, hk1, f0, f1, f2, f3⟩ := ex_at hv hlt
    obtain ⟨b', o', p', q', s', A1', c1', m1', rfl, hb', hg', hs1', hm1', hc1', hk1', f0', f1', f2', f3'⟩ := ex_at hu hlm
    have hsz := Ex.size_mem hg
    have hz := hbl.size
    have g0 := f0 ⟨wr, hbl⟩; have g1 := f1 ⟨wr, hbl⟩; have g2 := f2 ⟨wr, hbl⟩; have g3 := f3 ⟨wr, hbl⟩
    have hB1 : Below wr.heap.size wr (wr.alloc (.cells #[.int .i64 p, .int .i64 q, .string (bs s), .slice A1 m1.length c1] 24)) := by (repeat (first | with_reducible assumption | with_reducible exact Below.refl _ _ | with_reducible refine Below.setCell ?_ (by first | omega | (simp; done) | (simp; omega)) _ | with_reducible refine Below.alloc ?_ (by first | omega | (simp; done) | (simp; omega)) _ | with_reducible refine below_drewN ?_ _ | with_reducible refine Below.drew ?_))
    have g0' := f0' ⟨_, hbl.ext hB1⟩; have g1' := f1' ⟨_, hbl.ext hB1⟩; have g2' := f2' ⟨_, hbl.ext hB1⟩; have g3' := f3' ⟨_, hbl.ext hB1⟩
    have HG := Lib.hid (And.intro hg hg')
    clear f0 f1 f2 f3 f0' f1' f2' f3' hg hg'
    rw [bs_size] at hs1 hs1'
    have hcall : ∀ y, Below wr.heap.size wr y → Calls Tryz.prog 72 #[.agg #[.int .i64 p, .int .i64 q, .string (bs s), .slice A1 m1.length c1], .agg #[.int .i64 p', .int .i64 q', .string (bs s'), .slice A1' m1'.length c1']] y fun e w' => e = .returned (.bool (decide (Ex.mk p q s m1 = Ex.mk p' q' s' m1'))) ∧ Below y.heap.size y w' :=
      fun y hy => ONE.out (.mk p q s m1) (.mk p' q' s' m1') _ _ y (by omega) ⟨_, rfl, hs1, (hk1.ext (hbl.ext hy))⟩ ⟨_, rfl, hs1', hk1'.ext (hbl.ext hy)⟩
    by_cases hst : Ex.mk p q s m1 = Ex.mk p' q' s' m1'
    all_goals
      rw [show decide (Ex.mk p q s m1 = Ex.mk p' q' s' m1') = _ by first | exact decide_eq_true hst | exact decide_eq_false hst] at hcall
      have HD := Lib.hid hcall
      have HST := Lib.hid hst
      clear hst hcall
      go_wp2_with fail
      refine (HD.out _ (by (repeat (first | with_reducible assumption | with_reducible exact Below.refl _ _ | with_reducible refine Below.setCell ?_ (by first | omega | (simp; done) | (simp; omega)) _ | with_reducible refine Below.alloc ?_ (by first | omega | (simp; done) | (simp; omega)) _ | with_reducible refine below_drewN ?_ _ | with_reducible refine Below.drew ?_)))).mono ?_
      rintro e w1 ⟨rfl, hb1⟩
      go_wp2_with fail
    · go_roundg (l.length - (i + 1))
      case measure => have := HK.out; omega
      case rel => exact ⟨i + 1, rfl, by omega, by go_num, hij.succ HG.out.1 (HST.out ▸ HG.out.2), by (repeat (first | with_reducible assumption | with_reducible exact Below.refl _ _ | with_reducible refine Below.setCell ?_ (by first | omega | (simp; done) | (simp; omega)) _ | with_reducible refine Below.alloc ?_ (by first | omega | (simp; done) | (simp; omega)) _ | with_reducible refine below_drewN ?_ _ | with_reducible refine Below.drew ?_ | with_reducible refine Below.trans ?_ (Below.mono hb1 (by first | omega | (simp; done) | (simp; omega))) | with_reducible refine Below.trans ?_ (Below.mono hbl (by first | omega | (simp; done) | (simp; omega)))))⟩
    · go_ret
      exact ⟨ret_bool (by simpa using AgreeTo.ne HG.out.1 HG.out.2 HST.out), by (repeat (first | with_reducible assumption | with_reducible exact Below.refl _ _ | with_reducible refine Below.setCell ?_ (by first | omega | (simp; done) | (simp; omega)) _ | with_reducible refine Below.alloc ?_ (by first | omega | (simp; done) | (simp; omega)) _ | with_reducible refine below_drewN ?_ _ | with_reducible refine Below.drew ?_ | with_reducible refine Below.trans ?_ (Below.mono hb1 (by first | omega | (simp; done) | (simp; omega))) | with_reducible refine Below.trans ?_ (Below.mono hbl (by first | omega | (simp; done) | (simp; omega)))))⟩
theorem imSame_n : ∀ k : Nat, SameAt k := by
  intro k
  induction k with
  | zero => intro a b v u W h; omega
  | succ k ih =>
    intro a b v u W hk hv hu
    obtain ⟨p, q, s, A, c, l, rfl, rfl, hs, hc, hm, hkv⟩ := hv.form
    obtain ⟨p', q', s', A', c', m, rfl, rfl, hs', hc', hm', hku⟩ := hu.form
    have hsk := Ex.size_kids (.mk p q s l)
    simp only [Ex.kids] at hsk
    have hB : Below W.heap.size W ((W.alloc (.cells #[.int .i64 p, .int .i64 q, .string (bs s), .slice A l.length c] 24)).alloc (.cells #[.int .i64 p', .int .i64 q', .string (bs s'), .slice A' m.length c'] 24)) := by (repeat (first | with_reducible assumption | with_reducible exact Below.refl _ _ | with_reducible refine Below.setCell ?_ (by first | omega | (simp; done) | (simp; omega)) _ | with_reducible refine Below.alloc ?_ (by first | omega | (simp; done) | (simp; omega)) _ | with_reducible refine below_drewN ?_ _ | with_reducible refine Below.drew ?_))
    have hcall := equalFunc_any k ih l m _ _ _ (by omega) (hkv.ext hB) (hku.ext hB)
    clear ih
    by_cases h0 : p = p' ∧ q = q' ∧ s = s'
    rotate_left
    · have hd : decide (Ex.mk p q s l = Ex.mk p' q' s' m) = false := by
        apply decide_eq_false
        intro e
        obtain ⟨a, b, c, d⟩ := Ex.mk.inj e
        exact h0 ⟨a, b, c⟩
      have HD := Lib.hid (And.intro hd h0)
      clear hd h0 hcall hv hu
      go_enter Tryz.func72, Tryz.ntmps72
      go_wp2_with fail
      all_goals first
        | (go_ret; exact ⟨ret_bool HD.out.1.symm, by (repeat (first | with_reducible assumption | with_reducible exact Below.refl _ _ | with_reducible refine Below.setCell ?_ (by first | omega | (simp; done) | (simp; omega)) _ | with_reducible refine Below.alloc ?_ (by first | omega | (simp; done) | (simp; omega)) _ | with_reducible refine below_drewN ?_ _ | with_reducible refine Below.drew ?_))⟩)
        | (exfalso; have := HD.out.2; clear HD; go_light; simp_all; done)
        | (exfalso; have := HD.out.2; clear HD; go_light; simp_all; omega)
    · obtain ⟨rfl, rfl, rfl⟩ := h0
      have hr : decide (Ex.mk p q s l = Ex.mk p q s m) = decide (l = m) := by simp
      have HC := Lib.hid hcall
      have HR := Lib.hid hr
      clear hcall hr hv hu
      go_enter Tryz.func72, Tryz.ntmps72
      go_wp2_with fail
      refine HC.out.mono ?_
      rintro e w1 ⟨rfl, hb1⟩
      go_wp2_with fail
      go_ret
      exact ⟨ret_bool HR.out.symm, by (repeat (first | with_reducible assumption | with_reducible exact Below.refl _ _ | with_reducible refine Below.setCell ?_ (by first | omega | (simp; done) | (simp; omega)) _ | with_reducible refine Below.alloc ?_ (by first | omega | (simp; done) | (simp; omega)) _ | with_reducible refine below_drewN ?_ _ | with_reducible refine Below.drew ?_ | with_reducible refine Below.trans ?_ (Below.mono hb1 (by first | omega | (simp; done) | (simp; omega)))))⟩
theorem imSame_any (a b : Ex) (v u : Value) (W : World) (hv : ExV W W.heap.size v a) (hu : ExV W W.heap.size u b) :
    Calls Tryz.prog 72 #[v, u] W fun e w' => e = .returned (.bool (decide (a = b))) ∧ Below W.heap.size W w' := imSame_n (SizeOf.sizeOf a + 1) a b v u W (by omega) hv hu
theorem imNone_any (e : Ex) (v : Value) (w : World) (hv : ExV w w.heap.size v e) : Calls Tryz.prog 64 #[v] w fun r w' => r = .returned (.bool (decide (e = Ex.none))) ∧ Below w.heap.size w w' := by
  obtain ⟨k, m, s, A, c, l, rfl, rfl, hs, hc, hm, hk⟩ := hv.form
  have HC := Lib.hid (fun (w' : World) (h : Below w.heap.size w w') => imSame_any _ _ _ _ w' ((hv.keep h (Nat.le_refl _)).more h.size) (ExV.none w' _))
  clear hv hk
  go_enter Tryz.func64, Tryz.ntmps64
  go_wp2_with fail
  refine (HC.out _ (by (repeat (first | with_reducible assumption | with_reducible exact Below.refl _ _ | with_reducible refine Below.setCell ?_ (by first | omega | (simp; done) | (simp; omega)) _ | with_reducible refine Below.alloc ?_ (by first | omega | (simp; done) | (simp; omega)) _ | with_reducible refine below_drewN ?_ _ | with_reducible refine Below.drew ?_)))).mono ?_
  rintro e w1 ⟨rfl, hb1⟩
  go_wp2_with fail
  go_ret
  exact ⟨rfl, by (repeat (first | with_reducible assumption | with_reducible exact Below.refl _ _ | with_reducible refine Below.setCell ?_ (by first | omega | (simp; done) | (simp; omega)) _ | with_reducible refine Below.alloc ?_ (by first | omega | (simp; done) | (simp; omega)) _ | with_reducible refine below_drewN ?_ _ | with_reducible refine Below.drew ?_ | with_reducible refine Below.trans ?_ (Below.mono hb1 (by first | omega | (simp; done) | (simp; omega)))))⟩
end Go.Proofs.YtgakjhaepdigpaaGreatDoor


/- The words of what is reckoned: the reference's. -/
namespace Go.Proofs.YtgakjhaepdigpaaGreatDoor
set_option maxRecDepth 100000
set_option linter.unusedSimpArgs false
set_option linter.unusedVariables false
open Go.RowKit
attribute [local go_sem] bs_toList bs_get bs_size

def digC (d : Nat) : UInt8 := UInt8.ofNat (48 + d)
theorem conv1 (w : World) (b d : Nat) (hd : d < 10) (x : Int) (hx : x = d) (h : w.cell? ⟨b, 0, none⟩ = some (.int .u8 (48 + x))) : (convert 32 9 (.slice (some ⟨b, 0, none⟩) 1 1)).run Tryz.prog w = .ok (.string (bs [digC d])) w := by
  have := Lib.run_convert_whole (P := Tryz.prog) w 32 5 9 Tryz.underlying32 Tryz.underlying5 Tryz.underlying9 b 0 (bs [digC d]) (fun i hi => by
    have hi0 : i = 0 := by rw [bs_size] at hi; simp at hi; omega
    subst hi0
    rw [h, hx]
    congr 2
    simp [bs, digC, ByteArray.getElem_eq_getElem_data, UInt8.toNat_ofNat']
    omega) 1
  rw [bs_size] at this
  exact this
theorem spDec_any (n : Nat) (hn : n ≤ 1000000) (w : World) : Calls Tryz.prog 156 #[.int .i64 (n : Int)] w fun e w' => e = .returned (.string (bs (decL n))) ∧ Below w.heap.size w w' := by
  have d1 : decide ((n : Int) < -9223372036854775807) = false := by first | (simp; done) | (simp; omega)
  have d2 : decide ((n : Int) < 0) = false := by simp
  go_enter Tryz.func156, Tryz.ntmps156
  go_wp2_with fail
  go_loopg [0, 3] n (fun g a o wr => ∃ (k : Nat) (out : Bytes), g = k ∧ k ≤ n ∧ a = .int .i64 k ∧ o = .string (bs out) ∧ decL k ++ out = decL n ∧ out.length ≤ 10 ∧ Below w.heap.size w wr)
  case atStart => exact ⟨n, [], rfl, Nat.le_refl _, rfl, rfl, by simp, by simp, Below.refl _ _⟩
  case round =>
    obtain ⟨k, out, rfl, hk, rfl, rfl, he, hl, hb⟩ := hrel
    have HE := Lib.hid he
    have hz := hb.size
    clear he
    have hl2 : ¬ 9223372036854775807 < 1 + out.length := by omega
    have hl3 : 1 + out.length ≤ 9223372036854775807 := by omega
    by_cases h9 : 9 < gk
    · have d3 : decide ((9 : Int) < gk) = true := by simp; omega
      have hcv := conv1 (wr.alloc (.cells #[.int .u8 (48 + (gk : Int) % 10)] 5)) wr.heap.size (gk % 10) (by omega) ((gk : Int) % 10) (by omega) (by simp)
      go_wp2_with fail
      go_roundg (gk / 10)
      case measure => omega
      case rel => exact ⟨gk / 10, digC (gk % 10) :: out, rfl, by omega, by go_num, by rw [bs_append]; rfl, by rw [← HE.out, decL_ge (n := gk) (by omega)]; simp [digC], by
        have h1 := congrArg List.length HE.out
        have h2 := decL_len 6 n (by omega)
        have h3 := decL_len 6 gk (by omega)
        rw [List.length_append] at h1
        have h4 : 2 ≤ (decL gk).length := by rw [decL_ge (by omega), List.length_append, List.length_singleton]; have := decL_pos (gk / 10); omega
        simp only [List.length_cons]
        omega, by (repeat (first | with_reducible assumption | with_reducible exact Below.refl _ _ | with_reducible refine Below.setCell ?_ (by first | omega | (simp; done) | (simp; omega)) _ | with_reducible refine Below.alloc ?_ (by first | omega | (simp; done) | (simp; omega)) _ | with_reducible refine below_drewN ?_ _ | with_reducible refine Below.drew ?_ | with_reducible refine Below.trans ?_ (Below.mono hb (by first | omega | (simp; done) | (simp; omega)))))⟩
    · have d3 : decide ((9 : Int) < gk) = false := by simp; omega
      have hcv := conv1 (wr.alloc (.cells #[.int .u8 (48 + (gk : Int))] 5)) wr.heap.size gk (by omega) (gk : Int) rfl (by simp)
      go_wp2_with fail
      go_ret
      exact ⟨ret_cat (by rw [← HE.out, decL_lt (by omega)]; rfl), by (repeat (first | with_reducible assumption | with_reducible exact Below.refl _ _ | with_reducible refine Below.setCell ?_ (by first | omega | (simp; done) | (simp; omega)) _ | with_reducible refine Below.alloc ?_ (by first | omega | (simp; done) | (simp; omega)) _ | with_reducible refine below_drewN ?_ _ | with_reducible refine Below.drew ?_ | with_reducible refine Below.trans ?_ (Below.mono hb (by first | omega | (simp; done) | (simp; omega)))))⟩
theorem spLevel_any (e : E) (v : Value) (w : World) (hv : ExV w w.heap.size v e.ex) : Calls Tryz.prog 155 #[v] w fun r w' => r = .returned (.int .i64 (e.lv : Nat)) ∧ Below w.heap.size w w' := by
  obtain ⟨kv, rfl, hs, hk⟩ := hv
  obtain ⟨A, c, rfl, hc, hm⟩ := hk.val
  cases e with
  | two o a b =>
    cases o
    all_goals
      simp only [E.ex, Ex.kind, Ex.n, Ex.s, Ex.kids, Op2.b, List.length_cons, List.length_nil]
      go_enter Tryz.func155, Tryz.ntmps155
      go_wp2_with fail
      go_ret
      exact ⟨rfl, by (repeat (first | with_reducible assumption | with_reducible exact Below.refl _ _ | with_reducible refine Below.setCell ?_ (by first | omega | (simp; done) | (simp; omega)) _ | with_reducible refine Below.alloc ?_ (by first | omega | (simp; done) | (simp; omega)) _ | with_reducible refine below_drewN ?_ _ | with_reducible refine Below.drew ?_))⟩
  | _ =>
    simp only [E.ex, Ex.kind, Ex.n, Ex.s, Ex.kids, List.length_cons, List.length_nil]
    go_enter Tryz.func155, Tryz.ntmps155
    go_wp2_with fail
    go_ret
    exact ⟨rfl, by (repeat (first | with_reducible assumption | with_reducible exact Below.refl _ _ | with_reducible refine Below.setCell ?_ (by first | omega | (simp; done) | (simp; omega)) _ | with_reducible refine Below.alloc ?_ (by first | omega | (simp; done) | (simp; omega)) _ | with_reducible refine below_drewN ?_ _ | with_reducible refine Below.drew ?_))⟩
end Go.Proofs.YtgakjhaepdigpaaGreatDoor
