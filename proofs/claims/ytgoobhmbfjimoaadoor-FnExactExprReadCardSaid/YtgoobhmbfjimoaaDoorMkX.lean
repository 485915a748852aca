
/- The marks of trees: the walk. -/
import Derived.Test.YtgoobhmbfjimoaaDoorMkE
namespace Go.Proofs.YtgoobhmbfjimoaaDoor
set_option maxRecDepth 100000
set_option linter.unusedSimpArgs false
set_option linter.unusedVariables false
open Go.RowKit
attribute [local go_sem] bs_toList bs_get bs_size

theorem set_same {α : Type} {a : Array α} {n : Nat} {x : α} (h : a[n]? = some x) : a.setIfInBounds n x = a := by
  apply Array.ext_getElem?
  intro i
  by_cases e : i = n
  · subst e
    rw [Array.getElem?_setIfInBounds_self, h]
    simp [(Array.getElem?_eq_some_iff.1 h).1]
  · rw [Array.getElem?_setIfInBounds_ne (fun h => e h.symm)]
set_option maxHeartbeats 1000000 in
theorem markExprS_n : ∀ (N : Nat) (l : List Ex), SizeOf.sizeOf l ≤ N → ∀ (v : Value) (bl : List Nat) (w : World) (k : Nat), ExO 28 w v l bl → bl.Nodup → 1 ≤ k → k + 3 * ndL l ≤ 90000000 →
    Calls Tryd.prog 40 #[v, .int .i64 (k : Int)] w fun e w' => e = .returned (.int .i64 ((k + 3 * ndL l : Nat) : Int)) ∧ ∃ m, ExO 28 w' v m bl ∧ Marked k m ∧ ndL m = ndL l ∧ m.length = l.length ∧ Foot w w' bl
  | 0, l, hN, v, bl, w, k, hO, hnd, hk1, hk2 => by cases l <;> simp at hN
  | N + 1, l, hN, v, bl, w, k, hO, hnd, hk1, hk2 => by
    cases hO with
    | nil A c hc =>
      clear hN
      go_enter Tryd.func40, Tryd.ntmps40
      go_wp2_with fail
      go_loopg [1, 5] 0 (fun n a b wr => n = 0 ∧ a = .int .i64 (k : Int) ∧ b = .int .i64 0 ∧ wr = w)
      case atStart => exact ⟨rfl, rfl, rfl, rfl⟩
      case round =>
        obtain ⟨rfl, rfl, rfl, rfl⟩ := hrel
        go_wp2_with fail
        go_ret
        exact ⟨by simp [ndL], [], .nil A c hc, .mk _ _ (fun i e h => by simp at h) (fun i e h => by simp at h), rfl, rfl, Foot.refl _ _⟩
    | mk g cap cur fl _ bls hpos hc hm hb hfl hbl hcur h1 h2 =>
      have L0 : Lvl 28 w g cur fl l bls := ⟨hb, hfl, hbl, hcur, h1, h2⟩
      have HX := Lib.hid (And.intro hN (And.intro hk2 (And.intro hpos hm)))
      clear hb hfl hbl hcur h1 h2 hN hk2 hpos
      have hlz : l.length ≤ 90000000 := by have := HX.out.2.1; unfold ndL at this; omega
      go_enter Tryd.func40, Tryd.ntmps40
      go_wp2_with fail
      go_loopg [1, 5] l.length (fun n a b wr => ∃ (i : Nat) (m : List Ex) (cur : Array Value) (fl : List FE), n = l.length - i ∧ i ≤ l.length ∧ a = .int .i64 ((k + 3 * ndL (l.take i) : Nat) : Int) ∧ b = .int .i64 i ∧ Lvl 28 wr g cur fl m bls ∧ MarkTo k l i m ∧ Foot w wr (g :: bls.flatten))
      case atStart => exact ⟨0, l, cur, fl, by omega, by omega, by simp [ndL], rfl, L0, MarkTo.zero k l, Foot.refl _ _⟩
      case round =>
        obtain ⟨i, m, cur, fl, hk, hin, rfl, rfl, hL, hM, hF⟩ := hrel
        have HK := Lib.hid (And.intro hk (And.intro hL (And.intro hM hF)))
        clear hk hM hF
        have hB := hL.1
        have hfz := hB.frozen
        by_cases hlt : i < l.length
        · have hle := ndL_take l i
          have hks : k + 3 * ndL (l.take i) ≤ 90000000 := by have := HX.out.2.1; omega
          have hkz : 1 ≤ k + 3 * ndL (l.take i) := by omega
          clear hle
          obtain ⟨e, he, hme⟩ : ∃ e, l[i]? = some e ∧ m[i]? = some e := ⟨_, List.getElem?_eq_getElem hlt, (HK.out.2.2.1.2.1 i (Nat.le_refl _)).trans (List.getElem?_eq_getElem hlt)⟩
          obtain ⟨b, A, c, hbb, hkO, hsz, hc3⟩ := hL.at_ hme
          have HE := Lib.hid (And.intro he (And.intro hme (And.intro hbb (And.intro hkO (nodup_rows hnd hbb)))))
          clear he hme hbb hkO hL
          generalize hkk : k + 3 * ndL (l.take i) = kk at *
          have HKK := Lib.hid hkk
          clear hkk
          obtain ⟨y0, hy0⟩ : ∃ y, wr.cell? ⟨g, i * 4, none⟩ = some y := ⟨_, (hB.cell _).trans (Array.getElem?_eq_getElem (by omega))⟩
          obtain ⟨y1, hy1⟩ : ∃ y, wr.cell? ⟨g, i * 4 + 1, none⟩ = some y := ⟨_, (hB.cell _).trans (Array.getElem?_eq_getElem (by omega))⟩
          have hT := markText_any (kk + 2) (by omega) (by omega)
          rw [show ((kk + 2 : Nat) : Int) = (kk : Int) + 1 + 1 by omega] at hT
          have HT := Lib.hid hT
          clear hT
          go_wp2_with fail
          refine (HT.out _).mono ?_
          rintro e1 w1 ⟨rfl, hb1⟩
          have hB1 := ((hB.set_ (i * 4) (.int .i64 (kk : Int))).set_ (i * 4 + 1) (.int .i64 ((kk : Int) + 1))).below hb1 ((hB.set_ _ _).set_ _ _).lt
          have hfz1 := hB1.frozen
          obtain ⟨y2, hy2⟩ : ∃ y, w1.cell? ⟨g, i * 4 + 2, none⟩ = some y := ⟨_, (hB1.cell _).trans (Array.getElem?_eq_getElem (by simp; omega))⟩
          have hy3 : w1.cell? ⟨g, i * 4 + 3, none⟩ = some (.slice A e.kids.length c) := (hB1.cell _).trans (by rw [Array.getElem?_setIfInBounds_ne (by omega), Array.getElem?_setIfInBounds_ne (by omega)]; exact hc3)
          have hF1 : Foot wr (w1.setCell ⟨g, i * 4 + 2, none⟩ (.string (bs (mkW (kk + 2))))) [g] := (((Foot.set_ wr (by simp) _ _).trans (Foot.set_ _ (by simp) _ _)).trans (Foot.ext hb1)).trans (Foot.set_ _ (by simp) _ _)
          have hB2 := hB1.set_ (i * 4 + 2) (.string (bs (mkW (kk + 2))))
          have hkO2 : ExO 28 (w1.setCell ⟨g, i * 4 + 2, none⟩ (.string (bs (mkW (kk + 2))))) (.slice A e.kids.length c) e.kids b :=
            HE.out.2.2.2.1.same (fun x hx => hF1.2.2.2.2 x (HE.out.2.2.2.1.lt x hx) (by simp; exact fun h => HE.out.2.2.2.2.2.1 (h ▸ hx)))
          have hnl : k + 3 * ndL l = k + 3 * ndL l ∧ ndL (l.take i) + 1 + ndL e.kids ≤ ndL l := ⟨rfl, by rw [← ndL_succ HE.out.1]; exact ndL_take _ _⟩
          have hsz2 : SizeOf.sizeOf e.kids ≤ N := by have := HX.out.1; have := Ex.size_mem HE.out.1; have := Ex.size_kids e; omega
          have hC := markExprS_n N e.kids hsz2 (.slice A e.kids.length c) b _ (kk + 3) hkO2 HE.out.2.2.2.2.1 (by omega) (by have := HX.out.2.1; have := HKK.out; omega)
          rw [show ((kk + 3 : Nat) : Int) = (kk : Int) + 1 + 1 + 1 by omega] at hC
          have HC := Lib.hid (And.intro hC hnl)
          clear hC hnl hsz2
          go_wp2_with fail
          refine HC.out.1.mono ?_
          rintro e2 w3 ⟨rfl, q, hOq, hMq, hnq, hlq, hF3⟩
          have HQ := Lib.hid (And.intro hOq (And.intro hMq (And.intro hnq (And.intro hlq hF3))))
          clear hOq hMq hnq hlq hF3
          go_wp2_with fail
          go_roundg (l.length - (i + 1))
          case measure => have := HK.out.1; omega
          case rel =>
            obtain ⟨_, hL, hM, hF⟩ := HK.out
            obtain ⟨he, hme, hbb, hkO, hnb, hgb, hap⟩ := HE.out
            obtain ⟨hOq, hMq, hnq, hlq, hF3⟩ := HQ.out
            have hrow : putRow cur (i * 4) (feRow ⟨(kk : Int), ((kk + 1 : Nat) : Int), mkW (kk + 2), .slice A e.kids.length c⟩) = ((cur.setIfInBounds (i * 4) (.int .i64 (kk : Int))).setIfInBounds (i * 4 + 1) (.int .i64 ((kk : Int) + 1))).setIfInBounds (i * 4 + 2) (.string (bs (mkW (kk + 2)))) := by
              simp only [putRow, feRow]
              rw [set_same]
              · rfl
              · rw [Array.getElem?_setIfInBounds_ne (by omega), Array.getElem?_setIfInBounds_ne (by omega), Array.getElem?_setIfInBounds_ne (by omega)]
                exact hc3
            have hB3 : Blk w3 g 28 (putRow cur (i * 4) (feRow ⟨(kk : Int), ((kk + 1 : Nat) : Int), mkW (kk + 2), .slice A e.kids.length c⟩)) := by
              rw [hrow]
              exact (hF3.2.2.2.2 g hB2.lt hgb).trans hB2
            have hFF : Foot wr w3 (g :: b) := (hF1.more (by simp)).trans (hF3.more (by simp; exact fun x hx => .inr hx))
            refine ⟨i + 1, _, _, _, rfl, by omega, ?_, by go_num, hL.put hnd hme hbb (by have := mkW_len (n := kk + 2) (by omega); omega) hB3 hOq (fun x hx h1 h2 => hFF.2.2.2.2 x hx (by simp; exact ⟨h1, h2⟩)), ?_, hF.trans (hFF.more ?_)⟩
            · rw [ndL_succ he]
              have := HKK.out
              congr 1
              omega
            · have := hM.step he hnq (by rw [HKK.out]; exact hMq)
              rw [HKK.out] at this
              exact this
            · intro x hx
              rw [List.mem_cons] at hx ⊢
              rcases hx with rfl | hx
              · exact .inl rfl
              · exact .inr (List.mem_flatten.2 ⟨b, List.mem_of_getElem? hbb, hx⟩)
        · obtain rfl : i = l.length := by omega
          go_wp2_with fail
          go_ret
          obtain ⟨_, hL, hM, hF⟩ := HK.out
          obtain ⟨hmk, hnm⟩ := hM.all
          refine ⟨by first | rfl | (rw [List.take_length]; rfl), m, ?_, hmk, hnm, hM.1, hF⟩
          have := hL.exo (cap := cap) (by rw [hM.1]; exact HX.out.2.2.1) (by rw [hM.1]; exact hc) HX.out.2.2.2
          rw [hM.1] at this
          exact this
end Go.Proofs.YtgoobhmbfjimoaaDoor
