
/- The marks of statements: the walk; what it turns. -/
import Derived.Test.YtgfneifejafddaaGreatDoorMkX
import Derived.Test.YtgfneifejafddaaGreatDoorPrLaw
namespace Go.Proofs.YtgfneifejafddaaGreatDoor
set_option maxRecDepth 100000
set_option linter.unusedSimpArgs false
set_option linter.unusedVariables false
open Go.RowKit
attribute [local go_sem] bs_toList bs_get bs_size

theorem sm_nd (s : Sm) : ndL s.ex.kids + ndL s.th.kids ≤ s.wt := by
  have h1 := ndL_le s.ex.kids
  have h2 := ndL_le s.th.kids
  have e1 : s.ex.wt = s.ex.s.length + wtL s.ex.kids := by cases s.ex; exact Ex.wt_mk ..
  have e2 : s.th.wt = s.th.s.length + wtL s.th.kids := by cases s.th; exact Ex.wt_mk ..
  unfold Sm.wt
  omega
/-- the row i of cur turned, but for its trees' slices; the rows behind it stay -/
def RB (w : World) (g : Nat) (cur : Array Value) (i : Nat) : Prop := ∃ cur', Blk w g 55 cur' ∧ cur'.size = cur.size ∧ ∀ j, j = i * 11 + 6 ∨ j = i * 11 + 10 ∨ i * 11 + 11 ≤ j → cur'[j]? = cur[j]?
theorem RB.of {w : World} {g : Nat} {cur : Array Value} (h : Blk w g 55 cur) (i : Nat) : RB w g cur i := ⟨cur, h, rfl, fun _ _ => rfl⟩
theorem RB.set {w : World} {g : Nat} {cur : Array Value} {i : Nat} (h : RB w g cur i) (m : Nat) (v : Value) (hm : m < 11) (h6 : m ≠ 6) (h10 : m ≠ 10) : RB (w.setCell ⟨g, i * 11 + m, none⟩ v) g cur i := by
  obtain ⟨c, h1, h2, h3⟩ := h
  refine ⟨_, h1.set_ _ _, by simpa using h2, fun j hj => ?_⟩
  rw [Array.getElem?_setIfInBounds_ne (by omega)]
  exact h3 j hj
theorem RB.set0 {w : World} {g : Nat} {cur : Array Value} {i : Nat} (h : RB w g cur i) (v : Value) : RB (w.setCell ⟨g, i * 11, none⟩ v) g cur i := h.set 0 v (by omega) (by omega) (by omega)
theorem RB.to {w w' : World} {g : Nat} {cur : Array Value} {i : Nat} (h : RB w g cur i) (hk : w'.heap[g]? = w.heap[g]?) : RB w' g cur i := by
  obtain ⟨c, h1, h2, h3⟩ := h
  exact ⟨c, hk.trans h1, h2, h3⟩
theorem RB.lt {w : World} {g : Nat} {cur : Array Value} {i : Nat} (h : RB w g cur i) : g < w.heap.size := by obtain ⟨c, h1, _⟩ := h; exact h1.lt
theorem RB.ext {w w' : World} {g : Nat} {cur : Array Value} {i : Nat} (h : RB w g cur i) (hb : Ext w w') : RB w' g cur i := h.to (hb.block g h.lt)
theorem RB.fz {w : World} {g : Nat} {cur : Array Value} {i : Nat} (h : RB w g cur i) : ∀ j, w.frozen? ⟨g, j, none⟩ = false := by obtain ⟨c, h1, _⟩ := h; exact h1.frozen
theorem RB.has {w : World} {g : Nat} {cur : Array Value} {i : Nat} (h : RB w g cur i) (hs : i * 11 + 11 ≤ cur.size) (m : Nat) (hm : m < 11) : ∃ y, w.cell? ⟨g, i * 11 + m, none⟩ = some y := by
  obtain ⟨c, h1, h2, _⟩ := h
  exact ⟨_, (h1.cell _).trans (Array.getElem?_eq_getElem (by omega))⟩
theorem RB.k6 {w : World} {g : Nat} {cur : Array Value} {i : Nat} {v : Value} (h : RB w g cur i) (hv : cur[i * 11 + 6]? = some v) : w.cell? ⟨g, i * 11 + 6, none⟩ = some v := by
  obtain ⟨c, h1, h2, h3⟩ := h
  exact (h1.cell _).trans ((h3 _ (.inl rfl)).trans hv)
theorem RB.k10 {w : World} {g : Nat} {cur : Array Value} {i : Nat} {v : Value} (h : RB w g cur i) (hv : cur[i * 11 + 10]? = some v) : w.cell? ⟨g, i * 11 + 10, none⟩ = some v := by
  obtain ⟨c, h1, h2, h3⟩ := h
  exact (h1.cell _).trans ((h3 _ (.inr (.inl rfl))).trans hv)
theorem take_flat {bls : List (List Nat)} {i : Nat} {b : List Nat} (h : bls[i]? = some b) : (bls.take (i + 1)).flatten = (bls.take i).flatten ++ b := by
  obtain ⟨hi, rfl⟩ := List.getElem?_eq_some_iff.1 h
  rw [List.take_succ_eq_append_getElem hi, List.flatten_append]
  simp
/-- a block below a later part is none of the earlier parts' -/
theorem nodup_take {bls : List (List Nat)} (h : bls.flatten.Nodup) {i : Nat} {b : List Nat} (hi : bls[i]? = some b) : ∀ x ∈ b, x ∉ (bls.take i).flatten := by
  intro x hx hm
  have h1 : bls = bls.take (i + 1) ++ bls.drop (i + 1) := (List.take_append_drop _ _).symm
  rw [h1, List.flatten_append, take_flat hi, List.nodup_append, List.nodup_append] at h
  exact h.1.2.2 x hm x hx rfl

set_option maxHeartbeats 1000000 in
theorem markStmtS_any (l : List Sm) (v : Value) (g : Nat) (bls : List (List Nat)) (W : World) (k : Nat) (hO : SmO 43 W v l g bls) (hk1 : 1 ≤ k) (hk2 : k + 9 * l.length + 3 * smTo l l.length ≤ 90000000) :
    Calls Tryz.prog 15 #[v, .int .i64 (k : Int)] W fun e w' => ∃ k' : Nat, e = .returned (.int .i64 (k' : Int)) ∧ Foot W w' (g :: bls.flatten) := by
  obtain ⟨W0, hi, cap, cur, fl, rfl, hc, hm, hB, hsz, ⟨hfl, hbl, hrow, hpart, hbd, hnd⟩, hgW⟩ := hO
  have HX := Lib.hid (And.intro hk2 (And.intro hrow (And.intro hpart (And.intro hbd (And.intro hnd hgW)))))
  have HC := Lib.hid (And.intro hfl (And.intro hbl hsz))
  have hlz : l.length ≤ 90000000 := by omega
  clear hk2 hrow hpart hbd hnd hgW hfl hbl hsz
  go_enter Tryz.func15, Tryz.ntmps15
  go_wp2_with fail
  go_loopg [1, 5] l.length (fun n a b wr => ∃ (i kk : Nat) (c' : Array Value), n = l.length - i ∧ i ≤ l.length ∧ a = .int .i64 (kk : Int) ∧ b = .int .i64 i ∧ 1 ≤ kk ∧ kk ≤ k + 9 * i + 3 * smTo l i ∧ Blk wr g 55 c' ∧ c'.size = cur.size ∧ (∀ j, i * 11 ≤ j → c'[j]? = cur[j]?) ∧ Foot W wr (g :: (bls.take i).flatten))
  case atStart => exact ⟨0, k, cur, by omega, by omega, rfl, rfl, hk1, by omega, hB, rfl, fun _ _ => rfl, Foot.refl _ _⟩
  case round =>
    obtain ⟨i, kk, c', hk, hin, rfl, rfl, hkz, hkb, hB', hsz', hc', hF⟩ := hrel
    have HK := Lib.hid (And.intro hk (And.intro hkb (And.intro hB' (And.intro hsz' (And.intro hc' hF)))))
    have hfz := hB'.frozen
    clear hk hkb hB' hsz' hc' hF
    by_cases hlt : i < l.length
    · obtain ⟨s, hs⟩ : ∃ s, l[i]? = some s := ⟨_, List.getElem?_eq_getElem hlt⟩
      obtain ⟨f, hf⟩ : ∃ f, fl[i]? = some f := ⟨_, List.getElem?_eq_getElem (by have := HC.out.1; omega)⟩
      obtain ⟨b, hb⟩ : ∃ b, bls[i]? = some b := ⟨_, List.getElem?_eq_getElem (by have := HC.out.2.1; omega)⟩
      obtain ⟨_, _, _, _, _, _, _, _, _, _, _, _, _, b1, b2, rfl, ho1, ho2⟩ := HX.out.2.2.1 i f s b hf hs hb
      obtain ⟨A1, c1, e1⟩ := ho1.val
      obtain ⟨A2, c2, e2⟩ := ho2.val
      rw [e1] at ho1
      rw [e2] at ho2
      have hrw := HX.out.2.1 i f hf
      have h6 : c'[i * 11 + 6]? = some (.slice A1 s.ex.kids.length c1) := (HK.out.2.2.2.2.1 _ (by omega)).trans (hrw 6 _ (by rw [← e1]; rfl))
      have h10 : c'[i * 11 + 10]? = some (.slice A2 s.th.kids.length c2) := (HK.out.2.2.2.2.1 _ (by omega)).trans (hrw 10 _ (by rw [← e2]; rfl))
      have hszz : i * 11 + 11 ≤ c'.size := by have := HK.out.2.2.2.1; have := HC.out.2.2; omega
      have hkbb : kk + 9 + 3 * ndL s.ex.kids + 3 * ndL s.th.kids ≤ 90000000 ∧ kk + 9 + 3 * ndL s.ex.kids + 3 * ndL s.th.kids ≤ k + 9 * (i + 1) + 3 * smTo l (i + 1) := by
        have h1 := smTo_succ hs
        have h2 := smTo_le l (i + 1)
        have h3 := sm_nd s
        have h4 := HK.out.2.1
        have h5 := HX.out.1
        omega
      obtain ⟨hbm1, hbm2⟩ : (∀ x ∈ b1, x ∈ b1 ++ b2) ∧ ∀ x ∈ b2, x ∈ b1 ++ b2 := ⟨fun x hx => List.mem_append_left _ hx, fun x hx => List.mem_append_right _ hx⟩
      have hbd : ∀ x ∈ b1 ++ b2, g < x := fun x hx => by have := HX.out.2.2.2.1 x (List.mem_flatten.2 ⟨_, List.mem_of_getElem? hb, hx⟩); have := HX.out.2.2.2.2.2; omega
      have hnb : (b1 ++ b2).Nodup := (nodup_rows (g := 0) (bls := bls) (List.nodup_cons.2 ⟨fun h => by have := HX.out.2.2.2.1 0 h; omega, HX.out.2.2.2.2.1⟩) hb).1
      have hnt := nodup_take HX.out.2.2.2.2.1 hb
      have hsame : ∀ x ∈ b1 ++ b2, x < W.heap.size → wr.heap[x]? = W.heap[x]? := fun x hx hl => HK.out.2.2.2.2.2.2.2.2.2 x hl (by rw [List.mem_cons]; rintro (rfl | h); exact absurd (hbd _ hx) (by omega); exact hnt x hx h)
      have ho1' := ho1.same (fun x hx => hsame x (hbm1 x hx) (ho1.lt x hx))
      have ho2' := ho2.same (fun x hx => hsame x (hbm2 x hx) (ho2.lt x hx))
      have HE := Lib.hid (And.intro hs (And.intro hb (And.intro hbd (And.intro hnb (And.intro hkbb (And.intro ho1' (And.intro ho2' (And.intro h6 (And.intro h10 hszz)))))))))
      have hR0 := RB.of HK.out.2.2.1 i
      clear ho1 ho2 ho1' ho2' hs hb hbd hnb hnt hsame hkbb hbm1 hbm2 hrw h6 h10 hszz hf e1 e2
      have hkk : kk + 9 ≤ 90000000 := by have := HE.out.2.2.2.2.1.1; omega
      have hT : ∀ j : Nat, j ≤ 8 → ∀ w, Calls Tryz.prog 50 #[.int .i64 ((kk + j : Nat) : Int)] w fun e w' => e = .returned (.string (bs (mkW (kk + j)))) ∧ Below w.heap.size w w' := fun j hj w => markText_any (kk + j) (by omega) (by omega) w
      have HT1 := Lib.hid (hT 1 (by omega))
      have HT2 := Lib.hid (hT 2 (by omega))
      have HT5 := Lib.hid (hT 5 (by omega))
      clear hT
      rw [show ((kk + 1 : Nat) : Int) = (kk : Int) + 1 by omega] at HT1
      rw [show ((kk + 2 : Nat) : Int) = (kk : Int) + 1 + 1 by omega] at HT2
      rw [show ((kk + 5 : Nat) : Int) = (kk : Int) + 1 + 1 + 1 + 1 + 1 by omega] at HT5
      obtain ⟨y0, hy0⟩ := hR0.has HE.out.2.2.2.2.2.2.2.2.2 0 (by omega)
      rw [Nat.add_zero] at hy0
      go_wp2_with fail
      refine (HT1.out _).mono ?_
      rintro r1 w1 ⟨rfl, hb1⟩
      have hR1 := (hR0.set0 (.int .i64 (kk : Int))).ext hb1
      have hfz1 := hR1.fz
      obtain ⟨y1, hy1⟩ := hR1.has HE.out.2.2.2.2.2.2.2.2.2 1 (by omega)
      go_wp2_with fail
      refine (HT2.out _).mono ?_
      rintro r2 w2 ⟨rfl, hb2⟩
      have hR2 := (hR1.set 1 (.string (bs (mkW (kk + 1)))) (by omega) (by omega) (by omega)).ext hb2
      have hfz2 := hR2.fz
      obtain ⟨y2, hy2⟩ := hR2.has HE.out.2.2.2.2.2.2.2.2.2 2 (by omega)
      obtain ⟨y3, hy3⟩ := hR2.has HE.out.2.2.2.2.2.2.2.2.2 3 (by omega)
      obtain ⟨y4, hy4⟩ := hR2.has HE.out.2.2.2.2.2.2.2.2.2 4 (by omega)
      go_wp2_with fail
      refine (HT5.out _).mono ?_
      rintro r3 w3 ⟨rfl, hb3⟩
      have hR3 := (((hR2.set 2 (.string (bs (mkW (kk + 2)))) (by omega) (by omega) (by omega)).set 3 (.int .i64 ((kk : Int) + 1 + 1 + 1)) (by omega) (by omega) (by omega)).set 4 (.int .i64 ((kk : Int) + 1 + 1 + 1 + 1)) (by omega) (by omega) (by omega)).ext hb3
      have hfz3 := hR3.fz
      obtain ⟨y5, hy5⟩ := hR3.has HE.out.2.2.2.2.2.2.2.2.2 5 (by omega)
      have hy6 := hR3.k6 HE.out.2.2.2.2.2.2.2.1
      have hR3' := hR3.set 5 (.string (bs (mkW (kk + 5)))) (by omega) (by omega) (by omega)
      have hF3 : Foot wr (w3.setCell ⟨g, i * 11 + 5, none⟩ (.string (bs (mkW (kk + 5))))) [g] :=
        ((((((((Foot.set_ wr (by simp) _ _).trans (Foot.ext hb1)).trans (Foot.set_ _ (by simp) _ _)).trans (Foot.ext hb2)).trans (Foot.set_ _ (by simp) _ _)).trans (Foot.set_ _ (by simp) _ _)).trans (Foot.set_ _ (by simp) _ _)).trans (Foot.ext hb3)).trans (Foot.set_ _ (by simp) _ _)
      have hng : g ∉ b1 ++ b2 := fun h => by have := HE.out.2.2.1 g h; omega
      have ho1 : ExO 43 (w3.setCell ⟨g, i * 11 + 5, none⟩ (.string (bs (mkW (kk + 5))))) (.slice A1 s.ex.kids.length c1) s.ex.kids b1 :=
        HE.out.2.2.2.2.2.1.same (fun x hx => hF3.2.2.2.2 x (HE.out.2.2.2.2.2.1.lt x hx) (by simp; exact fun h => hng (h ▸ List.mem_append_left _ hx)))
      have hC1 := markExprS_n _ s.ex.kids (Nat.le_refl _) (.slice A1 s.ex.kids.length c1) b1 _ (kk + 6) ho1 (List.nodup_append.1 HE.out.2.2.2.1).1 (by omega) (by have := HE.out.2.2.2.2.1.1; omega)
      rw [show ((kk + 6 : Nat) : Int) = (kk : Int) + 1 + 1 + 1 + 1 + 1 + 1 by omega] at hC1
      have HC1 := Lib.hid hC1
      have HF3 := Lib.hid (And.intro hF3 (And.intro hng hR3'))
      clear hC1 hF3 ho1 hng hR3'
      go_wp2_with fail
      refine HC1.out.mono ?_
      rintro r4 w4 ⟨rfl, q, hOq, hMq, hnq, hlq, hF4⟩
      clear hOq hMq hnq hlq HC1
      obtain ⟨k6, hk6⟩ : ∃ k6, k6 = kk + 6 + 3 * ndL s.ex.kids := ⟨_, rfl⟩
      rw [← hk6]
      have hk6b : 1 ≤ k6 ∧ k6 + 3 + 3 * ndL s.th.kids ≤ 90000000 := by have := HE.out.2.2.2.2.1.1; omega
      have HK6 := Lib.hid (And.intro hk6 hk6b.2)
      have hk6c : k6 ≤ 80000000 + 10000000 := by omega
      have hT8 := markText_any (k6 + 2) (by omega) (by omega)
      rw [show ((k6 + 2 : Nat) : Int) = (k6 : Int) + 1 + 1 by omega] at hT8
      have HT8 := Lib.hid hT8
      clear hk6 hT8
      have hR4 : RB w4 g c' i := HF3.out.2.2.to (hF4.2.2.2.2 g HF3.out.2.2.lt (fun h => HF3.out.2.1 (List.mem_append_left _ h)))
      have hfz4 := hR4.fz
      obtain ⟨y7, hy7⟩ := hR4.has HE.out.2.2.2.2.2.2.2.2.2 7 (by omega)
      obtain ⟨y8, hy8⟩ := hR4.has HE.out.2.2.2.2.2.2.2.2.2 8 (by omega)
      have HF4 := Lib.hid hF4
      clear hF4
      go_wp2_with fail
      refine (HT8.out _).mono ?_
      rintro r5 w5 ⟨rfl, hb5⟩
      have hR5 := ((hR4.set 7 (.int .i64 (k6 : Int)) (by omega) (by omega) (by omega)).set 8 (.int .i64 ((k6 : Int) + 1)) (by omega) (by omega) (by omega)).ext hb5
      have hfz5 := hR5.fz
      obtain ⟨y9, hy9⟩ := hR5.has HE.out.2.2.2.2.2.2.2.2.2 9 (by omega)
      have hy10 := hR5.k10 HE.out.2.2.2.2.2.2.2.2.1
      have hR5' := hR5.set 9 (.string (bs (mkW (k6 + 2)))) (by omega) (by omega) (by omega)
      have hF5 : Foot w4 (w5.setCell ⟨g, i * 11 + 9, none⟩ (.string (bs (mkW (k6 + 2))))) [g] :=
        (((Foot.set_ w4 (by simp) _ _).trans (Foot.set_ _ (by simp) _ _)).trans (Foot.ext hb5)).trans (Foot.set_ _ (by simp) _ _)
      have hF05 : Foot wr (w5.setCell ⟨g, i * 11 + 9, none⟩ (.string (bs (mkW (k6 + 2))))) (g :: b1) :=
        ((HF3.out.1.more (by simp)).trans (HF4.out.more (by simp; exact fun x hx => .inr hx))).trans (hF5.more (by simp))
      have ho2 : ExO 43 (w5.setCell ⟨g, i * 11 + 9, none⟩ (.string (bs (mkW (k6 + 2))))) (.slice A2 s.th.kids.length c2) s.th.kids b2 :=
        HE.out.2.2.2.2.2.2.1.same (fun x hx => hF05.2.2.2.2 x (HE.out.2.2.2.2.2.2.1.lt x hx) (by
          rw [List.mem_cons]
          rintro (rfl | h)
          · exact HF3.out.2.1 (List.mem_append_right _ hx)
          · exact (List.nodup_append.1 HE.out.2.2.2.1).2.2 x h x hx rfl))
      have hC2 := markExprS_n _ s.th.kids (Nat.le_refl _) (.slice A2 s.th.kids.length c2) b2 _ (k6 + 3) ho2 (List.nodup_append.1 HE.out.2.2.2.1).2.1 (by omega) (by have := HK6.out.2; omega)
      rw [show ((k6 + 3 : Nat) : Int) = (k6 : Int) + 1 + 1 + 1 by omega] at hC2
      have HC2 := Lib.hid hC2
      have HF5 := Lib.hid (And.intro hF05 hR5')
      clear hC2 hF5 hF05 ho2 hR5'
      go_wp2_with fail
      refine HC2.out.mono ?_
      rintro r6 w6 ⟨rfl, q, hOq, hMq, hnq, hlq, hF6⟩
      clear hOq hMq hnq hlq HC2
      have HF6 := Lib.hid hF6
      clear hF6
      go_wp2_with fail
      go_roundg (l.length - (i + 1))
      case measure => have := HK.out.1; omega
      case rel =>
        obtain ⟨c'', hB6, hz6, hr6⟩ := HF5.out.2.to (HF6.out.2.2.2.2 g HF5.out.2.lt (fun h => HF3.out.2.1 (List.mem_append_right _ h)))
        refine ⟨i + 1, k6 + 3 + 3 * ndL s.th.kids, c'', rfl, by omega, rfl, by go_num, by omega, ?_, hB6, hz6.trans HK.out.2.2.2.1, fun j hj => (hr6 j (.inr (.inr (by omega)))).trans (HK.out.2.2.2.2.1 j (by omega)), ?_⟩
        · have h1 := HE.out.2.2.2.2.1.2
          have h2 := HK6.out.1
          omega
        · have hF : Foot wr w6 (g :: (b1 ++ b2)) := (HF5.out.1.more (by simp; exact fun x hx => .inr (.inl hx))).trans (HF6.out.more (by simp; exact fun x hx => .inr (.inr hx)))
          refine (HK.out.2.2.2.2.2.more ?_).trans (hF.more ?_)
          · intro x hx
            rw [take_flat HE.out.2.1]
            rw [List.mem_cons] at hx ⊢
            rcases hx with rfl | hx
            · exact .inl rfl
            · exact .inr (List.mem_append_left _ hx)
          · intro x hx
            rw [take_flat HE.out.2.1]
            rw [List.mem_cons] at hx ⊢
            rcases hx with rfl | hx
            · exact .inl rfl
            · exact .inr (List.mem_append_right _ hx)
    · obtain rfl : i = l.length := by omega
      go_wp2_with fail
      go_ret
      refine ⟨kk, rfl, ?_⟩
      have h := HK.out.2.2.2.2.2
      rw [List.take_of_length_le (by have := HC.out.2.1; omega)] at h
      exact h
end Go.Proofs.YtgfneifejafddaaGreatDoor
