/- Lists of statements are marked. -/
import Derived.Test.YtgakjhaepdigpaaGreatDoorMkS
import Derived.Test.YtgakjhaepdigpaaGreatDoorZr1
import Derived.Test.YtgakjhaepdigpaaGreatDoorPsT
import Derived.Test.YtgakjhaepdigpaaGreatDoorPg4
import Derived.Test.YtgakjhaepdigpaaGreatDoorZm19
namespace Go.Proofs.YtgakjhaepdigpaaGreatDoor
set_option maxRecDepth 100000
set_option linter.unusedSimpArgs false
set_option linter.unusedVariables false
open Go.RowKit
attribute [local go_sem] bs_toList bs_get bs_size

theorem PgE.put {B g i : Nat} {w w' : World} {fl : List FS} {l : List Sm} {ms : List (Nat × Nat)} {s' : Sm} {f' : FS} {mm : Nat × Nat} (h : PgE B w (some g) fl l ms) (hm : ms[i]? = some mm) (hs' : SmT mm.1 mm.2 w' (.agg (fsRow f').toArray) s') (hz : w.heap.size ≤ w'.heap.size)
    (hfr : ∀ b, b < w.heap.size → b ≠ g → (b < mm.1 ∨ mm.2 ≤ b) → w'.heap[b]? = w.heap[b]?) : PgE B w' (some g) (fl.set i f') (l.set i s') ms := by
  have hlim := h.lim
  obtain ⟨h1, h2, h3, h4, h5⟩ := h
  refine ⟨by simp [h1], by simp [h2], fun j f s m g1 g2 g3 => ?_, h4, h5⟩
  by_cases e : i = j
  · subst e
    have hi : i < ms.length := (List.getElem?_eq_some_iff.1 hm).1
    rw [List.getElem?_set_self (by omega)] at g1 g2
    rw [hm] at g3
    obtain rfl := Option.some.inj g1
    obtain rfl := Option.some.inj g2
    obtain rfl := Option.some.inj g3
    have := hlim _ (List.mem_of_getElem? hm)
    exact ⟨hs', this.1, by omega⟩
  · rw [List.getElem?_set_ne e] at g1 g2
    obtain ⟨k1, k2, k3⟩ := h3 j f s m g1 g2 g3
    refine ⟨k1.same (fun b c1 c2 => hfr b (by omega) (fun e2 => ?_) ?_), k2, by omega⟩
    · have := h5 g rfl m (List.mem_of_getElem? g3)
      omega
    · rcases Nat.lt_or_gt_of_ne e with e3 | e3
      · have := h4 i j mm m e3 hm g3
        omega
      · have := h4 j i m mm e3 g3 hm
        omega
theorem putRow11 (cur : Array Value) (n : Nat) (v0 v1 v2 v3 v4 v5 v6 v7 v8 v9 v10 : Value) : putRow cur n [v0, v1, v2, v3, v4, v5, v6, v7, v8, v9, v10] = ((((((((((cur.setIfInBounds n v0).setIfInBounds (n + 1) v1).setIfInBounds (n + 2) v2).setIfInBounds (n + 3) v3).setIfInBounds (n + 4) v4).setIfInBounds (n + 5) v5).setIfInBounds (n + 6) v6).setIfInBounds (n + 7) v7).setIfInBounds (n + 8) v8).setIfInBounds (n + 9) v9).setIfInBounds (n + 10) v10 := by
  simp only [putRow, Nat.add_assoc, Nat.reduceAdd]
/-- a marked line's row -/
theorem mkRow (cur : Array Value) (n : Nat) (kk k6 : Int) (w1 w2 w5 w8 : Bytes) (m1 m2 : List Ex) (A1 A2 : Option Addr) (c1 c2 : Nat) (hc6 : cur[n + 6]? = some (.slice A1 m1.length c1)) (hc10 : cur[n + 10]? = some (.slice A2 m2.length c2)) :
    putRow cur n (fsRow (fsOf ⟨kk, w1, w2, .mk (kk + 1 + 1 + 1) (kk + 1 + 1 + 1 + 1) w5 m1, .mk k6 (k6 + 1) w8 m2⟩ A1 A2 c1 c2)) = ((((((((cur.setIfInBounds n (.int .i64 kk)).setIfInBounds (n + 1) (.string (bs w1))).setIfInBounds (n + 2) (.string (bs w2))).setIfInBounds (n + 3) (.int .i64 (kk + 1 + 1 + 1))).setIfInBounds (n + 4) (.int .i64 (kk + 1 + 1 + 1 + 1))).setIfInBounds (n + 5) (.string (bs w5))).setIfInBounds (n + 7) (.int .i64 k6)).setIfInBounds (n + 8) (.int .i64 (k6 + 1))).setIfInBounds (n + 9) (.string (bs w8)) := by
  have e : fsRow (fsOf ⟨kk, w1, w2, .mk (kk + 1 + 1 + 1) (kk + 1 + 1 + 1 + 1) w5 m1, .mk k6 (k6 + 1) w8 m2⟩ A1 A2 c1 c2) = [.int .i64 kk, .string (bs w1), .string (bs w2), .int .i64 (kk + 1 + 1 + 1), .int .i64 (kk + 1 + 1 + 1 + 1), .string (bs w5), .slice A1 m1.length c1, .int .i64 k6, .int .i64 (k6 + 1), .string (bs w8), .slice A2 m2.length c2] := rfl
  rw [e, putRow11]
  generalize Value.int .i64 kk = v0
  generalize Value.string (bs w1) = v1
  generalize Value.string (bs w2) = v2
  generalize Value.int .i64 (kk + 1 + 1 + 1) = v3
  generalize Value.int .i64 (kk + 1 + 1 + 1 + 1) = v4
  generalize Value.string (bs w5) = v5
  generalize Value.int .i64 k6 = v7
  generalize Value.int .i64 (k6 + 1) = v8
  generalize Value.string (bs w8) = v9
  generalize Value.slice A1 m1.length c1 = v6 at *
  generalize Value.slice A2 m2.length c2 = v10 at *
  have h6 : (((((cur.setIfInBounds n v0).setIfInBounds (n + 1) v1).setIfInBounds (n + 2) v2).setIfInBounds (n + 3) v3).setIfInBounds (n + 4) v4).setIfInBounds (n + 5) v5 = ((((((cur.setIfInBounds n v0).setIfInBounds (n + 1) v1).setIfInBounds (n + 2) v2).setIfInBounds (n + 3) v3).setIfInBounds (n + 4) v4).setIfInBounds (n + 5) v5).setIfInBounds (n + 6) v6 := by
    refine (set_same ?_).symm
    rw [Array.getElem?_setIfInBounds_ne (by omega), Array.getElem?_setIfInBounds_ne (by omega), Array.getElem?_setIfInBounds_ne (by omega), Array.getElem?_setIfInBounds_ne (by omega), Array.getElem?_setIfInBounds_ne (by omega), Array.getElem?_setIfInBounds_ne (by omega)]
    exact hc6
  rw [← h6]
  refine set_same ?_
  rw [Array.getElem?_setIfInBounds_ne (by omega), Array.getElem?_setIfInBounds_ne (by omega), Array.getElem?_setIfInBounds_ne (by omega), Array.getElem?_setIfInBounds_ne (by omega), Array.getElem?_setIfInBounds_ne (by omega), Array.getElem?_setIfInBounds_ne (by omega), Array.getElem?_setIfInBounds_ne (by omega), Array.getElem?_setIfInBounds_ne (by omega), Array.getElem?_setIfInBounds_ne (by omega)]
  exact hc10
/-- a row's cells, one row of it turned -/
theorem row_put {cur : Array Value} {fl : List FS} {i : Nat} {f' : FS} (hx : ∀ (j : Nat) (f : FS), fl[j]? = some f → ∀ (o : Nat) (x : Value), (fsRow f)[o]? = some x → cur[j * 11 + o]? = some x) (hi : i < fl.length) :
    ∀ (j : Nat) (f : FS), (fl.set i f')[j]? = some f → ∀ (o : Nat) (x : Value), (fsRow f)[o]? = some x → (putRow cur (i * 11) (fsRow f'))[j * 11 + o]? = some x := by
  have hsz : i * 11 + (fsRow f').length ≤ cur.size := by
    have := hx i _ (List.getElem?_eq_getElem hi) 10 _ rfl
    have := (Array.getElem?_eq_some_iff.1 this).1
    show i * 11 + 11 ≤ cur.size
    omega
  intro j f hf o x ho
  have hol : o < 11 := (List.getElem?_eq_some_iff.1 ho).1
  rw [putRow_get _ _ _ _ hsz]
  have hlen : (fsRow f').length = 11 := rfl
  by_cases e : i = j
  · subst e
    rw [List.getElem?_set_self hi] at hf
    obtain rfl := Option.some.inj hf
    rw [if_pos (by omega), show i * 11 + o - i * 11 = o by omega]
    exact ho
  · rw [List.getElem?_set_ne e] at hf
    rw [if_neg (by omega)]
    exact hx j f hf o x ho
def MkSt (l : List Sm) (B g : Nat) (ms : List (Nat × Nat)) (w : World) (i : Nat) (wr : World) (m : List Sm) (cur : Array Value) (fl : List FS) : Prop :=
  Blk wr g 26 cur ∧ (∀ (j : Nat) (f : FS), fl[j]? = some f → ∀ (o : Nat) (x : Value), (fsRow f)[o]? = some x → cur[j * 11 + o]? = some x) ∧ PgE B wr (some g) fl m ms ∧ m.length = l.length ∧ (∀ j, i ≤ j → m[j]? = l[j]?) ∧ MarkS m i ∧ sumK (m.take i) = sumK (l.take i) ∧ Below B w wr
theorem MarkS.step {m : List Sm} {i : Nat} {s s' : Sm} (h : MarkS m i) (hs : m[i]? = some s) (hk : MkSm (1 + sumK (m.take i)) s') : MarkS (m.set i s') (i + 1) := by
  intro j t hj ht
  have hi := (List.getElem?_eq_some_iff.1 hs).1
  rw [List.take_set_of_le (by omega)]
  by_cases e : i = j
  · subst e
    rw [List.getElem?_set_self hi] at ht
    obtain rfl := Option.some.inj ht
    exact hk
  · rw [List.getElem?_set_ne e] at ht
    exact h j t (by omega) ht
set_option maxHeartbeats 8000000 in
theorem markStmtS_any (l : List Sm) (u : Value) (B : Nat) (w : World) (hP : PgO B w u l) (hk2 : sumK l ≤ 80000000) (hBw : B ≤ w.heap.size) :
    Calls Tryz.prog 48 #[u, .int .i64 1] w fun e w' => e = .returned (.int .i64 ((1 + sumK l : Nat) : Int)) ∧ (∃ m, SmS w' w'.heap.size u m ∧ MarkS m m.length ∧ sumK m = sumK l) ∧ Below B w w' := by
  obtain ⟨fl, ms, hR, hE⟩ := hP
  rcases hR with ⟨rfl, rfl⟩ | ⟨g, cap, cur, rfl, hlo, hc, hm, hB, hx⟩
  · have hl0 : l = [] := by
      have := hE.1
      exact List.length_eq_zero_iff.1 (by simpa using this.symm)
    subst hl0
    clear hE
    go_enter Tryz.func48, Tryz.ntmps48
    go_wp2_with fail
    go_loopg [1, 5] 0 (fun n a b wr => n = 0 ∧ a = .int .i64 1 ∧ b = .int .i64 0 ∧ wr = w)
    case atStart => exact ⟨rfl, rfl, rfl, rfl⟩
    case round =>
      obtain ⟨rfl, rfl, rfl, rfl⟩ := hrel
      go_wp2_with fail
      go_ret
      exact ⟨rfl, ⟨[], ⟨[], ⟨none, 0, rfl, Nat.le_refl _, by unfold maxLen; omega, fun h => absurd h (by simp)⟩, rfl, fun i f s h => by simp at h⟩, fun j s hj h => by simp at h, rfl⟩, Below.refl _ _⟩
  · have hfl := hE.1
    rw [hfl]
    have hlz : l.length ≤ 90000000 := by
      have : l.length ≤ sumK l := by
        clear hE hB hx hc hfl
        induction l with
        | nil => simp
        | cons a l ih =>
          unfold sumK at *
          simp only [List.map_cons, List.sum_cons, List.length_cons, smK] at *
          have := ih (by omega)
          omega
      omega
    have HX := Lib.hid (And.intro hk2 (And.intro hlo (And.intro hc (And.intro hm hBw))))
    have M0 : MkSt l B g ms w 0 w l cur fl := ⟨hB, hx, hE, rfl, fun _ _ => rfl, fun j s hj h => by omega, rfl, Below.refl _ _⟩
    rw [hfl] at hc
    clear hk2 hlo hB hx hE hfl hBw
    go_enter Tryz.func48, Tryz.ntmps48
    go_wp2_with fail
    go_loopg [1, 5] l.length (fun n a b wr => ∃ (i : Nat) (m : List Sm) (cur : Array Value) (fl : List FS), n = l.length - i ∧ i ≤ l.length ∧ a = .int .i64 ((1 + sumK (l.take i) : Nat) : Int) ∧ b = .int .i64 i ∧ MkSt l B g ms w i wr m cur fl)
    case atStart => exact ⟨0, l, cur, fl, by omega, by omega, by simp [sumK], rfl, M0⟩
    case round =>
      obtain ⟨i, m, cur, fl, hk, hin, rfl, rfl, hM⟩ := hrel
      have HK := Lib.hid (And.intro hk hM)
      clear hk M0
      obtain ⟨hB, hx, hE, hml, hmj, hMk, hsk, hbl⟩ := hM
      have hfl := hE.1
      have hmsl := hE.2.1
      by_cases hlt : i < l.length
      · obtain ⟨s, hs⟩ : ∃ s, m[i]? = some s := ⟨_, List.getElem?_eq_getElem (by omega)⟩
        have hsl : l[i]? = some s := by rw [← hmj i (Nat.le_refl _)]; exact hs
        obtain ⟨f, hf⟩ : ∃ f, fl[i]? = some f := ⟨_, List.getElem?_eq_getElem (by omega)⟩
        obtain ⟨mm, hmm⟩ : ∃ mm, ms[i]? = some mm := ⟨_, List.getElem?_eq_getElem (by omega)⟩
        obtain ⟨hT, hmB, hmz⟩ := hE.2.2.1 i f s mm hf hs hmm
        obtain ⟨A1, A2, c1, c2, mid, hv, hn1, hn2, ht1, ht2, hmd1, hmd2⟩ := hT
        obtain rfl : f = fsOf s A1 A2 c1 c2 := fsRow_inj (by
          have := congrArg (fun v => match v with | .agg a => a.toList | _ => []) hv
          simpa [cS, fsRow, fsOf] using this)
        obtain ⟨kv1, b1, e1, hs1, hO1, hOw1⟩ := ht1
        obtain ⟨kv2, b2, e2, hs2, hO2, hOw2⟩ := ht2
        obtain rfl : Value.slice A1 s.ex.kids.length c1 = kv1 := by simpa using e1
        obtain rfl : Value.slice A2 s.th.kids.length c2 = kv2 := by simpa using e2
        have hgm := hE.2.2.2.2 g rfl mm (List.mem_of_getElem? hmm)
        have hle := sumK_le l (i + 1)
        rw [sumK_succ hsl] at hle
        have hsm : smK s = 9 + 3 * ndL s.ex.kids + 3 * ndL s.th.kids := rfl
        have hnd : 1 + sumK (l.take i) + 9 + 3 * ndL s.ex.kids + 3 * ndL s.th.kids ≤ 80000001 := by have := HX.out.1; omega
        have hcell : ∀ (o : Nat) (x : Value), (fsRow (fsOf s A1 A2 c1 c2))[o]? = some x → wr.cell? ⟨g, i * 11 + o, none⟩ = some x := fun o x ho => (hB.cell _).trans (hx i _ hf o x ho)
        have y0 := hcell 0 _ rfl
        have y1 := hcell 1 _ rfl
        have hsz : i * 11 + 11 ≤ cur.size := by
          have := (Array.getElem?_eq_some_iff.1 (hx i _ hf 10 _ rfl)).1
          omega
        have hc6 : cur[i * 11 + 6]? = some (.slice A1 s.ex.kids.length c1) := hx i _ hf 6 _ rfl
        have hc10 : cur[i * 11 + 10]? = some (.slice A2 s.th.kids.length c2) := hx i _ hf 10 _ rfl
        have HE := Lib.hid (And.intro hE (And.intro hx (And.intro hmm (And.intro hgm (And.intro hf (And.intro hs (And.intro hsl (And.intro hmB (And.intro hmz (And.intro hmd1 hmd2))))))))))
        have HO := Lib.hid (And.intro hO1 (And.intro hOw1 (And.intro hO2 hOw2)))
        have hkz : 1 ≤ 1 + sumK (l.take i) := by omega
        have hks : 1 + sumK (l.take i) ≤ 80000001 := by omega
        have hfz := hB.frozen
        have hzw := hbl.size
        clear hle hv hs1 hs2 e1 e2 hcell hE hx hmm hgm hf hs hsl hO1 hOw1 hO2 hOw2 hmj hMk hsk hbl hn1 hn2 hmsl hfl
        simp only [Nat.add_zero] at y0
        generalize hkk : 1 + sumK (l.take i) = kk at *
        generalize hq1 : ndL s.ex.kids = n1 at *
        generalize hq2 : ndL s.th.kids = n2 at *
        have HKK := Lib.hid (And.intro hkk (And.intro hq1 (And.intro hq2 hsm)))
        clear hkk hsm
        have t1 := markText_any (kk + 1) (by omega) (by omega)
        have t2 := markText_any (kk + 2) (by omega) (by omega)
        have t5 := markText_any (kk + 5) (by omega) (by omega)
        rw [show ((kk + 1 : Nat) : Int) = (kk : Int) + 1 by omega] at t1
        rw [show ((kk + 2 : Nat) : Int) = (kk : Int) + 1 + 1 by omega] at t2
        rw [show ((kk + 5 : Nat) : Int) = (kk : Int) + 1 + 1 + 1 + 1 + 1 by omega] at t5
        have H1 := Lib.hid t1
        have H2 := Lib.hid t2
        have H5 := Lib.hid t5
        clear t1 t2 t5
        have t8 := markText_any (kk + 6 + 3 * n1 + 2) (by omega) (by omega)
        have hk6 : kk + 6 + 3 * n1 + 3 + 3 * n2 ≤ 80000001 := by omega
        have C1 := Lib.hid (fun (V : World) (h : ExO 24 V (.slice A1 s.ex.kids.length c1) s.ex.kids b1) => markExprS_n _ s.ex.kids (Nat.le_refl _) (.slice A1 s.ex.kids.length c1) b1 V (kk + 6) h HO.out.2.1.2 (by omega) (by omega))
        rw [hq1, show ((kk + 6 : Nat) : Int) = (kk : Int) + 1 + 1 + 1 + 1 + 1 + 1 by omega] at C1
        generalize hq6 : kk + 6 + 3 * n1 = k6 at *
        have C2 := Lib.hid (fun (V : World) (h : ExO 24 V (.slice A2 s.th.kids.length c2) s.th.kids b2) => markExprS_n _ s.th.kids (Nat.le_refl _) (.slice A2 s.th.kids.length c2) b2 V (k6 + 3) h HO.out.2.2.2.2 (by omega) (by omega))
        rw [hq2, show ((k6 + 3 : Nat) : Int) = (k6 : Int) + 1 + 1 + 1 by omega] at C2
        rw [show ((k6 + 2 : Nat) : Int) = (k6 : Int) + 1 + 1 by omega] at t8
        have H8 := Lib.hid t8
        have HQ6 := Lib.hid hq6
        have HND := Lib.hid hnd
        clear t8 hq6 hq1 hq2 hnd
        go_wp2_with fail
        refine (H1.out _).mono ?_
        rintro r w1 ⟨rfl, hb1⟩
        have hB1 := (hB.set_ (i * 11) (.int .i64 (kk : Int))).below hb1 (hB.set_ _ _).lt
        have F1 : Foot wr w1 [g] := (Foot.set_ wr (by simp) _ _).trans (Foot.ext hb1)
        have HF1 := Lib.hid F1
        clear hb1 hfz y0 y1 F1
        have hfz := hB1.frozen
        obtain ⟨z1, y1⟩ : ∃ y, (w1).cell? ⟨g, i * 11 + 1, none⟩ = some y := ⟨_, ((hB1).cell _).trans (Array.getElem?_eq_getElem (by simp; omega))⟩
        go_wp2_with fail
        refine (H2.out _).mono ?_
        rintro r w2 ⟨rfl, hb2⟩
        have hB2 := (hB1.set_ (i * 11 + 1) (.string (bs (mkW (kk + 1))))).below hb2 (hB1.set_ _ _).lt
        have F2 : Foot wr w2 [g] := (HF1.out.trans (Foot.set_ w1 (by simp) _ _)).trans (Foot.ext hb2)
        have HF2 := Lib.hid F2
        clear hb2 hfz y1 F2
        have hfz := hB2.frozen
        obtain ⟨z2, y2⟩ : ∃ y, (w2).cell? ⟨g, i * 11 + 2, none⟩ = some y := ⟨_, ((hB2).cell _).trans (Array.getElem?_eq_getElem (by simp; omega))⟩
        obtain ⟨z3, y3⟩ : ∃ y, (w2).cell? ⟨g, i * 11 + 3, none⟩ = some y := ⟨_, ((hB2).cell _).trans (Array.getElem?_eq_getElem (by simp; omega))⟩
        obtain ⟨z4, y4⟩ : ∃ y, (w2).cell? ⟨g, i * 11 + 4, none⟩ = some y := ⟨_, ((hB2).cell _).trans (Array.getElem?_eq_getElem (by simp; omega))⟩
        go_wp2_with fail
        refine (H5.out _).mono ?_
        rintro r w3 ⟨rfl, hb3⟩
        have hB3 := (((hB2.set_ (i * 11 + 2) (.string (bs (mkW (kk + 2))))).set_ (i * 11 + 3) (.int .i64 ((kk : Int) + 1 + 1 + 1))).set_ (i * 11 + 4) (.int .i64 ((kk : Int) + 1 + 1 + 1 + 1))).below hb3 (((hB2.set_ _ _).set_ _ _).set_ _ _).lt
        have F3 : Foot wr w3 [g] := (((HF2.out.trans (Foot.set_ w2 (by simp) _ _)).trans (Foot.set_ _ (by simp) _ _)).trans (Foot.set_ _ (by simp) _ _)).trans (Foot.ext hb3)
        clear hb3 hfz y2 y3 y4
        have hfz := hB3.frozen
        obtain ⟨z5, y5⟩ : ∃ y, (w3).cell? ⟨g, i * 11 + 5, none⟩ = some y := ⟨_, ((hB3).cell _).trans (Array.getElem?_eq_getElem (by simp; omega))⟩
        have y6 : w3.cell? ⟨g, i * 11 + 6, none⟩ = some (.slice A1 s.ex.kids.length c1) := (hB3.cell _).trans (by
          rw [Array.getElem?_setIfInBounds_ne (by omega), Array.getElem?_setIfInBounds_ne (by omega), Array.getElem?_setIfInBounds_ne (by omega), Array.getElem?_setIfInBounds_ne (by omega), Array.getElem?_setIfInBounds_ne (by omega)]
          exact hc6)
        have FV1 : Foot wr (w3.setCell ⟨g, i * 11 + 5, none⟩ (.string (bs (mkW (kk + 5))))) [g] := F3.trans (Foot.set_ w3 (by simp) _ _)
        have hB3' := hB3.set_ (i * 11 + 5) (.string (bs (mkW (kk + 5))))
        have hOV1 := HO.out.1.same (w' := w3.setCell ⟨g, i * 11 + 5, none⟩ (.string (bs (mkW (kk + 5))))) (fun x hx => FV1.2.2.2.2 x (HO.out.1.lt x hx) (by
          simp only [List.mem_singleton]
          have h1 := HO.out.2.1.1 x hx
          have h2 := HE.out.2.2.2.1
          have h3 := HE.out.2.2.2.2.2.2.2.2.2
          omega))
        have HV1 := Lib.hid (And.intro FV1 hB3')
        have CC1 := Lib.hid (C1.out _ hOV1)
        clear F3 FV1 hOV1 C1 hB3'
        go_wp2_with fail
        refine CC1.out.mono ?_
        rintro r w4 ⟨rfl, m1, hOm1, hMk1, hnm1, hlm1, hFm1⟩
        have hgb1 : g ∉ b1 := fun hx => by
          have h1 := HO.out.2.1.1 g hx
          have h2 := HE.out.2.2.2.1
          have h3 := HE.out.2.2.2.2.2.2.2.2.2
          omega
        have hB4 := HV1.out.2.footZ hFm1 hgb1
        have F4 : Foot wr w4 (g :: b1) := (HV1.out.1.more (by simp)).trans (hFm1.more (by simp; exact fun x hx => .inr hx))
        have HM1 := Lib.hid (And.intro hOm1 (And.intro hMk1 (And.intro hnm1 hlm1)))
        clear hOm1 hMk1 hnm1 hlm1 hFm1 hfz y5 y6 CC1 hgb1
        have hfz := hB4.frozen
        obtain ⟨z7, y7⟩ : ∃ y, (w4).cell? ⟨g, i * 11 + 7, none⟩ = some y := ⟨_, ((hB4).cell _).trans (Array.getElem?_eq_getElem (by simp; omega))⟩
        obtain ⟨z8, y8⟩ : ∃ y, (w4).cell? ⟨g, i * 11 + 8, none⟩ = some y := ⟨_, ((hB4).cell _).trans (Array.getElem?_eq_getElem (by simp; omega))⟩
        go_wp2_with fail
        refine (H8.out _).mono ?_
        rintro r w5 ⟨rfl, hb5⟩
        have hB5 := ((hB4.set_ (i * 11 + 7) (.int .i64 (k6 : Int))).set_ (i * 11 + 8) (.int .i64 ((k6 : Int) + 1))).below hb5 ((hB4.set_ _ _).set_ _ _).lt
        have F45 : Foot w4 w5 [g] := ((Foot.set_ w4 (by simp) _ _).trans (Foot.set_ _ (by simp) _ _)).trans (Foot.ext hb5)
        clear hb5 hfz y7 y8
        have hfz := hB5.frozen
        obtain ⟨z9, y9⟩ : ∃ y, (w5).cell? ⟨g, i * 11 + 9, none⟩ = some y := ⟨_, ((hB5).cell _).trans (Array.getElem?_eq_getElem (by simp; omega))⟩
        have y10 : w5.cell? ⟨g, i * 11 + 10, none⟩ = some (.slice A2 s.th.kids.length c2) := (hB5.cell _).trans (by
          rw [Array.getElem?_setIfInBounds_ne (by omega), Array.getElem?_setIfInBounds_ne (by omega), Array.getElem?_setIfInBounds_ne (by omega), Array.getElem?_setIfInBounds_ne (by omega), Array.getElem?_setIfInBounds_ne (by omega), Array.getElem?_setIfInBounds_ne (by omega), Array.getElem?_setIfInBounds_ne (by omega), Array.getElem?_setIfInBounds_ne (by omega)]
          exact hc10)
        have FV2 : Foot w4 (w5.setCell ⟨g, i * 11 + 9, none⟩ (.string (bs (mkW (k6 + 2))))) [g] := F45.trans (Foot.set_ w5 (by simp) _ _)
        have hB5' := hB5.set_ (i * 11 + 9) (.string (bs (mkW (k6 + 2))))
        have FVW : Foot wr (w5.setCell ⟨g, i * 11 + 9, none⟩ (.string (bs (mkW (k6 + 2))))) (g :: b1) := F4.trans (FV2.more (by simp))
        have hOV2 := HO.out.2.2.1.same (w' := w5.setCell ⟨g, i * 11 + 9, none⟩ (.string (bs (mkW (k6 + 2))))) (fun x hx => FVW.2.2.2.2 x (HO.out.2.2.1.lt x hx) (by
          simp only [List.mem_cons, not_or]
          have h1 := HO.out.2.2.2.1 x hx
          have h2 := HE.out.2.2.2.1
          have h3 := HE.out.2.2.2.2.2.2.2.2.2
          refine ⟨by omega, fun hm => ?_⟩
          have := HO.out.2.1.1 x hm
          omega))
        have HV2 := Lib.hid (And.intro FV2 (And.intro FVW hB5'))
        have CC2 := Lib.hid (C2.out _ hOV2)
        clear F45 FV2 FVW hOV2 C2 hB5' F4
        go_wp2_with fail
        refine CC2.out.mono ?_
        rintro r w6 ⟨rfl, m2, hOm2, hMk2, hnm2, hlm2, hFm2⟩
        have HM2 := Lib.hid (And.intro hOm2 (And.intro hMk2 (And.intro hnm2 (And.intro hlm2 hFm2))))
        clear hOm2 hMk2 hnm2 hlm2 hFm2 CC2
        go_wp2_with fail
        go_roundg (l.length - (i + 1))
        case measure => have := HK.out.1; omega
        case rel =>
          obtain ⟨_, hM⟩ := HK.out
          obtain ⟨hB0, _, hE0, hml, hmj, hMk, hsk, hbl⟩ := hM
          obtain ⟨hE, hx, hmm, hgm, hf, hs, hsl, hmB, hmz, hmd1, hmd2⟩ := HE.out
          obtain ⟨hO1, hOw1, hO2, hOw2⟩ := HO.out
          obtain ⟨hOm1, hMk1, hnm1, hlm1⟩ := HM1.out
          obtain ⟨hOm2, hMk2, hnm2, hlm2, hFm2⟩ := HM2.out
          obtain ⟨FV2, FVW, hB5'⟩ := HV2.out
          obtain ⟨hkk, hq1, hq2, hsm⟩ := HKK.out
          have hk6 := HQ6.out
          have hgb2 : g ∉ b2 := fun hx => by have := hOw2.1 g hx; omega
          have hB6 := hB5'.footZ hFm2 hgb2
          have F46 : Foot w4 w6 (g :: b2) := (FV2.more (by simp)).trans (hFm2.more (by simp; exact fun x hx => .inr hx))
          have F6 : Foot wr w6 (g :: (b1 ++ b2)) := (FVW.more (fun x hx => by rcases List.mem_cons.1 hx with h | h <;> simp [h])).trans (hFm2.more (by simp; exact fun x hx => .inr (.inr hx)))
          have hOm1' := hOm1.same (w' := w6) (fun x hx => F46.2.2.2.2 x (hOm1.lt x hx) (by
            simp only [List.mem_cons, not_or]
            have h1 := hOw1.1 x hx
            refine ⟨by omega, fun hm => ?_⟩
            have := hOw2.1 x hm
            omega))
          rw [← hlm1] at hOm1' hc6
          rw [← hlm2] at hOm2 hc10
          have hs' : MkSm kk ⟨(kk : Int), mkW (kk + 1), mkW (kk + 2), .mk ((kk : Int) + 1 + 1 + 1) ((kk : Int) + 1 + 1 + 1 + 1) (mkW (kk + 5)) m1, .mk (k6 : Int) ((k6 : Int) + 1) (mkW (k6 + 2)) m2⟩ := by
            have e6 : kk + 6 + 3 * ndL m1 = k6 := by omega
            refine ⟨rfl, rfl, rfl, by simp only [Ex.kind]; omega, by simp only [Ex.n]; omega, rfl, hMk1, ?_, ?_, ?_, ?_⟩
            · simp only [Ex.kind, Ex.kids]; rw [e6]
            · simp only [Ex.n, Ex.kids]; rw [e6]; omega
            · simp only [Ex.s, Ex.kids]; rw [e6]
            · simp only [Ex.kids]; rw [e6]; exact hMk2
          have hsum : smK ⟨(kk : Int), mkW (kk + 1), mkW (kk + 2), .mk ((kk : Int) + 1 + 1 + 1) ((kk : Int) + 1 + 1 + 1 + 1) (mkW (kk + 5)) m1, .mk (k6 : Int) ((k6 : Int) + 1) (mkW (k6 + 2)) m2⟩ = smK s := by
            rw [hsm]
            show 9 + 3 * ndL m1 + 3 * ndL m2 = _
            omega
          have hT' : SmT mm.1 mm.2 w6 (.agg (fsRow (fsOf ⟨(kk : Int), mkW (kk + 1), mkW (kk + 2), .mk ((kk : Int) + 1 + 1 + 1) ((kk : Int) + 1 + 1 + 1 + 1) (mkW (kk + 5)) m1, .mk (k6 : Int) ((k6 : Int) + 1) (mkW (k6 + 2)) m2⟩ A1 A2 c1 c2)).toArray) ⟨(kk : Int), mkW (kk + 1), mkW (kk + 2), .mk ((kk : Int) + 1 + 1 + 1) ((kk : Int) + 1 + 1 + 1 + 1) (mkW (kk + 5)) m1, .mk (k6 : Int) ((k6 : Int) + 1) (mkW (k6 + 2)) m2⟩ :=
            ⟨A1, A2, c1, c2, mid, rfl, by have := mkW_len (n := kk + 1) (by omega); simp only; omega, by have := mkW_len (n := kk + 2) (by omega); simp only; omega,
              ⟨_, b1, rfl, by have := mkW_len (n := kk + 5) (by omega); simp only [Ex.s]; omega, hOm1', hOw1⟩, ⟨_, b2, rfl, by have := mkW_len (n := k6 + 2) (by omega); simp only [Ex.s]; omega, hOm2, hOw2⟩, hmd1, hmd2⟩
          have hrow := mkRow cur (i * 11) (kk : Int) (k6 : Int) (mkW (kk + 1)) (mkW (kk + 2)) (mkW (kk + 5)) (mkW (k6 + 2)) m1 m2 A1 A2 c1 c2 hc6 hc10
          rw [← hrow] at hB6
          refine ⟨i + 1, m.set i _, _, fl.set i _, rfl, by omega, ?_, by go_num, hB6, row_put hx (List.getElem?_eq_some_iff.1 hf).1, hE.put hmm hT' F6.2.2.2.1 (fun b hb hbg hbm => F6.2.2.2.2 b hb (by
              simp only [List.mem_cons, List.mem_append, not_or]
              refine ⟨hbg, fun h => ?_, fun h => ?_⟩
              · have := hOw1.1 b h; omega
              · have := hOw2.1 b h; omega)), by simp [hml], fun j hj => ?_, hMk.step hs ?_, ?_, ?_⟩
          · rw [sumK_succ hsl]
            have hval : k6 + 3 + 3 * n2 = 1 + (sumK (l.take i) + smK s) := by omega
            exact congrArg (fun z : Nat => Value.int .i64 (z : Int)) hval
          · rw [List.getElem?_set_ne (by omega)]
            exact hmj j (by omega)
          · rw [hsk, hkk]
            exact hs'
          · have hil := (List.getElem?_eq_some_iff.1 hs).1
            rw [sumK_succ (List.getElem?_set_self hil), sumK_succ hsl, hsum, List.take_set_of_le (Nat.le_refl _), hsk]
          · exact hbl.trans (F6.below (fun x hx => by
              simp only [List.mem_cons, List.mem_append] at hx
              have := HX.out.2.1
              rcases hx with rfl | hx | hx
              · omega
              · have := hOw1.1 x hx; omega
              · have := hOw2.1 x hx; omega) (by have := hbl.size; have := HX.out.2.2.2.2; omega))
      · obtain rfl : i = l.length := by omega
        have hml2 : m.length = l.length := hml
        obtain ⟨hc', hm'⟩ : l.length ≤ cap ∧ cap ≤ maxLen := ⟨hc, hm⟩
        have HZ := Lib.hid (And.intro hE (And.intro hMk (And.intro hsk (And.intro hbl (And.intro hml2 (And.intro hfl (And.intro hx hB)))))))
        clear hE hMk hsk hbl hml hx hB hmj
        go_wp2_with fail
        go_ret
        obtain ⟨hE, hMk, hsk, hbl, hml2, hfl, hx, hB⟩ := HZ.out
        have hP : PgO B wr (.slice (some ⟨g, 0, none⟩) l.length cap) m := ⟨fl, ms, .inr ⟨g, cap, cur, by rw [hfl, hml2], HX.out.2.1, by omega, hm', hB, hx⟩, hE⟩
        refine ⟨by rw [List.take_length]; rfl, ⟨m, hP.sms, by rw [hml2]; exact hMk, ?_⟩, hbl⟩
        rw [List.take_length, List.take_of_length_le (by omega)] at hsk
        exact hsk
end Go.Proofs.YtgakjhaepdigpaaGreatDoor


/- How many parts a line that is read has. No program in sight. -/
namespace Go.Proofs.YtgakjhaepdigpaaGreatDoor
set_option maxRecDepth 100000
set_option linter.unusedSimpArgs false
set_option linter.unusedVariables false
open Go.RowKit

theorem nd_okR {e : E} (h : e.Ok) : ndL e.ex.kids ≤ 100000 := by
  have h1 := ex_nd e
  have h2 := h.2.2
  rw [← Ex.nd_kids]
  omega
theorem rdSm_ndR (line : Bytes) : ndL (rdSm line).ex.kids + ndL (rdSm line).th.kids ≤ 1048576 := by
  cases hr : rdS line with
  | none =>
    have : rdSm line = SE.none.sm := by unfold rdSm; rw [hr]
    rw [this]
    decide
  | some t =>
    have h1 := (rdS_iff.1 hr).1.1
    have : rdSm line = t.sm := by unfold rdSm; rw [hr]
    rw [this]
    rcases t.words_head with ⟨rfl, _⟩ | ⟨nm, ty, e, rfl⟩ | ⟨e, rfl⟩ | ⟨a, b, rfl⟩
    · decide
    · have := nd_okR (e := e) h1.2
      show ndL e.ex.kids + ndL [] ≤ 1048576
      have h0 : ndL [] = 0 := rfl
      omega
    · have := nd_okR (e := e) h1
      show ndL e.ex.kids + ndL [] ≤ 1048576
      have h0 : ndL [] = 0 := rfl
      omega
    · have := nd_okR (e := a) h1.1
      have := nd_okR (e := b) h1.2
      show ndL a.ex.kids + ndL b.ex.kids ≤ 1048576
      omega
end Go.Proofs.YtgakjhaepdigpaaGreatDoor


/- The law FnExactProgRead: for all arguments it answers true. -/
namespace Go.Proofs.YtgakjhaepdigpaaGreatDoor
set_option maxRecDepth 100000
set_option linter.unusedSimpArgs false
set_option linter.unusedVariables false
open Go.RowKit
attribute [local go_sem] bs_toList bs_get bs_size

theorem sumK_all (n : Nat) : ∀ l : List Sm, (∀ s ∈ l, smK s ≤ n) → sumK l ≤ l.length * n
  | [], _ => by simp [sumK]
  | s :: l, h => by
    have h1 := h s (by simp)
    have h2 := sumK_all n l (fun x hx => h x (by simp [hx]))
    have h3 : sumK (s :: l) = smK s + sumK l := by simp [sumK]
    rw [h3, List.length_cons, Nat.add_mul]
    omega
theorem rdPs_sum (t : Bytes) : sumK (rdPs t) ≤ 80000000 := by
  cases h : rdPOk t
  · rw [rdPs_no h]
    simp [sumK]
  · have h0 := (rdP_back h).1
    have hl : (rdPs t).length ≤ 16 := prOk_len h0
    have h1 := sumK_all 3145737 (rdPs t) (fun s hs => by
      unfold rdPs at hs
      rw [if_pos h] at hs
      obtain ⟨y, _, rfl⟩ := List.mem_map.1 hs
      have := rdSm_ndR y
      unfold smK
      omega)
    have h2 : (rdPs t).length * 3145737 ≤ 16 * 3145737 := Nat.mul_le_mul_right _ hl
    omega
set_option maxHeartbeats 4000000 in
theorem lawProgRead (W : World) (t : Bytes) (hM : MaxM W) (hE : EnvA W) : Calls Tryz.prog 9 #[.string (bs t)] W fun e w' => e = .returned (.bool true) ∧ Below W.heap.size W w' := by
  by_cases h1 : t.length ≤ 1048576
  rotate_left
  · have hd : decide ((1048576 : Int) < ((t.length : Nat) : Int)) = true := by rw [decide_eq_true_eq]; omega
    clear hE hM
    go_enter Tryz.func9, Tryz.ntmps9
    go_wp2_with fail
    go_ret
    exact ⟨rfl, Below.refl _ _⟩
  have hd : decide ((1048576 : Int) < ((t.length : Nat) : Int)) = false := by rw [decide_eq_false_iff_not]; omega
  have CS := Lib.hid (spProgRead_any t W (by omega))
  have CI := Lib.hid (fun (w' : World) (h : Below W.heap.size W w') => imProgRead_any t w' (by omega) (hM.ext h) (hE.ext h))
  unfold RpA at CS CI
  have hsum := rdPs_sum t
  generalize rdPs t = l at *
  generalize rdPOk t = ok at *
  have hoo : (ok != ok) = false := by cases ok <;> rfl
  clear hE hM
  go_enter Tryz.func9, Tryz.ntmps9
  go_wp2_with fail
  refine CS.out.mono ?_
  rintro r w2 ⟨u2, rfl, hP2, hb2⟩
  have hS2 := hP2.sms
  obtain ⟨A2, n2, c2, rfl⟩ := hP2.slv
  have hz2 := hb2.size
  clear hP2 CS
  go_wp2_with fail
  refine (CI.out _ hb2).mono ?_
  rintro r w3 ⟨u3, rfl, hP3, hb3⟩
  have hW3 := hb2.ext hb3
  have hz3 := hb3.size
  obtain ⟨A3, n3, c3, rfl⟩ := hP3.slv
  have EQ := Lib.hid (eqStmtS_any l l _ _ w3 hP3.sms (hS2.ext hb3))
  rw [decide_eq_true (rfl : l = l)] at EQ
  have HS2 := Lib.hid hS2
  have HP3 := Lib.hid hP3
  clear hP3 hS2
  go_wp2_with fail
  refine EQ.out.mono ?_
  rintro r w4 ⟨rfl, hb4⟩
  have MK := Lib.hid (markStmtS_any l _ w2.heap.size w4 (HP3.out.ext hb4) hsum (by have := hb4.size; omega))
  clear EQ
  go_wp2_with fail
  refine MK.out.mono ?_
  rintro r w5 ⟨rfl, ⟨m, hSm, hMm, hsm⟩, hb5⟩
  have hb25 : Below w2.heap.size w2 w5 := (hb3.ext hb4).trans hb5
  have hW5 : Below W.heap.size W w5 := hb2.trans (hb25.mono hz2)
  have hz5 := hb25.size
  have HD := Lib.hid (fun (w' : World) (h : Below w5.heap.size w5 w') => heldStmtS_any m _ w' (hSm.ext h) hMm (by rw [hsm]; exact hsum))
  rw [hsm] at HD
  have hS5 : SmS w5 w5.heap.size (.slice A2 n2 c2) l := (HS2.out.keep hb25 (Nat.le_refl _)).more hz5
  have hn1 : ¬ ((1 + sumK l : Nat) : Int) < 0 := by omega
  have HS5 := Lib.hid hS5
  clear hSm hMm hsm hS5 MK HP3 HS2 hsum
  generalize 1 + sumK l = kk at *
  have hkk : ((kk : Int) != (kk : Int)) = false := by simp
  go_wp2_with fail
  refine (HD.out _ (Below.refl _ _)).mono ?_
  rintro r w6 ⟨rfl, hb6⟩
  have hW6 := hW5.ext hb6
  go_wp2_with fail
  refine (CI.out _ hW6).mono ?_
  rintro r w7 ⟨u7, rfl, hP7, hb7⟩
  have hb57 := hb6.ext hb7
  have hW7 := hW6.ext hb7
  obtain ⟨A7, n7, c7, rfl⟩ := hP7.slv
  have EQ := Lib.hid (eqStmtS_any l l _ _ w7 hP7.sms (HS5.out.ext hb57))
  rw [decide_eq_true (rfl : l = l)] at EQ
  clear hP7 CI
  go_wp2_with fail
  refine EQ.out.mono ?_
  rintro r w8 ⟨rfl, hb8⟩
  have hb58 := hb57.ext hb8
  go_wp2_with fail
  refine (HD.out _ hb58).mono ?_
  rintro r w9 ⟨rfl, hb9⟩
  go_wp2_with fail
  go_ret
  exact ⟨rfl, hW5.ext (hb58.ext hb9)⟩
end Go.Proofs.YtgakjhaepdigpaaGreatDoor
