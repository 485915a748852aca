
/- Statements one after the other in the laws' own hands: how much they hold, their copies, their equality. -/
import Derived.Test.YtgfneifejafddaaGreatDoorStLaw
import Derived.Test.YtgfneifejafddaaGreatDoorSmAt
namespace Go.Proofs.YtgfneifejafddaaGreatDoor
set_option maxRecDepth 100000
set_option linter.unusedSimpArgs false
set_option linter.unusedVariables false
open Go.RowKit
attribute [local go_sem] bs_toList bs_get bs_size

def smTo (l : List Sm) (i : Nat) : Nat := ((l.take i).map Sm.wt).sum
def smWt (l : List Sm) : Nat := l.length + smTo l l.length
theorem smTo_zero (l : List Sm) : smTo l 0 = 0 := by simp [smTo]
theorem smTo_succ {l : List Sm} {i : Nat} {e : Sm} (h : l[i]? = some e) : smTo l (i + 1) = smTo l i + e.wt := by
  have hi := (List.getElem?_eq_some_iff.1 h).1
  have he : l[i] = e := by rw [List.getElem?_eq_getElem hi] at h; exact Option.some.inj h
  unfold smTo
  rw [List.take_succ_eq_append_getElem hi, List.map_append, List.sum_append, he]
  simp
theorem smTo_le (l : List Sm) : ∀ i, smTo l i ≤ smTo l l.length := by
  intro i
  unfold smTo
  rw [List.take_length]
  have h : (l.take i ++ l.drop i) = l := List.take_append_drop i l
  have h2 := congrArg (fun l => (l.map Sm.wt).sum) h
  simp only [List.map_append, List.sum_append] at h2
  omega
theorem szStmtS_any (l : List Sm) (v : Value) (W : World) (n : Int) (h0 : 0 ≤ n) (h1 : n ≤ 10000000) (hv : SmS W W.heap.size v l) :
    Calls Tryz.prog 9 #[v, .int .i64 n] W fun r w' => r = .returned (.int .i64 (szOut n (smWt l))) ∧ Below W.heap.size W w' := by
  obtain ⟨A, c, rfl, hc, hm⟩ := hv.val
  by_cases hneg : n - (l.length : Int) < 0
  · have hr : szOut n (smWt l) = -1 := szOut_no (by unfold smWt; omega)
    have HR := Lib.hid hr
    clear hr
    go_enter Tryz.func9, Tryz.ntmps9
    go_wp2_with fail
    go_ret
    exact ⟨ret_int HR.out.symm, Below.refl _ _⟩
  · have HA := Lib.hid (show smWt l = l.length + smTo l l.length from rfl)
    go_enter Tryz.func9, Tryz.ntmps9
    go_wp2_with fail
    go_loopg [1, 5] l.length (fun k a i wr => ∃ j : Nat, k = l.length - j ∧ j ≤ l.length ∧ i = .int .i64 j ∧ a = .int .i64 (n - l.length - smTo l j) ∧ 0 ≤ n - l.length - (smTo l j : Int) ∧ Below W.heap.size W wr)
    case atStart => exact ⟨0, by omega, by omega, rfl, by rw [smTo_zero]; simp, by rw [smTo_zero]; omega, Below.refl _ _⟩
    case round =>
      obtain ⟨j, hk2, hj, rfl, rfl, hpos, hbl⟩ := hrel
      have HK := Lib.hid hk2
      clear hk2
      by_cases hlt : j < l.length
      · obtain ⟨b, o, s, A1, A2, c1, c2, rfl, hb, hg, hS, f0, f1, f2, f3, f4, f5, f6, f7, f8, f9, f10⟩ := sm_at2 hv hlt
        have g0 := f0 ⟨wr, hbl⟩; have g1 := f1 ⟨wr, hbl⟩; have g2 := f2 ⟨wr, hbl⟩; have g3 := f3 ⟨wr, hbl⟩; have g4 := f4 ⟨wr, hbl⟩; have g5 := f5 ⟨wr, hbl⟩; have g6 := f6 ⟨wr, hbl⟩; have g7 := f7 ⟨wr, hbl⟩; have g8 := f8 ⟨wr, hbl⟩; have g9 := f9 ⟨wr, hbl⟩; have g10 := f10 ⟨wr, hbl⟩
        have HG := Lib.hid (And.intro hg (smTo_succ hg))
        have hcall := szStmt_any s _ wr (n - l.length - smTo l j) hpos (by omega) ((hS.keep hbl (Nat.le_refl _)).more hbl.size)
        clear f0 f1 f2 f3 f4 f5 f6 f7 f8 f9 f10 hg hS
        by_cases h2 : n - l.length - (smTo l j : Int) - (s.wt : Int) < 0
        · have e2 : szOut (n - l.length - smTo l j) s.wt = -1 := szOut_no (by omega)
          rw [e2] at hcall
          have HC := Lib.hid hcall
          clear hcall e2
          go_wp2_with fail
          refine HC.out.mono ?_
          rintro e w1 ⟨rfl, hb1⟩
          go_wp2_with fail
          go_ret
          refine ⟨ret_int (Eq.symm (szOut_no ?_)), hbl.ext hb1⟩
          have h3 := HG.out.2
          have h4 := smTo_le l (j + 1)
          have h5 := HA.out
          omega
        · have e2 : szOut (n - l.length - smTo l j) s.wt = n - l.length - smTo l j - s.wt := szOut_yes (by omega)
          rw [e2] at hcall
          have HC := Lib.hid hcall
          clear hcall e2
          go_wp2_with fail
          refine HC.out.mono ?_
          rintro e w1 ⟨rfl, hb1⟩
          go_wp2_with fail
          go_roundg (l.length - (j + 1))
          case measure => have := HK.out; omega
          case rel => exact ⟨j + 1, rfl, by omega, by go_num, by rw [HG.out.2]; congr 1; omega, by rw [HG.out.2]; omega, hbl.ext hb1⟩
      · obtain rfl : j = l.length := by omega
        go_wp2_with fail
        go_ret
        refine ⟨ret_int (Eq.symm ?_), hbl⟩
        rw [HA.out, szOut_yes (by omega)]
        omega
/-! ### copies -/
/-- the first j statements of l lie in cur, their trees in blocks of the call's own, apart, from W0 on, below hi -/
def StsTo (t : TypeId) (w : World) (W0 hi : Nat) (cur : Array Value) (l : List Sm) (j : Nat) (fl : List FS) (bls : List (List Nat)) : Prop :=
  fl.length = j ∧ bls.length = j ∧ (∀ (i : Nat) (f : FS), fl[i]? = some f → ∀ (k : Nat) (x : Value), (fsRow f)[k]? = some x → cur[i * 11 + k]? = some x) ∧
    (∀ (i : Nat) (f : FS) (s : Sm) (b : List Nat), fl[i]? = some f → l[i]? = some s → bls[i]? = some b → f.kind = s.kind ∧ f.name = s.name ∧ f.typ = s.typ ∧ f.k1 = s.ex.kind ∧ f.n1 = s.ex.n ∧ f.s1 = s.ex.s ∧ f.k2 = s.th.kind ∧ f.n2 = s.th.n ∧ f.s2 = s.th.s ∧
      f.name.length ≤ 9223372036854775807 ∧ f.typ.length ≤ 9223372036854775807 ∧ f.s1.length ≤ 9223372036854775807 ∧ f.s2.length ≤ 9223372036854775807 ∧ ∃ b1 b2, b = b1 ++ b2 ∧ ExO t w f.v1 s.ex.kids b1 ∧ ExO t w f.v2 s.th.kids b2) ∧
    (∀ x ∈ bls.flatten, W0 < x ∧ x < hi) ∧ bls.flatten.Nodup
theorem StsTo.zero (t : TypeId) (w : World) (W0 hi : Nat) (cur : Array Value) (l : List Sm) : StsTo t w W0 hi cur l 0 [] [] := ⟨rfl, rfl, fun i f h => by simp at h, fun i f s b h => by simp at h, fun x h => by simp at h, by simp⟩
theorem StsTo.keep {t : TypeId} {w w' : World} {W0 hi : Nat} {cur : Array Value} {l : List Sm} {j : Nat} {fl : List FS} {bls : List (List Nat)} (h : StsTo t w W0 hi cur l j fl bls) (hk : ∀ b, W0 < b → b < w.heap.size → w'.heap[b]? = w.heap[b]?) : StsTo t w' W0 hi cur l j fl bls := by
  obtain ⟨h1, h1', h2, h3, h4, h5⟩ := h
  refine ⟨h1, h1', h2, fun i f s b hf hs hb => ?_, h4, h5⟩
  obtain ⟨a1, a2, a3, a4, a5, a6, a7, a8, a9, a10, a11, a12, a13, b1, b2, rfl, e1, e2⟩ := h3 i f s b hf hs hb
  have e3 : ∀ x ∈ b1 ++ b2, W0 < x := fun x hx => (h4 x (List.mem_flatten.2 ⟨_, List.mem_of_getElem? hb, hx⟩)).1
  exact ⟨a1, a2, a3, a4, a5, a6, a7, a8, a9, a10, a11, a12, a13, b1, b2, rfl, e1.same (fun b hb => hk b (e3 b (List.mem_append_left _ hb)) (e1.lt b hb)), e2.same (fun b hb => hk b (e3 b (List.mem_append_right _ hb)) (e2.lt b hb))⟩
theorem StsTo.step {t : TypeId} {w : World} {W0 hi hi' : Nat} {cur : Array Value} {l : List Sm} {j : Nat} {fl : List FS} {bls : List (List Nat)} {f : FS} {s : Sm} {b1 b2 : List Nat} (h : StsTo t w W0 hi cur l j fl bls) (hs : l[j]? = some s) (hsz : j * 11 + 11 ≤ cur.size)
    (hf : f.kind = s.kind ∧ f.name = s.name ∧ f.typ = s.typ ∧ f.k1 = s.ex.kind ∧ f.n1 = s.ex.n ∧ f.s1 = s.ex.s ∧ f.k2 = s.th.kind ∧ f.n2 = s.th.n ∧ f.s2 = s.th.s ∧
      f.name.length ≤ 9223372036854775807 ∧ f.typ.length ≤ 9223372036854775807 ∧ f.s1.length ≤ 9223372036854775807 ∧ f.s2.length ≤ 9223372036854775807 ∧ ExO t w f.v1 s.ex.kids b1 ∧ ExO t w f.v2 s.th.kids b2) (hO : Own hi hi' (b1 ++ b2)) (hW : W0 < hi) (hh : hi ≤ hi') : StsTo t w W0 hi' (putRow cur (j * 11) (fsRow f)) l (j + 1) (fl ++ [f]) (bls ++ [b1 ++ b2]) := by
  obtain ⟨h1, h1', h2, h3, h4, h5⟩ := h
  refine ⟨by simp [h1], by simp [h1'], fun i f' hj k x hx => ?_, fun i f' s' b' hj hs' hb' => ?_, fun x hx => ?_, ?_⟩
  · have hkl : k < 11 := (List.getElem?_eq_some_iff.1 hx).1
    rw [putRow_get _ _ _ _ (by exact hsz)]
    rcases getElem?_snoc hj with ⟨hj1, hj2⟩ | ⟨rfl, rfl⟩
    · rw [if_neg (by omega)]
      exact h2 i f' hj2 k x hx
    · rw [h1, if_pos (by simp [fsRow]; omega), Nat.add_sub_cancel_left]
      exact hx
  · rcases getElem?_snoc hj with ⟨hj1, hj2⟩ | ⟨rfl, rfl⟩
    · rcases getElem?_snoc hb' with ⟨hj3, hj4⟩ | ⟨rfl, rfl⟩
      · exact h3 i f' s' b' hj2 hs' hj4
      · omega
    · rw [h1, hs] at hs'
      obtain rfl := Option.some.inj hs'
      rcases getElem?_snoc hb' with ⟨hj3, hj4⟩ | ⟨_, rfl⟩
      · omega
      · obtain ⟨a1, a2, a3, a4, a5, a6, a7, a8, a9, a10, a11, a12, a13, e1, e2⟩ := hf
        exact ⟨a1, a2, a3, a4, a5, a6, a7, a8, a9, a10, a11, a12, a13, b1, b2, rfl, e1, e2⟩
  · rw [List.flatten_append, List.mem_append] at hx
    rcases hx with hx | hx
    · have := h4 x hx; omega
    · have := hO.1 x (by simpa using hx); omega
  · rw [List.flatten_append, List.nodup_append]
    refine ⟨h5, by simpa using hO.2, fun p hp q hq e => ?_⟩
    have := h4 p hp
    have := hO.1 q (by simpa using hq)
    omega
theorem StsTo.all {t : TypeId} {w : World} {W0 hi : Nat} {cur : Array Value} {l : List Sm} {fl : List FS} {bls : List (List Nat)} {g cap : Nat} (h : StsTo t w W0 hi cur l l.length fl bls) (hb : Blk w g 55 cur) (hc : l.length ≤ cap) (hm : cap ≤ maxLen) : SmS w w.heap.size (.slice (some ⟨g, 0, none⟩) l.length cap) l := by
  obtain ⟨h1, h1', h2, h3, _, _⟩ := h
  refine ⟨fl, ⟨_, cap, by rw [h1], by omega, hm, fun _ => ⟨g, 0, rfl, hb.lt, fun i f hf j x hj => ?_⟩⟩, h1, fun i f s hf hs => ?_⟩
  · rw [Nat.zero_add, hb.cell]
    exact h2 i f hf j x hj
  · obtain ⟨a1, a2, a3, a4, a5, a6, a7, a8, a9, a10, a11, a12, a13, b1, b2, _, e1, e2⟩ := h3 i f s _ hf hs (List.getElem?_eq_getElem (by rw [h1']; exact (List.getElem?_eq_some_iff.1 hs).1))
    exact ⟨a1, a2, a3, a4, a5, a6, a7, a8, a9, by rw [bs_size]; exact a10, by rw [bs_size]; exact a11, by rw [bs_size]; exact a12, by rw [bs_size]; exact a13, e1.exs, e2.exs⟩
/-- statements of the call's own: the row's block g, their trees' blocks bls, apart -/
def SmO (t : TypeId) (w : World) (v : Value) (l : List Sm) (g : Nat) (bls : List (List Nat)) : Prop :=
  ∃ (W0 hi cap : Nat) (cur : Array Value) (fl : List FS), v = .slice (some ⟨g, 0, none⟩) l.length cap ∧ l.length ≤ cap ∧ cap ≤ maxLen ∧ Blk w g 55 cur ∧ cur.size = l.length * 11 ∧ StsTo t w W0 hi cur l l.length fl bls ∧ g ≤ W0
theorem SmO.sms {t : TypeId} {w : World} {v : Value} {l : List Sm} {g : Nat} {bls : List (List Nat)} (h : SmO t w v l g bls) : SmS w w.heap.size v l := by
  obtain ⟨W0, hi, cap, cur, fl, rfl, h1, h2, h3, _, h4, _⟩ := h
  exact h4.all h3 h1 h2
theorem infoStmt : (Tryz.prog.info? 55).map (fun i => (i.zero, i.size, i.bytes)) = some (some (.agg #[.int .i64 0, .string ⟨#[]⟩, .string ⟨#[]⟩, .int .i64 0, .int .i64 0, .string ⟨#[]⟩, .slice none 0 0, .int .i64 0, .int .i64 0, .string ⟨#[]⟩, .slice none 0 0]), 11, 152) := by kernel_rfl
set_option maxHeartbeats 4000000 in
theorem toStmtSO_any (l : List Sm) (v : Value) (W : World) (hwt : smWt l ≤ 1048576) (hv : SmS W W.heap.size v l) :
    Calls Tryz.prog 11 #[v] W fun e w' => ∃ u g bls, e = .returned u ∧ SmO 43 w' u l g bls ∧ (∀ x ∈ g :: bls.flatten, W.heap.size ≤ x ∧ x < w'.heap.size) ∧ Below W.heap.size W w' := by
  obtain ⟨A, c, rfl, hc, hm⟩ := hv.val
  obtain ⟨i0, hi, hz0, hz1, hz2⟩ := info_parts infoStmt
  have hlw : l.length ≤ 1048576 := by unfold smWt at hwt; omega
  have hmk := fun W => run_make_rowN (P := Tryz.prog) 27 55 i0 _ Tryz.underlying27 hi hz0 .i64 .i64 l.length l.length (Nat.le_refl _) (by rw [hz2]; omega) (by omega) W
  rw [hz1] at hmk
  clear hi hz0 hz1 hz2
  go_enter Tryz.func11, Tryz.ntmps11
  go_wp2_with fail
  go_loopg [4] l.length (fun k' p wr => ∃ (i : Nat) (cur : Array Value) (fl : List FS) (bls : List (List Nat)), k' = l.length - i ∧ i ≤ l.length ∧ p = .int .i64 i ∧ Blk wr W.heap.size 55 cur ∧ cur.size = l.length * 11 ∧ StsTo 43 wr W.heap.size wr.heap.size cur l i fl bls ∧ Below W.heap.size W wr)
  case atStart => exact ⟨0, _, [], [], by omega, by omega, rfl, Blk.new _ _ _, by simp [size_madeCells], StsTo.zero _ _ _ _ _ _, by (repeat (first | with_reducible assumption | with_reducible exact Below.refl _ _ | with_reducible refine Below.setCell ?_ (by first | omega | (simp; done) | (simp; omega)) _ | with_reducible refine Below.alloc ?_ (by first | omega | (simp; done) | (simp; omega)) _ | with_reducible refine below_drewN ?_ _ | with_reducible refine Below.drew ?_))⟩
  case round =>
    obtain ⟨i, cur, fl, bls, hk2, hin, rfl, hB, hsz, hT, hbl⟩ := hrel
    have HK := Lib.hid (And.intro hk2 (And.intro hsz hT))
    clear hk2 hsz hT
    have hbz := hB.lt
    by_cases hlt : i < l.length
    · obtain ⟨b, o, s, A1, A2, c1, c2, rfl, hb, hg, hS, f0, f1, f2, f3, f4, f5, f6, f7, f8, f9, f10⟩ := sm_at2 hv hlt
      have G := Lib.hid hg
      have g0 := f0 ⟨wr, hbl⟩; have g1 := f1 ⟨wr, hbl⟩; have g2 := f2 ⟨wr, hbl⟩; have g3 := f3 ⟨wr, hbl⟩; have g4 := f4 ⟨wr, hbl⟩; have g5 := f5 ⟨wr, hbl⟩; have g6 := f6 ⟨wr, hbl⟩; have g7 := f7 ⟨wr, hbl⟩; have g8 := f8 ⟨wr, hbl⟩; have g9 := f9 ⟨wr, hbl⟩; have g10 := f10 ⟨wr, hbl⟩
      have hwm : s.wt ≤ 1048576 := by
        have h1 := smTo_succ hg
        have h2 := smTo_le l (i + 1)
        unfold smWt at hwt
        omega
      have hcall := toStmt_any s _ wr hwm ((hS.keep hbl (Nat.le_refl _)).more hbl.size)
      have HC := Lib.hid hcall
      clear f0 f1 f2 f3 f4 f5 f6 f7 f8 f9 f10 hg hS hcall
      go_wp2_with fail
      refine HC.out.mono ?_
      rintro e w1 ⟨u, bl, rfl, hO1, hOw1, hb1⟩
      obtain ⟨D1, D2, d1, d2, b1, b2, rfl, n1, n2, n3, n4, hx1, hx2, rfl⟩ := hO1
      have hB1 := hB.below hb1 hB.lt
      have hfz := hB1.frozen
      have hsz1 := hbl.size
      have hsz2 := hb1.size
      have HO := Lib.hid (And.intro hx1 (And.intro hx2 hOw1))
      clear hx1 hx2 hOw1
      obtain ⟨y0, hy0⟩ : ∃ y, w1.cell? ⟨W.heap.size, i * 11, none⟩ = some y := ⟨_, (hB1.cell _).trans (Array.getElem?_eq_getElem (by have := HK.out.2.1; omega))⟩
      obtain ⟨y1, hy1⟩ : ∃ y, w1.cell? ⟨W.heap.size, i * 11 + 1, none⟩ = some y := ⟨_, (hB1.cell _).trans (Array.getElem?_eq_getElem (by have := HK.out.2.1; omega))⟩
      obtain ⟨y2, hy2⟩ : ∃ y, w1.cell? ⟨W.heap.size, i * 11 + 2, none⟩ = some y := ⟨_, (hB1.cell _).trans (Array.getElem?_eq_getElem (by have := HK.out.2.1; omega))⟩
      obtain ⟨y3, hy3⟩ : ∃ y, w1.cell? ⟨W.heap.size, i * 11 + 3, none⟩ = some y := ⟨_, (hB1.cell _).trans (Array.getElem?_eq_getElem (by have := HK.out.2.1; omega))⟩
      obtain ⟨y4, hy4⟩ : ∃ y, w1.cell? ⟨W.heap.size, i * 11 + 4, none⟩ = some y := ⟨_, (hB1.cell _).trans (Array.getElem?_eq_getElem (by have := HK.out.2.1; omega))⟩
      obtain ⟨y5, hy5⟩ : ∃ y, w1.cell? ⟨W.heap.size, i * 11 + 5, none⟩ = some y := ⟨_, (hB1.cell _).trans (Array.getElem?_eq_getElem (by have := HK.out.2.1; omega))⟩
      obtain ⟨y6, hy6⟩ : ∃ y, w1.cell? ⟨W.heap.size, i * 11 + 6, none⟩ = some y := ⟨_, (hB1.cell _).trans (Array.getElem?_eq_getElem (by have := HK.out.2.1; omega))⟩
      obtain ⟨y7, hy7⟩ : ∃ y, w1.cell? ⟨W.heap.size, i * 11 + 7, none⟩ = some y := ⟨_, (hB1.cell _).trans (Array.getElem?_eq_getElem (by have := HK.out.2.1; omega))⟩
      obtain ⟨y8, hy8⟩ : ∃ y, w1.cell? ⟨W.heap.size, i * 11 + 8, none⟩ = some y := ⟨_, (hB1.cell _).trans (Array.getElem?_eq_getElem (by have := HK.out.2.1; omega))⟩
      obtain ⟨y9, hy9⟩ : ∃ y, w1.cell? ⟨W.heap.size, i * 11 + 9, none⟩ = some y := ⟨_, (hB1.cell _).trans (Array.getElem?_eq_getElem (by have := HK.out.2.1; omega))⟩
      obtain ⟨y10, hy10⟩ : ∃ y, w1.cell? ⟨W.heap.size, i * 11 + 10, none⟩ = some y := ⟨_, (hB1.cell _).trans (Array.getElem?_eq_getElem (by have := HK.out.2.1; omega))⟩
      go_wp2_with fail
      go_roundg (l.length - (i + 1))
      case measure => have := HK.out.1; omega
      case rel =>
        obtain ⟨_, hcs, hT⟩ := HK.out
        obtain ⟨hx1, hx2, hOw1⟩ := HO.out
        have hset : ∀ (x : Nat), W.heap.size ≠ x → ∀ (w : World) (q : Nat) (a : Value), (w.setCell ⟨W.heap.size, q, none⟩ a).heap[x]? = w.heap[x]? := fun x hx w q a => Below.heap_setCell _ _ _ _ (by simpa using fun e => hx e.symm)
        refine ⟨i + 1, putRow cur (i * 11) (fsRow ⟨s.kind, s.name, s.typ, s.ex.kind, s.ex.n, s.ex.s, .slice D1 s.ex.kids.length d1, s.th.kind, s.th.n, s.th.s, .slice D2 s.th.kids.length d2⟩), fl ++ [⟨s.kind, s.name, s.typ, s.ex.kind, s.ex.n, s.ex.s, .slice D1 s.ex.kids.length d1, s.th.kind, s.th.n, s.th.s, .slice D2 s.th.kids.length d2⟩], bls ++ [b1 ++ b2], rfl, by omega, by go_num, (((((((((((hB1.set_ _ _).set_ _ _).set_ _ _).set_ _ _).set_ _ _).set_ _ _).set_ _ _).set_ _ _).set_ _ _).set_ _ _).set_ _ _), by rw [putRow_size]; exact hcs, ?_, by (repeat (first | with_reducible assumption | with_reducible exact Below.refl _ _ | with_reducible refine Below.setCell ?_ (by first | omega | (simp; done) | (simp; omega)) _ | with_reducible refine Below.alloc ?_ (by first | omega | (simp; done) | (simp; omega)) _ | with_reducible refine below_drewN ?_ _ | with_reducible refine Below.drew ?_ | with_reducible refine Below.trans ?_ (Below.mono hb1 (by first | omega | (simp; done) | (simp; omega))) | with_reducible refine Below.trans ?_ (Below.mono hbl (by first | omega | (simp; done) | (simp; omega)))))⟩
        refine (hT.keep (fun x hx hxl => ?_)).step G.out (by omega) ⟨rfl, rfl, rfl, rfl, rfl, rfl, rfl, rfl, rfl, n1, n2, n3, n4, hx1.same (fun x hx => ?_), hx2.same (fun x hx => ?_)⟩ (hOw1.widen (Nat.le_refl _) (by simp)) hbz (by simp; exact hsz2)
        · repeat rw [hset x (by omega)]
          exact hb1.block x hxl
        · have := hOw1.1 x (List.mem_append_left _ hx)
          repeat rw [hset x (by omega)]
        · have := hOw1.1 x (List.mem_append_right _ hx)
          repeat rw [hset x (by omega)]
    · obtain rfl : i = l.length := by omega
      go_wp2_with fail
      go_ret
      refine ⟨_, _, bls, rfl, ⟨_, _, _, _, _, rfl, Nat.le_refl _, by unfold maxLen; omega, hB, HK.out.2.1, HK.out.2.2, Nat.le_refl _⟩, fun x hx => ?_, hbl⟩
      rw [List.mem_cons] at hx
      rcases hx with rfl | hx
      · exact ⟨Nat.le_refl _, hbz⟩
      · have := HK.out.2.2.2.2.2.2.1 x hx
        omega
theorem toStmtS_any (l : List Sm) (v : Value) (W : World) (hwt : smWt l ≤ 1048576) (hv : SmS W W.heap.size v l) :
    Calls Tryz.prog 11 #[v] W fun e w' => ∃ u, e = .returned u ∧ SmS w' w'.heap.size u l ∧ Below W.heap.size W w' :=
  (toStmtSO_any l v W hwt hv).mono fun _ _ ⟨u, _, _, h1, h2, _, h3⟩ => ⟨u, h1, h2.sms, h3⟩
noncomputable instance : DecidableEq Sm := fun _ _ => Classical.propDecidable _
theorem sm_eq_iff (s t : Sm) : s = t ↔ (s.kind = t.kind ∧ s.name = t.name ∧ s.typ = t.typ ∧ s.ex = t.ex ∧ s.th = t.th) := by
  constructor
  · rintro rfl; exact ⟨rfl, rfl, rfl, rfl, rfl⟩
  · obtain ⟨a, b, c, d, e⟩ := s
    obtain ⟨a', b', c', d', e'⟩ := t
    rintro ⟨h1, h2, h3, h4, h5⟩
    simp only at h1 h2 h3 h4 h5
    rw [h1, h2, h3, h4, h5]
theorem eqStmtS_any (l m : List Sm) (v u : Value) (W : World) (hv : SmS W W.heap.size v l) (hu : SmS W W.heap.size u m) :
    Calls Tryz.prog 14 #[v, u] W fun e w' => e = .returned (.bool (decide (l = m))) ∧ Below W.heap.size W w' := by
  obtain ⟨A, c, rfl, hc, hm⟩ := hv.val
  obtain ⟨A', c', rfl, hc', hm'⟩ := hu.val
  by_cases hnm : l.length = m.length
  rotate_left
  · have hne : (((l.length : Nat) : Int) != ((m.length : Nat) : Int)) = true := by simp; omega
    have hd : decide (l = m) = false := by simp; intro e; exact hnm (by rw [e])
    have HD := Lib.hid hd
    clear hd
    go_enter Tryz.func14, Tryz.ntmps14
    go_wp2
    go_ret
    exact ⟨ret_bool HD.out.symm, Below.refl _ _⟩
  have hne : (((l.length : Nat) : Int) != ((m.length : Nat) : Int)) = false := by simp [hnm]
  have HNM := Lib.hid hnm
  clear hnm
  go_enter Tryz.func14, Tryz.ntmps14
  go_wp2_with fail
  go_loopg [5] l.length (fun k p wr => ∃ i : Nat, k = l.length - i ∧ i ≤ l.length ∧ p = .int .i64 i ∧ AgreeTo i l m ∧ Below W.heap.size W wr)
  case atStart => exact ⟨0, by omega, by omega, rfl, AgreeTo.zero _ _, Below.refl _ _⟩
  case' round =>
    obtain ⟨i, hk2, hin, rfl, hij, hbl⟩ := hrel
    have HK := Lib.hid hk2
    clear hk2
    have hlm := HNM.out
    have him : i ≤ m.length := by omega
    clear hlm
    by_cases hlt : i < l.length
    rotate_left
    · go_wp2_with fail
      go_ret
      exact ⟨ret_bool (by simp; exact (AgreeTo.eq hij (by omega) HNM.out)), hbl⟩
    have hlm : i < m.length := by have := HNM.out; omega
    obtain ⟨b, o, s, A1, A2, c1, c2, rfl, hb, hg, hS, f0, f1, f2, f3, f4, f5, f6, f7, f8, f9, f10⟩ := sm_at2 hv hlt
    obtain ⟨b', o', s', A1', A2', c1', c2', rfl, hb', hg', hS', f0', f1', f2', f3', f4', f5', f6', f7', f8', f9', f10'⟩ := sm_at2 hu hlm
    have HG := Lib.hid (And.intro hg hg')
    clear hg hg'
    obtain ⟨x, rfl⟩ := Later.ex hbl
    have hcall : ∀ y : Later W.heap.size W, Calls Tryz.prog 28 #[.agg #[.int .i64 s.kind, .string (bs s.name), .string (bs s.typ), .int .i64 s.ex.kind, .int .i64 s.ex.n, .string (bs s.ex.s), .slice A1 s.ex.kids.length c1, .int .i64 s.th.kind, .int .i64 s.th.n, .string (bs s.th.s), .slice A2 s.th.kids.length c2], .agg #[.int .i64 s'.kind, .string (bs s'.name), .string (bs s'.typ), .int .i64 s'.ex.kind, .int .i64 s'.ex.n, .string (bs s'.ex.s), .slice A1' s'.ex.kids.length c1', .int .i64 s'.th.kind, .int .i64 s'.th.n, .string (bs s'.th.s), .slice A2' s'.th.kids.length c2']] y.w' fun e w' => e = .returned (.bool (decide (s = s'))) ∧ Below y.w'.heap.size y.w' w' :=
      fun y => by
        have h := eqStmt_any s s' _ _ y.w' (hS.ext y.ok) (hS'.ext y.ok)
        rwa [show decide (s.kind = s'.kind ∧ s.name = s'.name ∧ s.typ = s'.typ ∧ s.ex = s'.ex ∧ s.th = s'.th) = decide (s = s') from decide_eq_decide.2 (sm_eq_iff s s').symm] at h
    clear hS hS'
    by_cases hst : s = s'
    all_goals
      rw [show decide (s = s') = _ by first | exact decide_eq_true hst | exact decide_eq_false hst] at hcall
      have HD := Lib.hid hcall
      have HST := Lib.hid hst
      clear hst hcall
      go_wp2_with fail
      refine wp_region_later hbl (by kernel_rfl) (by kernel_rfl) ?_
      repeat (go_big_quiet_step ((go_at_call 28; exact later_call' HD.out)))
      refine wpQuiet_nil ?_
      rintro _ ⟨y, rfl⟩
      have hy := y.ok
      go_wp2_with fail
    · go_roundg (l.length - (i + 1))
      case measure => have := HK.out; omega
      case rel => exact ⟨i + 1, rfl, by omega, by go_num, hij.succ HG.out.1 (HST.out ▸ HG.out.2), hy⟩
    · go_ret
      exact ⟨ret_bool (by simpa using AgreeTo.ne HG.out.1 HG.out.2 HST.out), hy⟩
end Go.Proofs.YtgfneifejafddaaGreatDoor
