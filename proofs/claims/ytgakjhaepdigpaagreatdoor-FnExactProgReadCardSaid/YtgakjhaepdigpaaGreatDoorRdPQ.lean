/- The reference's reader: parts with marks between. -/
import Derived.Test.YtgakjhaepdigpaaGreatDoorZm16
import Derived.Test.YtgakjhaepdigpaaGreatDoorRdIL
import Derived.Test.YtgakjhaepdigpaaGreatDoorZm10
namespace Go.Proofs.YtgakjhaepdigpaaGreatDoor
set_option maxRecDepth 100000
set_option linter.unusedSimpArgs false
set_option linter.unusedVariables false
open Go.RowKit
attribute [local go_sem] bs_toList bs_get bs_size

/-- what the reference's readers tell: a tree, the place behind; below nought, if there is none -/
def SpP (m : PR) (ws : List Bytes) (i : Nat) (w : World) (e : Ending) (w' : World) : Prop :=
  ∃ (x : Ex) (v : Value) (k : Int), e = .returned (.tuple #[v, .int .i64 k]) ∧ TrM w.heap.size w'.heap.size w' v x ∧ Below w.heap.size w w' ∧ ((m = none ∧ k = -1) ∨ ∃ j : Nat, k = j ∧ i < j ∧ j ≤ ws.length ∧ m = some (x, ws.drop j))
def LoopS (ws : List Bytes) (D : Nat) (k : Int) (sub : List Bytes → PR) : Prop :=
  ∀ (i : Nat) (w : World) (v : Value), i ≤ ws.length → SlB w w.heap.size v ws → Calls Tryz.prog 174 #[v, .int .i64 (i : Int), .int .i64 k, .int .i64 (D : Int)] w (SpP (sub (ws.drop i)) ws i w)
/-- a loop's answer -/
def LpS (M : PR) (k : Nat) (sub : List Bytes → PR) (ws : List Bytes) (i : Nat) (x : Ex) (kk : Int) (n : Nat) : Prop :=
  (M = none ∧ kk = -1 ∧ n = 0) ∨ ∃ j : Nat, kk = j ∧ i < j ∧ j ≤ ws.length ∧ n = ws.length - j + 1 ∧ ∃ m, (ws.drop j).length ≤ m ∧ M = loopW k sub m x (ws.drop j)
theorem LpS.bad {M : PR} {k : Nat} {sub : List Bytes → PR} {ws : List Bytes} {i n : Nat} {x : Ex} (h : LpS M k sub ws i x (-1) n) : (M = none ∧ (-1 : Int) = -1) ∨ ∃ j : Nat, (-1 : Int) = j ∧ i < j ∧ j ≤ ws.length ∧ M = some (x, ws.drop j) := by
  rcases h with ⟨h, _⟩ | ⟨j, h, _⟩
  · exact .inl ⟨h, rfl⟩
  · omega
theorem LpS.stop {M : PR} {k : Nat} {sub : List Bytes → PR} {ws : List Bytes} {i n j : Nat} {x : Ex} (h : LpS M k sub ws i x (j : Int) n) (hs : tgt ((ws[j]?).getD []) ≠ k) : (M = none ∧ (j : Int) = -1) ∨ ∃ j' : Nat, (j : Int) = j' ∧ i < j' ∧ j' ≤ ws.length ∧ M = some (x, ws.drop j') := by
  rcases h with ⟨_, h, _⟩ | ⟨j', h, h1, h2, _, m, h3, h4⟩
  · omega
  · obtain rfl : j = j' := by omega
    refine .inr ⟨j, rfl, h1, h2, ?_⟩
    rw [h4]
    refine loopW_stop ?_
    intro w r e
    have : ws[j]? = some w := by
      have := congrArg (fun l : List Bytes => l[0]?) e
      simpa [List.getElem?_drop] using this
    rw [this] at hs
    exact hs
theorem drop_at {ws : List Bytes} {j : Nat} (h : j < ws.length) : ws.drop j = (ws[j]?).getD [] :: ws.drop (j + 1) := by
  rw [List.drop_eq_getElem_cons h, List.getElem?_eq_getElem h]
  rfl
theorem LpS.step {M : PR} {k : Nat} {sub : List Bytes → PR} {ws : List Bytes} {i n j : Nat} {x y : Ex} {k3 : Int} (h : LpS M k sub ws i x (j : Int) n) (hj : j < ws.length) (hk : tgt ((ws[j]?).getD []) = k)
    (hs : (sub (ws.drop (j + 1)) = none ∧ k3 = -1) ∨ ∃ j3 : Nat, k3 = j3 ∧ j + 1 < j3 ∧ j3 ≤ ws.length ∧ sub (ws.drop (j + 1)) = some (y, ws.drop j3)) : ∃ n', LpS M k sub ws i (.mk 3 0 ((ws[j]?).getD []) [x, y]) k3 n' ∧ n' < n := by
  rcases h with ⟨_, h, _⟩ | ⟨j', h, h1, h2, hn, m, h3, h4⟩
  · omega
  · obtain rfl : j = j' := by omega
    rw [drop_at hj] at h3 h4
    simp only [List.length_cons] at h3
    obtain ⟨m', rfl⟩ : ∃ m', m = m' + 1 := ⟨m - 1, by omega⟩
    rcases hs with ⟨h5, rfl⟩ | ⟨j3, rfl, h6, h7, h5⟩
    · refine ⟨0, .inl ⟨?_, rfl, rfl⟩, by omega⟩
      rw [h4]
      simp only [loopW]
      rw [if_pos (show tgP ((ws[j]?).getD []) = k from hk), h5]
    · refine ⟨ws.length - j3 + 1, .inr ⟨j3, rfl, by omega, h7, rfl, m', ?_, ?_⟩, by omega⟩
      · rw [List.length_drop] at h3 ⊢
        omega
      · rw [h4]
        exact loopW_step hk h5
theorem TrN.ext {b lo hi : Nat} {w w' : World} {v : Value} {e : Ex} (h : TrN b lo hi w v e) (hb : Ext w w') : TrN b lo hi w' v e := h.same (fun q _ _ h3 _ => hb.block q h3)
/-- two parts were put under a mark: the box after it -/
theorem two_end {w w3 : World} {b lo mid : Nat} {x x3 : Ex} {A A3 : Option Addr} {c c3 : Nat} {s : Bytes} (hT : TrN b lo mid w3 (.agg (bxE x A c)) x) (hT3 : TrM mid w3.heap.size w3 (.agg (bxE x3 A3 c3)) x3) (hs : s.length ≤ 100000000)
    (hB4 : Blk w3 w.heap.size 24 zX) (hB5 : Blk w3 b 24 (bxE x A c)) (hbw : Below w.heap.size w w3) (hlo : lo ≤ mid) (hm : mid ≤ w3.heap.size) (hb : w.heap.size < b) (hbm : b < mid) (W' : World)
    (hW : W' = ((((((w3.setCell ⟨b, 0, none⟩ (.int .i64 3)).setCell ⟨b, 1, none⟩ (.int .i64 0)).setCell ⟨b, 2, none⟩ (.string (bs s))).setCell ⟨b, 3, none⟩ (.slice (some ⟨w3.heap.size + 1, 0, none⟩) 2 2)).alloc (.cells (bxE x3 A3 c3) 24)).alloc (.cells #[.int .i64 x.kind, .int .i64 x.n, .string (bs x.s), .slice A x.kids.length c, .int .i64 x3.kind, .int .i64 x3.n, .string (bs x3.s), .slice A3 x3.kids.length c3] 24)).drew) :
    Blk W' w.heap.size 24 zX ∧ Blk W' b 24 (bxE (.mk 3 0 s [x, x3]) (some ⟨w3.heap.size + 1, 0, none⟩) 2) ∧ W'.heap.size = w3.heap.size + 2 ∧ TrN b lo W'.heap.size W' (.agg (bxE (.mk 3 0 s [x, x3]) (some ⟨w3.heap.size + 1, 0, none⟩) 2)) (.mk 3 0 s [x, x3]) ∧ Below w.heap.size w W' := by
  have hTa := ((((hT.set_ (i := 0) (u := .int .i64 3)).set_ (i := 1) (u := .int .i64 0)).set_ (i := 2) (u := .string (bs s))).set_ (i := 3) (u := .slice (some ⟨w3.heap.size + 1, 0, none⟩) 2 2)).alloc (.cells (bxE x3 A3 c3) 24)
  have hTb := ((((hT3.setN hbm 0 (.int .i64 3)).setN hbm 1 (.int .i64 0)).setN hbm 2 (.string (bs s))).setN hbm 3 (.slice (some ⟨w3.heap.size + 1, 0, none⟩) 2 2)).alloc (.cells (bxE x3 A3 c3) 24)
  have h4 := ((((hB4.far (p := ⟨b, 0, none⟩) (by simp; omega) (.int .i64 3)).far (p := ⟨b, 1, none⟩) (by simp; omega) (.int .i64 0)).far (p := ⟨b, 2, none⟩) (by simp; omega) (.string (bs s))).far (p := ⟨b, 3, none⟩) (by simp; omega) (.slice (some ⟨w3.heap.size + 1, 0, none⟩) 2 2)).alloc (.cells (bxE x3 A3 c3) 24)
  have h5 := ((((hB5.set_ 0 (.int .i64 3)).set_ 1 (.int .i64 0)).set_ 2 (.string (bs s))).set_ 3 (.slice (some ⟨w3.heap.size + 1, 0, none⟩) 2 2)).alloc (.cells (bxE x3 A3 c3) 24)
  have hbe : Below w.heap.size w ((((w3.setCell ⟨b, 0, none⟩ (.int .i64 3)).setCell ⟨b, 1, none⟩ (.int .i64 0)).setCell ⟨b, 2, none⟩ (.string (bs s))).setCell ⟨b, 3, none⟩ (.slice (some ⟨w3.heap.size + 1, 0, none⟩) 2 2)) := by (repeat (first | with_reducible assumption | with_reducible exact Below.refl _ _ | with_reducible refine Below.setCell ?_ (by first | omega | (simp; done) | (simp; omega)) _ | with_reducible refine Below.alloc ?_ (by first | omega | (simp; done) | (simp; omega)) _ | with_reducible refine below_drewN ?_ _ | with_reducible refine Below.drew ?_ | with_reducible refine Below.trans ?_ (Below.mono hbw (by first | omega | (simp; done) | (simp; omega)))))
  have hz := hbe.size
  have hbe2 := hbe.alloc hz (.cells (bxE x3 A3 c3) 24)
  have h5 : Blk (((((w3.setCell ⟨b, 0, none⟩ (.int .i64 3)).setCell ⟨b, 1, none⟩ (.int .i64 0)).setCell ⟨b, 2, none⟩ (.string (bs s))).setCell ⟨b, 3, none⟩ (.slice (some ⟨w3.heap.size + 1, 0, none⟩) 2 2)).alloc (.cells (bxE x3 A3 c3) 24)) b 24 (bxE (.mk 3 0 s [x, x3]) (some ⟨w3.heap.size + 1, 0, none⟩) 2) := by simpa [bxE, Ex.kind, Ex.n, Ex.s, Ex.kids] using h5
  have hsz : (((((w3.setCell ⟨b, 0, none⟩ (.int .i64 3)).setCell ⟨b, 1, none⟩ (.int .i64 0)).setCell ⟨b, 2, none⟩ (.string (bs s))).setCell ⟨b, 3, none⟩ (.slice (some ⟨w3.heap.size + 1, 0, none⟩) 2 2)).alloc (.cells (bxE x3 A3 c3) 24)).heap.size = w3.heap.size + 1 := by simp
  generalize (((((w3.setCell ⟨b, 0, none⟩ (.int .i64 3)).setCell ⟨b, 1, none⟩ (.int .i64 0)).setCell ⟨b, 2, none⟩ (.string (bs s))).setCell ⟨b, 3, none⟩ (.slice (some ⟨w3.heap.size + 1, 0, none⟩) 2 2)).alloc (.cells (bxE x3 A3 c3) 24)) = V at *
  subst hW
  have hbk := Blk.newAt (w := V) (t := 24) (cs := #[.int .i64 x.kind, .int .i64 x.n, .string (bs x.s), .slice A x.kids.length c, .int .i64 x3.kind, .int .i64 x3.n, .string (bs x3.s), .slice A3 x3.kids.length c3]) hsz
  have h2 := (hTa.alloc (.cells #[.int .i64 x.kind, .int .i64 x.n, .string (bs x.s), .slice A x.kids.length c, .int .i64 x3.kind, .int .i64 x3.n, .string (bs x3.s), .slice A3 x3.kids.length c3] 24)).two (k := 3) (n := 0) (s := s) (hi' := w3.heap.size + 2) (hTb.alloc _) (by omega) hbk hlo hm (by omega) (by omega) hbm (by omega)
  exact ⟨(h4.alloc _).drew, (h5.alloc _).drew, by rw [World.size_drew, World.size_alloc, hsz], (h2.widen (Nat.le_refl _) (by rw [World.size_drew, World.size_alloc, hsz]; exact Nat.le_refl _)).drew, (hbe2.alloc hbe2.size _).drew⟩
set_option maxHeartbeats 4000000 in
theorem loopS_step (ws : List Bytes) (D k : Nat) (hk : k = 2 ∨ k = 3) (hD : D ≤ 100) (h40 : ws.length ≤ 40) (hsl : ∀ s ∈ ws, s.length ≤ 100000000) (sub : List Bytes → PR) (SUB : LoopS ws D ((k : Int) + 1) sub) :
    LoopS ws D (k : Int) (fun l => match sub l with | some (e, r) => loopW k sub r.length e r | none => none) := by
  intro i w v hi hv
  show Calls Tryz.prog 174 #[v, .int .i64 (i : Int), .int .i64 (k : Int), .int .i64 (D : Int)] w (SpP (match sub (ws.drop i) with | some (e, r) => loopW k sub r.length e r | none => none) ws i w)
  have hk1 : (k : Int) ≤ 3 := by omega
  have hk0 : (2 : Int) ≤ (k : Int) := by omega
  have hwk : IntKind.i64.wrap ((k : Int) + 1) = (k : Int) + 1 := wrap_small (by omega)
  have HV := Lib.hid (fun (w' : World) (h : Below w.heap.size w w') => (hv.below h (Nat.le_refl _)).more h.size)
  have HSL := Lib.hid (And.intro hsl (And.intro h40 (And.intro hk hi)))
  have SB := Lib.hid (fun (i' : Nat) (w' : World) (hi' : i' ≤ ws.length) (h : Below w.heap.size w w') => SUB i' w' v hi' (HV.out w' h))
  have M0 : ∀ (x : Ex) (kk : Int), ((sub (ws.drop i) = none ∧ kk = -1) ∨ ∃ j : Nat, kk = j ∧ i < j ∧ j ≤ ws.length ∧ sub (ws.drop i) = some (x, ws.drop j)) → ∃ n, LpS (match sub (ws.drop i) with | some (e, r) => loopW k sub r.length e r | none => none) k sub ws i x kk n := by
    rintro x kk (⟨h, rfl⟩ | ⟨j, rfl, h1, h2, h⟩)
    · rw [h]; exact ⟨0, .inl ⟨rfl, rfl, rfl⟩⟩
    · rw [h]; exact ⟨_, .inr ⟨j, rfl, h1, h2, rfl, _, Nat.le_refl _, rfl⟩⟩
  generalize (match sub (ws.drop i) with | some (e, r) => loopW k sub r.length e r | none => none) = M at *
  have HM0 := Lib.hid M0
  obtain ⟨Aw, cw, rfl, hcw, hmw⟩ := hv.val
  clear hv hsl SUB M0 hk
  go_enter Tryz.func174, Tryz.ntmps174
  go_wp2_with fail
  have C0 := Lib.hid (SB.out i (w.alloc (.cells zX 24)) HSL.out.2.2.2 (by (repeat (first | with_reducible assumption | with_reducible exact Below.refl _ _ | with_reducible refine Below.setCell ?_ (by first | omega | (simp; done) | (simp; omega)) _ | with_reducible refine Below.alloc ?_ (by first | omega | (simp; done) | (simp; omega)) _ | with_reducible refine below_drewN ?_ _ | with_reducible refine Below.drew ?_))))
  refine C0.out.mono ?_
  rintro e2 w2 ⟨x0, v0, k0, rfl, hT0, hb2, hm0⟩
  have hz2 := hb2.size
  simp at hz2
  have hB4 : Blk w2 w.heap.size 24 zX := (Blk.new w _ _).below hb2 (by simp)
  have hbw2 : Below w.heap.size w w2 := by (repeat (first | with_reducible assumption | with_reducible exact Below.refl _ _ | with_reducible refine Below.setCell ?_ (by first | omega | (simp; done) | (simp; omega)) _ | with_reducible refine Below.alloc ?_ (by first | omega | (simp; done) | (simp; omega)) _ | with_reducible refine below_drewN ?_ _ | with_reducible refine Below.drew ?_ | with_reducible refine Below.trans ?_ (Below.mono hb2 (by first | omega | (simp; done) | (simp; omega)))))
  obtain ⟨A0, c0, rfl, hs0x⟩ := hT0.form3
  have hT := hT0.avoid (b := w2.heap.size) (.inr (Nat.le_refl _))
  obtain ⟨n0, hL0⟩ := HM0.out x0 k0 hm0
  have HI := Lib.hid (And.intro hT (And.intro hbw2 (And.intro hB4 hL0)))
  clear hT0 hT hm0 hb2 hbw2 hB4 hL0 C0
  go_wp2_with fail
  go_loopg [11] n0 (fun n s wr => ∃ (x : Ex) (A : Option Addr) (c : Nat) (kk : Int), s = .int .i64 kk ∧ Blk wr w.heap.size 24 zX ∧ Blk wr w2.heap.size 24 (bxE x A c) ∧ x.s.length ≤ 9223372036854775807 ∧ w2.heap.size < wr.heap.size ∧ TrN w2.heap.size (w.heap.size + 1) wr.heap.size wr (.agg (bxE x A c)) x ∧ Below w.heap.size w wr ∧ LpS M k sub ws i x kk n)
  case atStart =>
    obtain ⟨hT, hbw2, hB4, hL0⟩ := HI.out
    exact ⟨x0, A0, c0, k0, rfl, hB4.alloc _, Blk.new _ _ _, hs0x, by simp, (hT.alloc _).widen (by simp) (by simp), by (repeat (first | with_reducible assumption | with_reducible exact Below.refl _ _ | with_reducible refine Below.setCell ?_ (by first | omega | (simp; done) | (simp; omega)) _ | with_reducible refine Below.alloc ?_ (by first | omega | (simp; done) | (simp; omega)) _ | with_reducible refine below_drewN ?_ _ | with_reducible refine Below.drew ?_ | with_reducible refine Below.trans ?_ (Below.mono hbw2 (by first | omega | (simp; done) | (simp; omega))))), hL0⟩
  case round =>
    clear HI
    obtain ⟨x, A, c, kk, rfl, hB4, hB5, hsx, hz, hT, hbw, hL⟩ := hrel
    have HX := Lib.hid (And.intro hT (And.intro hbw (And.intro hL (And.intro hB4 hB5))))
    have hz6 := hB4.lt
    have z0 := hB4.frozen 0; have z1 := hB4.frozen 1; have z2 := hB4.frozen 2; have z3 := hB4.frozen 3
    have y4 := hB4.cell 0; have y5 := hB4.cell 1; have y6 := hB4.cell 2; have y7 := hB4.cell 3
    have p0 := hB5.cell 0; have p1 := hB5.cell 1; have p2 := hB5.cell 2; have p3 := hB5.cell 3
    simp [zX] at y4 y5 y6 y7 p0 p1 p2 p3
    by_cases hkk : kk = -1
    · subst hkk
      clear hT hbw hL hB4 hB5
      go_wp2_with fail
      refine bodyPost_ret (v := .tuple #[vX x.kind x.n x.s (.slice A x.kids.length c), .int .i64 (-1)]) (by simp [results, Tryz.results174, go_sem, vX, y4, y5, y6, y7, hz6]) rfl ?_
      obtain ⟨hT, hbw, hL, _, _⟩ := HX.out
      exact ⟨x, _, _, rfl, ((((hT.trm.setN (b := w.heap.size) (by omega) 0 _).setN (b := w.heap.size) (by omega) 1 _).setN (b := w.heap.size) (by omega) 2 _).setN (b := w.heap.size) (by omega) 3 _).widen (by omega) (by simp), by (repeat (first | with_reducible assumption | with_reducible exact Below.refl _ _ | with_reducible refine Below.setCell ?_ (by first | omega | (simp; done) | (simp; omega)) _ | with_reducible refine Below.alloc ?_ (by first | omega | (simp; done) | (simp; omega)) _ | with_reducible refine below_drewN ?_ _ | with_reducible refine Below.drew ?_ | with_reducible refine Below.trans ?_ (Below.mono hbw (by first | omega | (simp; done) | (simp; omega))))), hL.bad⟩
    · obtain ⟨j, rfl, hj1, hj2⟩ : ∃ j : Nat, kk = j ∧ i < j ∧ j ≤ ws.length := by
        rcases hL with ⟨_, h, _⟩ | ⟨j, h, h1, h2, _⟩
        · exact absurd h hkk
        · exact ⟨j, h, h1, h2⟩
      have AT := Lib.hid (fun (w' : World) (h : Below w.heap.size w w') => spAt_any ws j _ w' (HV.out w' h))
      have hss : (((ws[j]?).getD []).length ≤ 100000000) ∧ (opB ((ws[j]?).getD []) = true → j < ws.length) := by
        by_cases hlt : j < ws.length
        · refine ⟨?_, fun _ => hlt⟩
          rw [List.getElem?_eq_getElem hlt]
          exact HSL.out.1 _ (List.getElem_mem hlt)
        · rw [List.getElem?_eq_none (by omega)]
          exact ⟨by simp, fun h => absurd h (by decide)⟩
      have HSS := Lib.hid hss
      have hst := spTg_tg (s := (ws[j]?).getD []) HSL.out.2.2.1
      have HST := Lib.hid hst
      have HL := Lib.hid hL
      have H1 := Lib.hid (And.intro hj1 hj2)
      have hj40 : (j : Int) ≤ 40 := by omega
      clear hss hst hL hT hB4 hB5 hkk
      generalize hgs : (ws[j]?).getD [] = s at *
      have HGS := Lib.hid hgs
      clear hgs
      by_cases hA : spTg s = k ∧ opB s = true
      rotate_left
      · have hns : tgt s ≠ k := fun e => hA (HST.out.2 e)
        have HNS := Lib.hid hns
        by_cases hA1 : spTg s = k
        · have hop : opB s = false := by
            cases h : opB s
            · rfl
            · exact absurd ⟨hA1, h⟩ hA
          have OPC := Lib.hid (spOp_any s)
          rw [hop] at OPC
          have hdk : (((spTg s : Nat) : Int) == (k : Int)) = true := by rw [beq_iff_eq]; omega
          clear hns hA hA1 hop
          go_wp2_with fail
          refine (AT.out wr hbw).mono ?_
          rintro e _ ⟨rfl, rfl⟩
          go_wp2_with fail
          refine (spLevelTwo s wr).mono ?_
          rintro e wl ⟨rfl, hbl⟩
          have hbwl := hbw.ext hbl
          have hB2l := HX.out.2.2.2.1.below hbl HX.out.2.2.2.1.lt
          have hB5l := HX.out.2.2.2.2.below hbl HX.out.2.2.2.2.lt
          clear z0 z1 z2 z3 y4 y5 y6 y7 p0 p1 p2 p3
          have hz7 := hB2l.lt
          have hz8 := hB5l.lt
          have z0 := hB2l.frozen 0; have z1 := hB2l.frozen 1; have z2 := hB2l.frozen 2; have z3 := hB2l.frozen 3
          have y4 := hB2l.cell 0; have y5 := hB2l.cell 1; have y6 := hB2l.cell 2; have y7 := hB2l.cell 3
          have p0 := hB5l.cell 0; have p1 := hB5l.cell 1; have p2 := hB5l.cell 2; have p3 := hB5l.cell 3
          simp [zX] at y4 y5 y6 y7 p0 p1 p2 p3
          have HBL := Lib.hid hbl
          clear hB2l hB5l hbl
          go_wp2_with fail
          refine (AT.out wl hbwl).mono ?_
          rintro e _ ⟨rfl, rfl⟩
          go_wp2_with fail
          refine (OPC.out wl).mono ?_
          rintro e _ ⟨rfl, rfl⟩
          go_wp2_with fail
          refine bodyPost_ret (v := .tuple #[vX x.kind x.n x.s (.slice A x.kids.length c), .int .i64 (j : Int)]) (by simp [results, Tryz.results174, go_sem, vX, y4, y5, y6, y7, hz7]) rfl ?_
          obtain ⟨hT, hbw, _, _, _⟩ := HX.out
          have hbl := HBL.out
          have hbz := hbl.size
          exact ⟨x, _, _, rfl, (((((hT.trm.ext hbl).setN (b := w.heap.size) (by omega) 0 _).setN (b := w.heap.size) (by omega) 1 _).setN (b := w.heap.size) (by omega) 2 _).setN (b := w.heap.size) (by omega) 3 _).widen (by omega) (by simp; omega), by (repeat (first | with_reducible assumption | with_reducible exact Below.refl _ _ | with_reducible refine Below.setCell ?_ (by first | omega | (simp; done) | (simp; omega)) _ | with_reducible refine Below.alloc ?_ (by first | omega | (simp; done) | (simp; omega)) _ | with_reducible refine below_drewN ?_ _ | with_reducible refine Below.drew ?_ | with_reducible refine Below.trans ?_ (Below.mono hbwl (by first | omega | (simp; done) | (simp; omega))))), HL.out.stop (by rw [HGS.out]; exact HNS.out)⟩
        · have hdk : (((spTg s : Nat) : Int) == (k : Int)) = false := by rw [beq_eq_false_iff_ne]; omega
          clear hns hA hA1
          go_wp2_with fail
          refine (AT.out wr hbw).mono ?_
          rintro e _ ⟨rfl, rfl⟩
          go_wp2_with fail
          refine (spLevelTwo s wr).mono ?_
          rintro e wl ⟨rfl, hbl⟩
          have hbwl := hbw.ext hbl
          have hB2l := HX.out.2.2.2.1.below hbl HX.out.2.2.2.1.lt
          have hB5l := HX.out.2.2.2.2.below hbl HX.out.2.2.2.2.lt
          clear z0 z1 z2 z3 y4 y5 y6 y7 p0 p1 p2 p3
          have hz7 := hB2l.lt
          have hz8 := hB5l.lt
          have z0 := hB2l.frozen 0; have z1 := hB2l.frozen 1; have z2 := hB2l.frozen 2; have z3 := hB2l.frozen 3
          have y4 := hB2l.cell 0; have y5 := hB2l.cell 1; have y6 := hB2l.cell 2; have y7 := hB2l.cell 3
          have p0 := hB5l.cell 0; have p1 := hB5l.cell 1; have p2 := hB5l.cell 2; have p3 := hB5l.cell 3
          simp [zX] at y4 y5 y6 y7 p0 p1 p2 p3
          have HBL := Lib.hid hbl
          clear hB2l hB5l hbl
          go_wp2_with fail
          refine bodyPost_ret (v := .tuple #[vX x.kind x.n x.s (.slice A x.kids.length c), .int .i64 (j : Int)]) (by simp [results, Tryz.results174, go_sem, vX, y4, y5, y6, y7, hz7]) rfl ?_
          obtain ⟨hT, hbw, _, _, _⟩ := HX.out
          have hbl := HBL.out
          have hbz := hbl.size
          exact ⟨x, _, _, rfl, (((((hT.trm.ext hbl).setN (b := w.heap.size) (by omega) 0 _).setN (b := w.heap.size) (by omega) 1 _).setN (b := w.heap.size) (by omega) 2 _).setN (b := w.heap.size) (by omega) 3 _).widen (by omega) (by simp; omega), by (repeat (first | with_reducible assumption | with_reducible exact Below.refl _ _ | with_reducible refine Below.setCell ?_ (by first | omega | (simp; done) | (simp; omega)) _ | with_reducible refine Below.alloc ?_ (by first | omega | (simp; done) | (simp; omega)) _ | with_reducible refine below_drewN ?_ _ | with_reducible refine Below.drew ?_ | with_reducible refine Below.trans ?_ (Below.mono hbwl (by first | omega | (simp; done) | (simp; omega))))), HL.out.stop (by rw [HGS.out]; exact HNS.out)⟩
      · obtain ⟨hA1, hop⟩ := hA
        have htg := HST.out.1 ⟨hA1, hop⟩
        have hlt := HSS.out.2 hop
        have HTG := Lib.hid (And.intro htg hlt)
        have OPC := Lib.hid (spOp_any s)
        rw [hop] at OPC
        have hdk : (((spTg s : Nat) : Int) == (k : Int)) = true := by rw [beq_iff_eq]; omega
        obtain ⟨bq, oq, sq, rfl, hbq, hgq, fq⟩ := str_at (HV.out w (Below.refl _ _)) hlt
        obtain rfl : sq = s := by rw [← HGS.out, hgq]; rfl
        have hwj : IntKind.i64.wrap ((j : Int) + 1) = (j : Int) + 1 := wrap_small (by omega)
        have FQ := Lib.hid (fun (w' : World) (h : Below w.heap.size w w') => (h.cell (p := ⟨bq, oq + j, none⟩) hbq).trans (fq ⟨w, Below.refl _ _⟩))
        have hltn : (j : Int) < (ws.length : Int) := by omega
        clear hA1 hop htg fq hgq hj2
        go_wp2_with fail
        refine (AT.out wr hbw).mono ?_
        rintro e _ ⟨rfl, rfl⟩
        go_wp2_with fail
        refine (spLevelTwo sq wr).mono ?_
        rintro e wl ⟨rfl, hbl⟩
        have hbwl := hbw.ext hbl
        go_wp2_with fail
        refine (AT.out wl hbwl).mono ?_
        rintro e _ ⟨rfl, rfl⟩
        go_wp2_with fail
        refine (OPC.out wl).mono ?_
        rintro e _ ⟨rfl, rfl⟩
        have CL := Lib.hid (SB.out (j + 1) wl (by have := HTG.out.2; omega) hbwl)
        rw [show ((j + 1 : Nat) : Int) = (j : Int) + 1 by omega] at CL
        clear hltn
        go_wp2_with fail
        refine CL.out.mono ?_
        rintro e w3 ⟨x3, v3, k3, rfl, hT3, hb3, hm3⟩
        obtain ⟨A3, c3, rfl, hs3x⟩ := hT3.form3
        have hb3r : Below wr.heap.size wr w3 := hbl.ext hb3
        have hB4 := HX.out.2.2.2.1.below hb3r hz6
        have hB5 := HX.out.2.2.2.2.below hb3r hz
        clear z0 z1 z2 z3 y4 y5 y6 y7 p0 p1 p2 p3
        have hzb : w2.heap.size < w3.heap.size := hB5.lt
        have hza : w.heap.size < w3.heap.size := hB4.lt
        have z0 := hB5.frozen 0; have z1 := hB5.frozen 1; have z2 := hB5.frozen 2; have z3 := hB5.frozen 3
        have p0 := hB5.cell 0; have p1 := hB5.cell 1; have p2 := hB5.cell 2; have p3 := hB5.cell 3
        simp at p0 p1 p2 p3
        have gq := FQ.out w3 (hbw.ext hb3r)
        have hbq3 : bq < w3.heap.size := by omega
        have hltn : (j : Int) < (ws.length : Int) := by have := HTG.out.2; omega
        have HB3 := Lib.hid hbl
        have HY := Lib.hid (And.intro hT3 (And.intro hb3r (And.intro hb3 (And.intro hm3 (And.intro hB4 hB5)))))
        clear hT3 hb3r hb3 hm3 hB4 hB5 hbl CL OPC
        go_wp2_with fail
        go_region_law (fail)
        all_goals
          obtain ⟨n3, hL3, hn3⟩ := HL.out.step HTG.out.2 (by rw [HGS.out]; exact HTG.out.1) HY.out.2.2.2.1
          have HL3 := Lib.hid (And.intro hL3 hn3)
          clear hL3 hn3
          go_wp2_with fail
          go_roundg n3
          case measure => exact HL3.out.2
          case rel =>
            obtain ⟨hT3, hb3r, hb3, hm3, hB4, hB5⟩ := HY.out
            obtain ⟨hT, hbw, _, _, _⟩ := HX.out
            have hz3r := hb3r.size
            have hzl := (HB3.out).size
            obtain ⟨e1, e2, e3, e4, e5⟩ := two_end (w := w) (s := sq) (mid := wr.heap.size) (hT.ext hb3r) (hT3.widen hzl (Nat.le_refl _)) HSS.out.1 hB4 hB5 (hbw.ext hb3r) (by omega) hz3r (by omega) hz _ rfl
            exact ⟨_, _, _, k3, rfl, e1, e2, by show sq.length ≤ _; have := HSS.out.1; omega, by rw [e3]; omega, e4, e5, by rw [← HGS.out]; exact HL3.out.1⟩
end Go.Proofs.YtgakjhaepdigpaaGreatDoor


/- The reference's reader: a whole; a number, a name, what is in brackets, types behind. -/
namespace Go.Proofs.YtgakjhaepdigpaaGreatDoor
set_option maxRecDepth 100000
set_option linter.unusedSimpArgs false
set_option linter.unusedVariables false
open Go.RowKit
attribute [local go_sem] bs_toList bs_get bs_size

def Lv1S (ws : List Bytes) (D : Nat) (sub : List Bytes → PR) : Prop :=
  ∀ (i : Nat) (w : World) (v : Value), i ≤ ws.length → SlB w w.heap.size v ws → Calls Tryz.prog 153 #[v, .int .i64 (i : Int), .int .i64 (D : Int)] w (SpP (sub (ws.drop i)) ws i w)
def AtomS (ws : List Bytes) (D : Nat) (sub : List Bytes → PR) : Prop :=
  ∀ (i : Nat) (w : World) (v : Value), i ≤ ws.length → SlB w w.heap.size v ws → Calls Tryz.prog 192 #[v, .int .i64 (i : Int), .int .i64 (D : Int)] w (SpP (sub (ws.drop i)) ws i w)
theorem tgP_one {s : Bytes} : tgP s = 1 ↔ s = [60] := by
  unfold tgP
  by_cases h : s = [60]
  · simp [h]
  · rw [if_neg h]
    constructor
    · intro h2
      split at h2
      · omega
      · split at h2 <;> omega
    · intro h2; exact absurd h2 h
set_option maxHeartbeats 4000000 in
theorem lv1S_of (ws : List Bytes) (D : Nat) (h40 : ws.length ≤ 40) (held : List Bytes → PR) (SUB : LoopS ws D 2 (lv2 held)) : Lv1S ws D (lv1 true held) := by
  intro i w v hi hv
  have HV := Lib.hid (fun (w' : World) (h : Below w.heap.size w w') => (hv.below h (Nat.le_refl _)).more h.size)
  have SB := Lib.hid (fun (i' : Nat) (w' : World) (hi' : i' ≤ ws.length) (h : Below w.heap.size w w') => SUB i' w' v hi' (HV.out w' h))
  have H40 := Lib.hid (And.intro h40 hi)
  obtain ⟨Aw, cw, rfl, hcw, hmw⟩ := hv.val
  clear hv SUB
  go_enter Tryz.func153, Tryz.ntmps153
  go_wp2_with fail
  have C0 := Lib.hid (SB.out i (w.alloc (.cells zX 24)) hi (by (repeat (first | with_reducible assumption | with_reducible exact Below.refl _ _ | with_reducible refine Below.setCell ?_ (by first | omega | (simp; done) | (simp; omega)) _ | with_reducible refine Below.alloc ?_ (by first | omega | (simp; done) | (simp; omega)) _ | with_reducible refine below_drewN ?_ _ | with_reducible refine Below.drew ?_))))
  refine C0.out.mono ?_
  rintro e2 w2 ⟨x0, v0, k0, rfl, hT0, hb2, hm0⟩
  have hz2 := hb2.size
  simp at hz2
  have hB4 : Blk w2 w.heap.size 24 zX := (Blk.new w _ _).below hb2 (by simp)
  have hbw2 : Below w.heap.size w w2 := by (repeat (first | with_reducible assumption | with_reducible exact Below.refl _ _ | with_reducible refine Below.setCell ?_ (by first | omega | (simp; done) | (simp; omega)) _ | with_reducible refine Below.alloc ?_ (by first | omega | (simp; done) | (simp; omega)) _ | with_reducible refine below_drewN ?_ _ | with_reducible refine Below.drew ?_ | with_reducible refine Below.trans ?_ (Below.mono hb2 (by first | omega | (simp; done) | (simp; omega)))))
  obtain ⟨A0, c0, rfl, hs0x⟩ := hT0.form3
  have hza : w.heap.size < w2.heap.size := hB4.lt
  have z0 := hB4.frozen 0; have z1 := hB4.frozen 1; have z2 := hB4.frozen 2; have z3 := hB4.frozen 3
  have y4 := hB4.cell 0; have y5 := hB4.cell 1; have y6 := hB4.cell 2; have y7 := hB4.cell 3
  simp [zX] at y4 y5 y6 y7
  have HI := Lib.hid (And.intro (hT0.widen (lo' := w.heap.size + 1) (by simp) (Nat.le_refl _)) (And.intro hbw2 (And.intro hB4 hm0)))
  clear hT0 hb2 hB4 C0
  rcases hm0 with ⟨hm, rfl⟩ | ⟨j, rfl, hj1, hj2, hm⟩
  · have HM := Lib.hid (show lv1 true held (ws.drop i) = none by unfold lv1; rw [hm])
    clear hm
    go_wp2_with fail
    refine bodyPost_ret (v := .tuple #[vX x0.kind x0.n x0.s (.slice A0 x0.kids.length c0), .int .i64 (-1)]) (by simp [results, Tryz.results153, go_sem, vX, y4, y5, y6, y7, hza]) rfl ?_
    obtain ⟨hT, hbw, _, _⟩ := HI.out
    exact ⟨x0, _, _, rfl, (((((hT.setN (b := w.heap.size) (by omega) 0 _).setN (b := w.heap.size) (by omega) 1 _).setN (b := w.heap.size) (by omega) 2 _).setN (b := w.heap.size) (by omega) 3 _).alloc _).widen (by omega) (by simp), by (repeat (first | with_reducible assumption | with_reducible exact Below.refl _ _ | with_reducible refine Below.setCell ?_ (by first | omega | (simp; done) | (simp; omega)) _ | with_reducible refine Below.alloc ?_ (by first | omega | (simp; done) | (simp; omega)) _ | with_reducible refine below_drewN ?_ _ | with_reducible refine Below.drew ?_ | with_reducible refine Below.trans ?_ (Below.mono hbw (by first | omega | (simp; done) | (simp; omega))))), .inl ⟨HM.out, rfl⟩⟩
  · have hbV : Below w.heap.size w (w2.alloc (.cells (bxE x0 A0 c0) 24)) := by (repeat (first | with_reducible assumption | with_reducible exact Below.refl _ _ | with_reducible refine Below.setCell ?_ (by first | omega | (simp; done) | (simp; omega)) _ | with_reducible refine Below.alloc ?_ (by first | omega | (simp; done) | (simp; omega)) _ | with_reducible refine below_drewN ?_ _ | with_reducible refine Below.drew ?_ | with_reducible refine Below.trans ?_ (Below.mono hbw2 (by first | omega | (simp; done) | (simp; omega)))))
    have AT := Lib.hid (spAt_any ws j _ _ (HV.out _ hbV))
    have HM := Lib.hid hm
    have hj40 : (j : Int) ≤ 40 := by omega
    have HJ := Lib.hid (And.intro hj1 hj2)
    by_cases hs : (ws[j]?).getD [] = [60]
    · have hlt : j < ws.length := by
        refine Decidable.byContradiction fun h => ?_
        rw [List.getElem?_eq_none (by omega)] at hs
        cases hs
      rw [hs] at AT
      have hwj : IntKind.i64.wrap ((j : Int) + 1) = (j : Int) + 1 := wrap_small (by omega)
      have CL := Lib.hid (SB.out (j + 1) (w2.alloc (.cells (bxE x0 A0 c0) 24)) (by omega) hbV)
      rw [show ((j + 1 : Nat) : Int) = (j : Int) + 1 by omega] at CL
      have HS := Lib.hid (And.intro hs hlt)
      clear hs hm hlt hj1 hj2
      go_wp2_with fail
      refine AT.out.mono ?_
      rintro e _ ⟨rfl, rfl⟩
      go_wp2_with fail
      refine CL.out.mono ?_
      rintro e w3 ⟨x3, v3, k3, rfl, hT3, hb3, hm3⟩
      obtain ⟨A3, c3, rfl, hs3x⟩ := hT3.form3
      have hB43 := ((HI.out.2.2.1).alloc (.cells (bxE x0 A0 c0) 24)).below hb3 (by simp; omega)
      have hB83 := (Blk.new w2 24 (bxE x0 A0 c0)).below hb3 (by simp)
      have hzb : w2.heap.size < w3.heap.size := hB83.lt
      have hzc : w.heap.size < w3.heap.size := hB43.lt
      clear z0 z1 z2 z3 y4 y5 y6 y7
      have z0 := hB43.frozen 0; have z1 := hB43.frozen 1; have z2 := hB43.frozen 2; have z3 := hB43.frozen 3
      have y4 := hB43.cell 0; have y5 := hB43.cell 1; have y6 := hB43.cell 2; have y7 := hB43.cell 3
      have p0 := hB83.cell 0; have p1 := hB83.cell 1; have p2 := hB83.cell 2; have p3 := hB83.cell 3
      simp [zX] at y4 y5 y6 y7 p0 p1 p2 p3
      have HY := Lib.hid (And.intro hT3 (And.intro hb3 hm3))
      have HBV := Lib.hid hbV
      clear hT3 hb3 hm3 hB43 hB83 CL hbV hbw2
      go_wp2_with fail
      refine bodyPost_ret (v := .tuple #[vX 3 0 [60] (.slice (some ⟨w3.heap.size + 1, 0, none⟩) 2 2), .int .i64 k3]) (by simp [results, Tryz.results153, go_sem, vX, bs, y4, y5, y6, y7, hzc, hzb]) rfl ?_
      obtain ⟨hT3, hb3, hm3⟩ := HY.out
      obtain ⟨hT, _, _, _⟩ := HI.out
      have hbV := HBV.out
      have hTa := (((((hT.alloc (.cells (bxE x0 A0 c0) 24)).ext hb3).setN (b := w.heap.size) (by omega) 0 (.int .i64 3)).setN (b := w.heap.size) (by omega) 1 (.int .i64 0)).setN (b := w.heap.size) (by omega) 2 (.string ⟨#[60]⟩)).setN (b := w.heap.size) (by omega) 3 (.slice (some ⟨w3.heap.size + 1, 0, none⟩) 2 2)
      have hTb := ((((hT3.widen (lo' := w2.heap.size + 1) (by simp) (Nat.le_refl _)).setN (b := w.heap.size) (by omega) 0 (.int .i64 3)).setN (b := w.heap.size) (by omega) 1 (.int .i64 0)).setN (b := w.heap.size) (by omega) 2 (.string ⟨#[60]⟩)).setN (b := w.heap.size) (by omega) 3 (.slice (some ⟨w3.heap.size + 1, 0, none⟩) 2 2)
      have hTa := (hTa.alloc (.cells (bxE x3 A3 c3) 24)).alloc (.cells #[.int .i64 x0.kind, .int .i64 x0.n, .string (bs x0.s), .slice A0 x0.kids.length c0, .int .i64 x3.kind, .int .i64 x3.n, .string (bs x3.s), .slice A3 x3.kids.length c3] 24)
      have hTb := (hTb.alloc (.cells (bxE x3 A3 c3) 24)).alloc (.cells #[.int .i64 x0.kind, .int .i64 x0.n, .string (bs x0.s), .slice A0 x0.kids.length c0, .int .i64 x3.kind, .int .i64 x3.n, .string (bs x3.s), .slice A3 x3.kids.length c3] 24)
      have h2 := (hTa.widen (hi' := w2.heap.size + 1) (Nat.le_refl _) (by omega)).two (k := 3) (n := 0) (s := [60]) (g := w3.heap.size + 1) (hi' := w3.heap.size + 2) hTb (by simp) (Blk.newAt (by simp)) (by omega) (by omega) (by omega) (by omega)
      refine ⟨.mk 3 0 [60] [x0, x3], _, _, rfl, h2.widen (by omega) (by first | omega | (simp; done) | (simp; omega)), by have hx := hbV.ext hb3; (repeat (first | with_reducible assumption | with_reducible exact Below.refl _ _ | with_reducible refine Below.setCell ?_ (by first | omega | (simp; done) | (simp; omega)) _ | with_reducible refine Below.alloc ?_ (by first | omega | (simp; done) | (simp; omega)) _ | with_reducible refine below_drewN ?_ _ | with_reducible refine Below.drew ?_ | with_reducible refine Below.trans ?_ (Below.mono hx (by first | omega | (simp; done) | (simp; omega))))), ?_⟩
      have hdr : ws.drop j = [60] :: ws.drop (j + 1) := by rw [drop_at HS.out.2, HS.out.1]
      rcases hm3 with ⟨h5, rfl⟩ | ⟨j3, rfl, h6, h7, h5⟩
      · left
        refine ⟨?_, rfl⟩
        unfold lv1
        rw [HM.out, hdr]
        simp only [loopW, if_true]
        rw [if_pos (show tgP [60] = 1 from rfl), h5]
      · right
        refine ⟨j3, rfl, by have := HJ.out; omega, h7, ?_⟩
        unfold lv1
        rw [HM.out, hdr]
        simp only [loopW, if_true]
        rw [if_pos (show tgP [60] = 1 from rfl), h5]
    · have HM2 := Lib.hid (show lv1 true held (ws.drop i) = some (x0, ws.drop j) by
        unfold lv1
        rw [hm]
        refine loopW_stop ?_
        intro w r e h
        have h1 : ws[j]? = some w := by
          have := congrArg (fun l : List Bytes => l[0]?) e
          simpa [List.getElem?_drop] using this
        rw [h1] at hs
        exact hs (tgP_one.1 h))
      have hd : (((ws[j]?).getD []) == [60]) = false := by simpa using hs
      generalize (ws[j]?).getD [] = s at *
      clear hs hm
      go_wp2_with fail
      refine AT.out.mono ?_
      rintro e _ ⟨rfl, rfl⟩
      go_wp2_with fail
      refine bodyPost_ret (v := .tuple #[vX x0.kind x0.n x0.s (.slice A0 x0.kids.length c0), .int .i64 (j : Int)]) (by simp [results, Tryz.results153, go_sem, vX, y4, y5, y6, y7, hza]) rfl ?_
      obtain ⟨hT, hbw, _, _⟩ := HI.out
      exact ⟨x0, _, _, rfl, (((((hT.setN (b := w.heap.size) (by omega) 0 _).setN (b := w.heap.size) (by omega) 1 _).setN (b := w.heap.size) (by omega) 2 _).setN (b := w.heap.size) (by omega) 3 _).alloc _).widen (by omega) (by simp), by (repeat (first | with_reducible assumption | with_reducible exact Below.refl _ _ | with_reducible refine Below.setCell ?_ (by first | omega | (simp; done) | (simp; omega)) _ | with_reducible refine Below.alloc ?_ (by first | omega | (simp; done) | (simp; omega)) _ | with_reducible refine below_drewN ?_ _ | with_reducible refine Below.drew ?_ | with_reducible refine Below.trans ?_ (Below.mono hbw (by first | omega | (simp; done) | (simp; omega))))), .inr ⟨j, rfl, HJ.out.1, HJ.out.2, HM2.out⟩⟩
end Go.Proofs.YtgakjhaepdigpaaGreatDoor
