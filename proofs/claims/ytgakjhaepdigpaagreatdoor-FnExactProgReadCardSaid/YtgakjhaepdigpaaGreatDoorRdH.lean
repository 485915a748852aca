
/- The program's reader of words: a number, a name, what is in brackets, types behind. -/
import Derived.Test.YtgakjhaepdigpaaGreatDoorRdIL
namespace Go.Proofs.YtgakjhaepdigpaaGreatDoor
set_option maxRecDepth 100000
set_option linter.unusedSimpArgs false
set_option linter.unusedVariables false
open Go.RowKit
attribute [local go_sem] bs_toList bs_get bs_size

theorem Rdr.setBad {w : World} {rb B d : Nat} {l : List Bytes} {bad : Bool} (h : Rdr w rb B l bad d) (b : Bool) : Rdr (w.setCell ⟨rb, 1, none⟩ (.bool b)) rb B l b d := by
  have hlt := h.lt
  obtain ⟨A, c, h1, h2, h3, h4⟩ := h
  exact ⟨A, c, by simpa using h1.set_ 1 (.bool b), h2.grown (r := some rb) (grown_st (grown_rfl w _) 1 _) (fun q e => by have := Option.some.inj e; omega) (by omega), h3, h4⟩
theorem Rdr.setDeep {w : World} {rb B d : Nat} {l : List Bytes} {bad : Bool} (h : Rdr w rb B l bad d) : Rdr (w.setCell ⟨rb, 2, none⟩ (.int .i64 ((d : Int) + 1))) rb B l bad (d + 1) := by
  have hlt := h.lt
  obtain ⟨A, c, h1, h2, h3, h4⟩ := h
  exact ⟨A, c, by simpa using h1.set_ 2 (.int .i64 ((d : Int) + 1)), h2.grown (r := some rb) (grown_st (grown_rfl w _) 2 _) (fun q e => by have := Option.some.inj e; omega) (by omega), h3, h4⟩
theorem Rdr.blk {w : World} {rb B d : Nat} {l : List Bytes} {bad : Bool} (h : Rdr w rb B l bad d) : ∃ A c, Blk w rb 104 #[.slice A l.length c, .bool bad, .int .i64 (d : Int)] := by
  obtain ⟨A, c, h1, _⟩ := h; exact ⟨A, c, h1⟩
/-- the answer, once what stands ahead of the types was read -/
def AsR (M : PR) (bad : Bool) (x : Ex) (r : List Bytes) : Prop := (bad = true ∧ M = none) ∨ (bad = false ∧ ∃ n, r.length ≤ n ∧ M = asW false n x r)
theorem AsR.stop {M : PR} {bad : Bool} {x : Ex} {r : List Bytes} (h : AsR M bad x r) (hs : atB r bad cAs = false) : M = (if bad then none else some (x, r)) := by
  rcases h with ⟨rfl, rfl⟩ | ⟨rfl, n, hn, rfl⟩
  · rfl
  · refine asW_stop ?_
    rintro w r' rfl rfl
    simp [atB] at hs
theorem AsR.step {M : PR} {x : Ex} {t : Bytes} {r : List Bytes} (h : AsR M false x (cAs :: t :: r)) : AsR M false (.mk 4 0 t [x]) r := by
  rcases h with ⟨h, _⟩ | ⟨_, n, hn, rfl⟩
  · cases h
  · simp only [List.length_cons] at hn
    obtain ⟨m, rfl⟩ : ∃ m, n = m + 1 := ⟨n - 1, by omega⟩
    exact .inr ⟨rfl, m, by omega, by simp [asW]⟩
theorem AsR.end_ {M : PR} {x y : Ex} (h : AsR M false x [cAs]) : AsR M true y [] := by
  rcases h with ⟨h, _⟩ | ⟨_, n, hn, rfl⟩
  · cases h
  · simp only [List.length_cons] at hn
    obtain ⟨m, rfl⟩ : ∃ m, n = m + 1 := ⟨n - 1, by omega⟩
    exact .inl ⟨rfl, by simp [asW]⟩
theorem TrN.leaf (b lo hi : Nat) (w : World) (k n : Int) (s : Bytes) (hs : s.length ≤ 9223372036854775807) : TrN b lo hi w (.agg (bxE (.mk k n s []) none 0)) (.mk k n s []) :=
  ⟨_, [], rfl, hs, .nil none 0 (by unfold maxLen; omega), Own.nil _ _, by simp⟩
/-- what stands behind the switch -/
def HeldMid (M : PR) (rb B : Nat) (l : List Bytes) (w wx : World) : Prop :=
  ∃ (x : Ex) (A : Option Addr) (c : Nat) (r : List Bytes) (bad : Bool) (d' : Nat), Blk wx w.heap.size 24 zX ∧ Blk wx (w.heap.size + 1) 24 (bxE x A c) ∧ x.s.length ≤ 9223372036854775807 ∧
    TrN (w.heap.size + 1) (w.heap.size + 1) wx.heap.size wx (.agg (bxE x A c)) x ∧ Rdr wx rb B r bad d' ∧ w.grownBy wx (some rb) ∧ AsR M bad x r ∧ d' + r.length ≤ 40 ∧ r.length ≤ l.length ∧ (bad = false → r.length < l.length)
def HeldMidN (n : Nat) (M : PR) (rb B : Nat) (l : List Bytes) (w wx : World) : Prop :=
  ∃ (x : Ex) (A : Option Addr) (c : Nat) (r : List Bytes) (bad : Bool) (d' : Nat), n = r.length ∧ Blk wx w.heap.size 24 zX ∧ Blk wx (w.heap.size + 1) 24 (bxE x A c) ∧ x.s.length ≤ 9223372036854775807 ∧
    TrN (w.heap.size + 1) (w.heap.size + 1) wx.heap.size wx (.agg (bxE x A c)) x ∧ Rdr wx rb B r bad d' ∧ w.grownBy wx (some rb) ∧ AsR M bad x r ∧ d' + r.length ≤ 40 ∧ r.length ≤ l.length ∧ (bad = false → r.length < l.length)
/-- a type was put behind: the part's row was laid behind the words -/
theorem asEndA {M : PR} {rb B d' : Nat} {l r1 : List Bytes} {w w5 : World} {x : Ex} {A : Option Addr} {c hi : Nat} (hrb : rb < w.heap.size) (hT : TrN (w.heap.size + 1) (w.heap.size + 1) hi w5 (.agg (bxE x A c)) x) (hhi : hi ≤ w5.heap.size) (hlo : w.heap.size + 1 < hi)
    (hR5 : Rdr w5 rb B r1.tail r1.isEmpty d') (hB2 : Blk w5 w.heap.size 24 zX) (hB3 : Blk w5 (w.heap.size + 1) 24 (bxE x A c)) (hgr : w.grownBy w5 (some rb)) (hA : AsR M false x (cAs :: r1)) (ht : (r1.head?.getD []).length ≤ 100000000)
    (hd : d' + (cAs :: r1).length ≤ 40) (hl : (cAs :: r1).length ≤ l.length) : HeldMidN r1.tail.length M rb B l w
      (((((w5.setCell ⟨w.heap.size + 1, 0, none⟩ (.int .i64 4)).setCell ⟨w.heap.size + 1, 1, none⟩ (.int .i64 0)).setCell ⟨w.heap.size + 1, 2, none⟩ (.string (bs (r1.head?.getD [])))).setCell ⟨w.heap.size + 1, 3, none⟩ (.slice (some ⟨w5.heap.size, 0, none⟩) 1 1)).alloc (.cells (bxE x A c) 24)) := by
  have hTz := (((hT.set_ (i := 0) (u := .int .i64 4)).set_ (i := 1) (u := .int .i64 0)).set_ (i := 2) (u := .string (bs (r1.head?.getD [])))).set_ (i := 3) (u := .slice (some ⟨w5.heap.size, 0, none⟩) 1 1)
  have hB2z := (((hB2.far (p := ⟨w.heap.size + 1, 0, none⟩) (by simp) (.int .i64 4)).far (p := ⟨w.heap.size + 1, 1, none⟩) (by simp) (.int .i64 0)).far (p := ⟨w.heap.size + 1, 2, none⟩) (by simp) (.string (bs (r1.head?.getD [])))).far (p := ⟨w.heap.size + 1, 3, none⟩) (by simp) (.slice (some ⟨w5.heap.size, 0, none⟩) 1 1)
  have hB3z := (((hB3.set_ 0 (.int .i64 4)).set_ 1 (.int .i64 0)).set_ 2 (.string (bs (r1.head?.getD [])))).set_ 3 (.slice (some ⟨w5.heap.size, 0, none⟩) 1 1)
  have hRz := (((hR5.setN (b := w.heap.size + 1) (by omega) 0 (.int .i64 4)).setN (b := w.heap.size + 1) (by omega) 1 (.int .i64 0)).setN (b := w.heap.size + 1) (by omega) 2 (.string (bs (r1.head?.getD [])))).setN (b := w.heap.size + 1) (by omega) 3 (.slice (some ⟨w5.heap.size, 0, none⟩) 1 1)
  have hgz := grown_sn (grown_sn (grown_sn (grown_sn hgr (b := w.heap.size + 1) (by omega) 0 (.int .i64 4)) (b := w.heap.size + 1) (by omega) 1 (.int .i64 0)) (b := w.heap.size + 1) (by omega) 2 (.string (bs (r1.head?.getD [])))) (b := w.heap.size + 1) (by omega) 3 (.slice (some ⟨w5.heap.size, 0, none⟩) 1 1)
  have hsz : ((((w5.setCell ⟨w.heap.size + 1, 0, none⟩ (.int .i64 4)).setCell ⟨w.heap.size + 1, 1, none⟩ (.int .i64 0)).setCell ⟨w.heap.size + 1, 2, none⟩ (.string (bs (r1.head?.getD [])))).setCell ⟨w.heap.size + 1, 3, none⟩ (.slice (some ⟨w5.heap.size, 0, none⟩) 1 1)).heap.size = w5.heap.size := by simp
  have hB3y : Blk ((((w5.setCell ⟨w.heap.size + 1, 0, none⟩ (.int .i64 4)).setCell ⟨w.heap.size + 1, 1, none⟩ (.int .i64 0)).setCell ⟨w.heap.size + 1, 2, none⟩ (.string (bs (r1.head?.getD [])))).setCell ⟨w.heap.size + 1, 3, none⟩ (.slice (some ⟨w5.heap.size, 0, none⟩) 1 1)) (w.heap.size + 1) 24 (bxE (.mk 4 0 (r1.head?.getD []) [x]) (some ⟨w5.heap.size, 0, none⟩) 1) := by simpa [bxE, Ex.kind, Ex.n, Ex.s, Ex.kids] using hB3z
  generalize ((((w5.setCell ⟨w.heap.size + 1, 0, none⟩ (.int .i64 4)).setCell ⟨w.heap.size + 1, 1, none⟩ (.int .i64 0)).setCell ⟨w.heap.size + 1, 2, none⟩ (.string (bs (r1.head?.getD [])))).setCell ⟨w.heap.size + 1, 3, none⟩ (.slice (some ⟨w5.heap.size, 0, none⟩) 1 1)) = V at *
  have hbk := Blk.newAt (w := V) (t := 24) (cs := bxE x A c) hsz
  have h2 := (hTz.alloc (.cells (bxE x A c) 24)).one (k := 4) (n := 0) (s := r1.head?.getD []) (hi' := w5.heap.size + 1) (by omega) hbk hhi (by omega) (by omega) (by omega)
  simp only [List.length_cons] at hd hl
  refine ⟨.mk 4 0 (r1.head?.getD []) [x], some ⟨w5.heap.size, 0, none⟩, 1, r1.tail, r1.isEmpty, d', rfl, hB2z.alloc _, hB3y.alloc _, by show (r1.head?.getD []).length ≤ _; omega, h2.widen (Nat.le_refl _) (by rw [World.size_alloc]; omega), hRz.alloc _, grown_al hgz _, ?_, by rw [List.length_tail]; omega, by rw [List.length_tail]; omega, fun _ => by rw [List.length_tail]; omega⟩
  cases r1 with
  | nil => exact hA.end_
  | cons t r => exact hA.step
/-- the part's row was laid ahead of the words -/
theorem asEndB {M : PR} {rb B d' g : Nat} {l r1 : List Bytes} {w w5 : World} {x : Ex} {A : Option Addr} {c hi : Nat} (hrb : rb < w.heap.size) (hT : TrN (w.heap.size + 1) (w.heap.size + 1) hi w5 (.agg (bxE x A c)) x) (hhi : hi ≤ g) (hlo : w.heap.size + 1 < hi) (hbg : Blk w5 g 24 (bxE x A c))
    (hR5 : Rdr w5 rb B r1.tail r1.isEmpty d') (hB2 : Blk w5 w.heap.size 24 zX) (hB3 : Blk w5 (w.heap.size + 1) 24 (bxE x A c)) (hgr : w.grownBy w5 (some rb)) (hA : AsR M false x (cAs :: r1)) (ht : (r1.head?.getD []).length ≤ 100000000)
    (hd : d' + (cAs :: r1).length ≤ 40) (hl : (cAs :: r1).length ≤ l.length) : HeldMidN r1.tail.length M rb B l w
      ((((w5.setCell ⟨w.heap.size + 1, 0, none⟩ (.int .i64 4)).setCell ⟨w.heap.size + 1, 1, none⟩ (.int .i64 0)).setCell ⟨w.heap.size + 1, 2, none⟩ (.string (bs (r1.head?.getD [])))).setCell ⟨w.heap.size + 1, 3, none⟩ (.slice (some ⟨g, 0, none⟩) 1 1)) := by
  have hTz := (((hT.set_ (i := 0) (u := .int .i64 4)).set_ (i := 1) (u := .int .i64 0)).set_ (i := 2) (u := .string (bs (r1.head?.getD [])))).set_ (i := 3) (u := .slice (some ⟨g, 0, none⟩) 1 1)
  have hB2z := (((hB2.far (p := ⟨w.heap.size + 1, 0, none⟩) (by simp) (.int .i64 4)).far (p := ⟨w.heap.size + 1, 1, none⟩) (by simp) (.int .i64 0)).far (p := ⟨w.heap.size + 1, 2, none⟩) (by simp) (.string (bs (r1.head?.getD [])))).far (p := ⟨w.heap.size + 1, 3, none⟩) (by simp) (.slice (some ⟨g, 0, none⟩) 1 1)
  have hgl := hbg.lt
  have hbgz := (((hbg.far (p := ⟨w.heap.size + 1, 0, none⟩) (by simp; omega) (.int .i64 4)).far (p := ⟨w.heap.size + 1, 1, none⟩) (by simp; omega) (.int .i64 0)).far (p := ⟨w.heap.size + 1, 2, none⟩) (by simp; omega) (.string (bs (r1.head?.getD [])))).far (p := ⟨w.heap.size + 1, 3, none⟩) (by simp; omega) (.slice (some ⟨g, 0, none⟩) 1 1)
  have hB3z := (((hB3.set_ 0 (.int .i64 4)).set_ 1 (.int .i64 0)).set_ 2 (.string (bs (r1.head?.getD [])))).set_ 3 (.slice (some ⟨g, 0, none⟩) 1 1)
  have hRz := (((hR5.setN (b := w.heap.size + 1) (by omega) 0 (.int .i64 4)).setN (b := w.heap.size + 1) (by omega) 1 (.int .i64 0)).setN (b := w.heap.size + 1) (by omega) 2 (.string (bs (r1.head?.getD [])))).setN (b := w.heap.size + 1) (by omega) 3 (.slice (some ⟨g, 0, none⟩) 1 1)
  have hgz := grown_sn (grown_sn (grown_sn (grown_sn hgr (b := w.heap.size + 1) (by omega) 0 (.int .i64 4)) (b := w.heap.size + 1) (by omega) 1 (.int .i64 0)) (b := w.heap.size + 1) (by omega) 2 (.string (bs (r1.head?.getD [])))) (b := w.heap.size + 1) (by omega) 3 (.slice (some ⟨g, 0, none⟩) 1 1)
  have hsz : ((((w5.setCell ⟨w.heap.size + 1, 0, none⟩ (.int .i64 4)).setCell ⟨w.heap.size + 1, 1, none⟩ (.int .i64 0)).setCell ⟨w.heap.size + 1, 2, none⟩ (.string (bs (r1.head?.getD [])))).setCell ⟨w.heap.size + 1, 3, none⟩ (.slice (some ⟨g, 0, none⟩) 1 1)).heap.size = w5.heap.size := by simp
  have hB3y : Blk ((((w5.setCell ⟨w.heap.size + 1, 0, none⟩ (.int .i64 4)).setCell ⟨w.heap.size + 1, 1, none⟩ (.int .i64 0)).setCell ⟨w.heap.size + 1, 2, none⟩ (.string (bs (r1.head?.getD [])))).setCell ⟨w.heap.size + 1, 3, none⟩ (.slice (some ⟨g, 0, none⟩) 1 1)) (w.heap.size + 1) 24 (bxE (.mk 4 0 (r1.head?.getD []) [x]) (some ⟨g, 0, none⟩) 1) := by simpa [bxE, Ex.kind, Ex.n, Ex.s, Ex.kids] using hB3z
  generalize ((((w5.setCell ⟨w.heap.size + 1, 0, none⟩ (.int .i64 4)).setCell ⟨w.heap.size + 1, 1, none⟩ (.int .i64 0)).setCell ⟨w.heap.size + 1, 2, none⟩ (.string (bs (r1.head?.getD [])))).setCell ⟨w.heap.size + 1, 3, none⟩ (.slice (some ⟨g, 0, none⟩) 1 1)) = V at *
  have h2 := hTz.one (k := 4) (n := 0) (s := r1.head?.getD []) (hi' := w5.heap.size) (by omega) hbgz hhi (by omega) hgl (by omega)
  simp only [List.length_cons] at hd hl
  refine ⟨.mk 4 0 (r1.head?.getD []) [x], some ⟨g, 0, none⟩, 1, r1.tail, r1.isEmpty, d', rfl, hB2z, hB3y, by show (r1.head?.getD []).length ≤ _; omega, h2.widen (Nat.le_refl _) (by omega), hRz, hgz, ?_, by rw [List.length_tail]; omega, by rw [List.length_tail]; omega, fun _ => by rw [List.length_tail]; omega⟩
  cases r1 with
  | nil => exact hA.end_
  | cons t r => exact hA.step
set_option maxHeartbeats 4000000 in
theorem held_step (rb B f : Nat) (LV1 : ∀ f', f = f' + 1 → ReadsAs rb B f' 86 [.int .i64 1] (lv1 false (atomW false f'))) : ReadsAs rb B f 135 [] (atomW false f) := by
  intro l d w hR hd hN hE
  show Calls Tryz.prog 135 #[.pointer (some ⟨rb, 0, none⟩)] w (LvP (atomW false f l) rb B l w)
  have hrb := hR.lt
  have hB : B ≤ rb := by obtain ⟨_, _, _, _, h, _⟩ := hR; exact h
  have hq0 : w.heap.size ≠ rb := by omega
  have hq1 : w.heap.size + 1 ≠ rb := by omega
  have hsl : (l.head?.getD []).length ≤ 100000000 := by
    obtain ⟨_, _, _, _, _, h4⟩ := hR
    cases l with
    | nil => simp
    | cons s l => exact h4 s (by simp)
  have HE := Lib.hid hE
  have HL := Lib.hid (And.intro LV1 (And.intro hN hd))
  have NX := Lib.hid (next_any rb B d false l _ ((hR.alloc (.cells zX 24)).alloc (.cells zX 24)))
  clear LV1 hE hN hR hd
  go_enter Tryz.func135, Tryz.ntmps135
  go_wp2_with fail
  refine NX.out.mono ?_
  rintro e2 w2 ⟨rfl, hR2, hg2, hz2⟩
  simp at hz2
  have hgw2 : w.grownBy w2 (some rb) := grown_tr (grown_al (grown_al (grown_rfl _ _) _) _) hg2
  have hB2 : Blk w2 w.heap.size 24 zX := blk_gr ((Blk.new w _ _).alloc _) hg2 hq0
  have hB3 : Blk w2 (w.heap.size + 1) 24 zX := blk_gr (Blk.newAt (by simp)) hg2 hq1
  have HZ2 := Lib.hid hz2
  have hzl2 : w.heap.size + 1 < w2.heap.size := by omega
  simp only [Bool.false_or] at hR2
  clear hz2 NX hg2
  go_wp2_with fail
  refine (imNumber_any (l.head?.getD []) w2 hsl (HE.out.grown hgw2 hB hrb).env).mono ?_
  rintro e3 w3 ⟨n, rfl, hn, hb3⟩
  have hgw3 : w.grownBy w3 (some rb) := grown_bel hgw2 hb3
  have hR3 := hR2.ext hb3
  skip; replace hB2 := hB2.below hb3 hB2.lt; replace hB3 := hB3.below hb3 hB3.lt
  have hzl3 : w.heap.size + 1 < w3.heap.size := by have := hb3.size; omega
  clear hR2 hgw2 hb3 hzl2
  go_upto_block 0 with fail
  go_cut [4, 5, 6, 8, 9, 10, 11, 12, 13, 64] (fun _ _ _ _ _ _ _ _ _ _ wx => HeldMid (atomW false f l) rb B l w wx)
  case first =>
    by_cases hs : l.head? = some [40]
    · obtain ⟨r, rfl⟩ : ∃ r, l = [40] :: r := by
        cases l with
        | nil => simp at hs
        | cons a r => simp at hs; exact ⟨r, by rw [hs]⟩
      clear hs hn hsl
      simp only [List.head?_cons, Option.getD_some, List.tail_cons, List.isEmpty_cons] at hR3 ⊢
      obtain ⟨f', rfl⟩ : ∃ f', f = f' + 1 := ⟨f - 1, by have := HL.out.2.1; simp only [List.length_cons] at this; omega⟩
      have hdr : d + 1 + r.length ≤ 40 := by have := HL.out.2.2; simp only [List.length_cons] at this; omega
      have hd1 : (d : Int) + 1 ≤ 40 := by omega
      have hwd : IntKind.i64.wrap ((d : Int) + 1) = (d : Int) + 1 := wrap_small (by omega)
      have hgt : decide (40 < (d : Int) + 1) = false := by simp; omega
      have hRa := hR3.setDeep.setBad false
      have hga : w.grownBy ((w3.setCell ⟨rb, 2, none⟩ (.int .i64 ((d : Int) + 1))).setCell ⟨rb, 1, none⟩ (.bool false)) (some rb) := grown_st (grown_st hgw3 _ _) _ _
      have CL := Lib.hid (show Calls Tryz.prog 86 #[.pointer (some ⟨rb, 0, none⟩), .int .i64 1] _ (LvP (lv1 false (atomW false f') r) rb B r _) from HL.out.1 f' rfl r (d + 1) _ hRa hdr (by have := HL.out.2.1; simp only [List.length_cons] at this; omega) (HE.out.grown hga hB hrb))
      obtain ⟨A, c, hb⟩ := hR3.blk
      have q0 := hb.cell 0; have q1 := hb.cell 1; have q2 := hb.cell 2
      have z1 := hb.frozen 1; have z2 := hb.frozen 2
      simp at q0 q1 q2
      have HX := Lib.hid (And.intro hga (And.intro hB2 hB3))
      clear hb hR3 hRa hga hB2 hB3 hdr
      go_wp2_with fail
      refine CL.out.mono ?_
      rintro e4 w4 ⟨x4, v4, r4, bad4, d4, rfl, hT4, hR4, hg4, hm4, hd4, hl4, hs4⟩
      obtain ⟨A4, c4, rfl, hs4x⟩ := hT4.form3
      have hz4 : w.heap.size + 1 < w4.heap.size := by have := hg4.size; simp at this; omega
      have hBb2 := blk_gr ((HX.out.2.1.far (p := ⟨rb, 2, none⟩) (by simpa using hq0) (.int .i64 ((d : Int) + 1))).far (p := ⟨rb, 1, none⟩) (by simpa using hq0) (.bool false)) hg4 hq0
      have hBb3 := blk_gr ((HX.out.2.2.far (p := ⟨rb, 2, none⟩) (by simpa using hq1) (.int .i64 ((d : Int) + 1))).far (p := ⟨rb, 1, none⟩) (by simpa using hq1) (.bool false)) hg4 hq1
      have z3 := hBb3.frozen 0; have z4 := hBb3.frozen 1; have z5 := hBb3.frozen 2; have z6 := hBb3.frozen 3
      have p3 := hBb3.cell 0; have p4 := hBb3.cell 1; have p5 := hBb3.cell 2; have p6 := hBb3.cell 3
      simp at p3 p4 p5 p6
      have hgw4 := grown_tr HX.out.1 hg4
      have hTz := ((((hT4.avoid (b := w.heap.size + 1) (.inl (by simp; omega))).set_ (i := 0) (u := .int .i64 x4.kind)).set_ (i := 1) (u := .int .i64 x4.n)).set_ (i := 2) (u := .string (bs x4.s))).set_ (i := 3) (u := .slice A4 x4.kids.length c4)
      have hB2z := (((hBb2.far (p := ⟨w.heap.size + 1, 0, none⟩) (by simp) (.int .i64 x4.kind)).far (p := ⟨w.heap.size + 1, 1, none⟩) (by simp) (.int .i64 x4.n)).far (p := ⟨w.heap.size + 1, 2, none⟩) (by simp) (.string (bs x4.s))).far (p := ⟨w.heap.size + 1, 3, none⟩) (by simp) (.slice A4 x4.kids.length c4)
      have hB3z := (((hBb3.set_ 0 (.int .i64 x4.kind)).set_ 1 (.int .i64 x4.n)).set_ 2 (.string (bs x4.s))).set_ 3 (.slice A4 x4.kids.length c4)
      have hRz := (((hR4.setN (b := w.heap.size + 1) (by omega) 0 (.int .i64 x4.kind)).setN (b := w.heap.size + 1) (by omega) 1 (.int .i64 x4.n)).setN (b := w.heap.size + 1) (by omega) 2 (.string (bs x4.s))).setN (b := w.heap.size + 1) (by omega) 3 (.slice A4 x4.kids.length c4)
      have hgz := grown_sn (grown_sn (grown_sn (grown_sn hgw4 (b := w.heap.size + 1) (by omega) 0 (.int .i64 x4.kind)) (b := w.heap.size + 1) (by omega) 1 (.int .i64 x4.n)) (b := w.heap.size + 1) (by omega) 2 (.string (bs x4.s))) (b := w.heap.size + 1) (by omega) 3 (.slice A4 x4.kids.length c4)
      have hB3z : Blk ((((w4.setCell ⟨w.heap.size + 1, 0, none⟩ (.int .i64 x4.kind)).setCell ⟨w.heap.size + 1, 1, none⟩ (.int .i64 x4.n)).setCell ⟨w.heap.size + 1, 2, none⟩ (.string (bs x4.s))).setCell ⟨w.heap.size + 1, 3, none⟩ (.slice A4 x4.kids.length c4)) (w.heap.size + 1) 24 (bxE x4 A4 c4) := by simpa [bxE] using hB3z
      have hsz : ((((w4.setCell ⟨w.heap.size + 1, 0, none⟩ (.int .i64 x4.kind)).setCell ⟨w.heap.size + 1, 1, none⟩ (.int .i64 x4.n)).setCell ⟨w.heap.size + 1, 2, none⟩ (.string (bs x4.s))).setCell ⟨w.heap.size + 1, 3, none⟩ (.slice A4 x4.kids.length c4)).heap.size = w4.heap.size := by simp
      have NX4 := Lib.hid (next_any rb B d4 bad4 r4 _ hRz)
      obtain ⟨A5, c5, hb5⟩ := hRz.blk
      have q1' := hb5.cell 1
      have z1' := hb5.frozen 1
      simp at q1'
      have HM := Lib.hid hm4
      have HY := Lib.hid (And.intro hTz (And.intro hB2z (And.intro hB3z (And.intro hRz (And.intro hgz (And.intro hsz (And.intro hd4 (And.intro hl4 hs4))))))))
      clear hT4 hR4 hg4 hm4 hd4 hl4 hs4 hBb2 hBb3 hgw4 hTz hB2z hB3z hRz hgz hsz hb5 q0 q1 q2 z1 z2
      cases bad4
      · have HSH := Lib.hid (show atomW false (f' + 1) ([40] :: r) = shutW false (some (x4, r4)) by simp [atomW, HM.out])
        by_cases hc : r4.head? = some [41]
        · obtain ⟨r5, rfl⟩ : ∃ r5, r4 = [41] :: r5 := by
            cases r4 with
            | nil => simp at hc
            | cons a r => simp at hc; exact ⟨r, by rw [hc]⟩
          clear hc
          go_wp2_with fail
          refine NX4.out.mono ?_
          rintro e5 w5 ⟨rfl, hR5, hg5, hz5⟩
          simp only [List.head?_cons, Option.getD_some, List.tail_cons, List.isEmpty_cons, Bool.or_false] at hR5 ⊢
          obtain ⟨A6, c6, hb6⟩ := hR5.blk
          have q5 := hb6.cell 1
          have z5' := hb6.frozen 1
          simp at q5
          have HZ5 := Lib.hid hz5
          clear hz5 hb6
          go_wp2_with fail
          go_meet
          obtain ⟨hTz, hB2z, hB3z, hRz, hgz, hsz, hd4, hl4, hs4⟩ := HY.out
          have hz5 := HZ5.out
          refine ⟨x4, A4, c4, r5, false, d4, (blk_gr hB2z hg5 hq0).far (by simpa using hq0) _, (blk_gr hB3z hg5 hq1).far (by simpa using hq1) _, hs4x, ?_, hR5.setBad false, grown_st (grown_tr hgz hg5) _ _, .inr ⟨rfl, r5.length, Nat.le_refl _, by rw [HSH.out]; simp [shutW]⟩, by simp only [List.length_cons] at hd4; omega, by simp only [List.length_cons] at hl4 ⊢; omega, fun _ => by simp only [List.length_cons] at hl4 ⊢; omega⟩
          exact (((hTz.grown hg5 (by first | omega | (simp; done) | (simp only [List.length_cons, List.length_nil, List.length_append]; omega) | (simp; omega))).grown (grown_st (grown_rfl _ _) 1 (.bool false)) (by first | omega | (simp; done) | (simp only [List.length_cons, List.length_nil, List.length_append]; omega) | (simp; omega))).widen (by first | omega | (simp; done) | (simp only [List.length_cons, List.length_nil, List.length_append]; omega) | (simp; omega)) (by rw [World.size_setCell, hz5, hsz]; exact Nat.le_refl _))
        · have hcn : (r4.head?.getD []) ≠ [41] := by
            cases r4 with
            | nil => simp
            | cons a r => simpa using hc
          have hnone : shutW false (some (x4, r4)) = none := by
            cases r4 with
            | nil => rfl
            | cons a r => simp only [shutW]; rw [if_neg (by simpa using hc)]
          have HSN := Lib.hid (HSH.out.trans hnone)
          have hcb : ((r4.head?.getD []) == [41]) = false := by simpa using hcn
          have hcb2 : ((r4.head?.getD []) != [41]) = true := by simpa using hcn
          clear hc hnone hcn
          go_wp2_with fail
          refine NX4.out.mono ?_
          rintro e5 w5 ⟨rfl, hR5, hg5, hz5⟩
          obtain ⟨A6, c6, hb6⟩ := hR5.blk
          have q5 := hb6.cell 1
          have z5' := hb6.frozen 1
          simp at q5
          have HZ5 := Lib.hid hz5
          generalize r4.head?.getD [] = s5 at *
          clear hz5 hb6
          go_wp2_with fail
          go_meet
          obtain ⟨hTz, hB2z, hB3z, hRz, hgz, hsz, hd4, hl4, hs4⟩ := HY.out
          have hz5 := HZ5.out
          have htl : r4.tail.length ≤ r4.length := by rw [List.length_tail]; omega
          refine ⟨x4, A4, c4, r4.tail, true, d4, (blk_gr hB2z hg5 hq0).far (by simpa using hq0) _, (blk_gr hB3z hg5 hq1).far (by simpa using hq1) _, hs4x, ?_, hR5.setBad true, grown_st (grown_tr hgz hg5) _ _, .inl ⟨rfl, HSN.out⟩, by omega, by simp only [List.length_cons]; omega, fun h => by cases h⟩
          exact (((hTz.grown hg5 (by first | omega | (simp; done) | (simp only [List.length_cons, List.length_nil, List.length_append]; omega) | (simp; omega))).grown (grown_st (grown_rfl _ _) 1 (.bool true)) (by first | omega | (simp; done) | (simp only [List.length_cons, List.length_nil, List.length_append]; omega) | (simp; omega))).widen (by first | omega | (simp; done) | (simp only [List.length_cons, List.length_nil, List.length_append]; omega) | (simp; omega)) (by rw [World.size_setCell, hz5, hsz]; exact Nat.le_refl _))
      · go_wp2_with fail
        go_meet
        obtain ⟨hTz, hB2z, hB3z, hRz, hgz, hsz, hd4, hl4, hs4⟩ := HY.out
        refine ⟨x4, A4, c4, r4, true, d4, hB2z.far (by simpa using hq0) _, hB3z.far (by simpa using hq1) _, hs4x, ?_, hRz.setBad true, grown_st hgz _ _, .inl ⟨rfl, by simp [atomW, HM.out, shutW]⟩, hd4, by simp only [List.length_cons]; omega, fun h => by cases h⟩
        exact ((hTz.grown (grown_st (grown_rfl _ _) 1 (.bool true)) (by first | omega | (simp; done) | (simp only [List.length_cons, List.length_nil, List.length_append]; omega) | (simp; omega))).widen (by first | omega | (simp; done) | (simp only [List.length_cons, List.length_nil, List.length_append]; omega) | (simp; omega)) (by first | omega | (simp; done) | (simp only [List.length_cons, List.length_nil, List.length_append]; omega) | (simp; omega)))
    · have hb2' := hB3.cell 0; have hb3' := hB3.cell 1; have hb4' := hB3.cell 2; have hb5' := hB3.cell 3
      have z3 := hB3.frozen 0; have z4 := hB3.frozen 1; have z5 := hB3.frozen 2; have z6 := hB3.frozen 3
      simp at hb2' hb3' hb4' hb5'
      have hcn : (l.head?.getD []) ≠ [40] := by
        cases l with
        | nil => simp
        | cons a r => simpa using hs
      have hcb : ((l.head?.getD []) == [40]) = false := by simpa using hcn
      have HC := Lib.hid (And.intro hs hcn)
      clear hcn hs
      cases hnb : numB (l.head?.getD [])
      · have HNB := Lib.hid hnb
        cases hnm : nameB (l.head?.getD [])
        · have hM : atomW false f l = none := by
            cases l with
            | nil => cases f <;> rfl
            | cons a r =>
              simp only [List.head?_cons, Option.getD_some] at hnb hnm
              rw [atomW_leaf (by simpa using HC.out.1)]
              simp [leafW, hnb, hnm]
          have HM := Lib.hid hM
          have NM := Lib.hid (imName_any (l.head?.getD []) w3 (by omega) (HE.out.grown hgw3 hB hrb).env.env)
          rw [hnm] at NM
          obtain ⟨A, c, hbb⟩ := hR3.blk
          have q1 := hbb.cell 1
          have zz := hbb.frozen 1
          simp at q1
          have HX := Lib.hid (And.intro hR3 (And.intro hgw3 (And.intro hB2 hB3)))
          clear hM hnm hn hR3 hgw3 hB2 hB3 hbb
          (try rw [hnb])
          generalize hgl : l.head?.getD [] = s at *
          clear hgl hnb
          go_wp2_with fail
          refine NM.out.mono ?_
          rintro e _ ⟨rfl, rfl⟩
          go_wp2_with fail
          go_meet
          obtain ⟨hR3, hgw3, hB2, hB3⟩ := HX.out
          have htl : l.tail.length ≤ l.length := by rw [List.length_tail]; omega
          exact ⟨.mk 0 0 [] [], none, 0, l.tail, true, d, hB2.far (by simpa using hq0) _, hB3.far (by simpa using hq1) _, by show ([] : Bytes).length ≤ _; simp, TrN.leaf _ _ _ _ _ _ _ (by simp), hR3.setBad true, grown_st hgw3 _ _, .inl ⟨rfl, HM.out⟩, by have := HL.out.2.2; omega, htl, fun h => by cases h⟩
        · obtain ⟨s, r, rfl⟩ : ∃ s r, l = s :: r := by
            cases l with
            | nil => exact absurd hnm (by decide)
            | cons s r => exact ⟨s, r, rfl⟩
          simp only [List.head?_cons, Option.getD_some, List.tail_cons, List.isEmpty_cons] at hnb hnm hR3 hcb hsl ⊢
          have hM : atomW false f (s :: r) = asW false r.length (.mk 2 0 s []) r := by
            rw [atomW_leaf (by simpa using HC.out.1)]
            simp [leafW, hnb, hnm]
          have HM := Lib.hid hM
          have NM := Lib.hid (imName_any s w3 (by omega) (HE.out.grown hgw3 hB hrb).env.env)
          rw [hnm] at NM
          have HX := Lib.hid (And.intro hR3 (And.intro hgw3 (And.intro hB2 hB3)))
          clear hM hnm hn hR3 hgw3 hB2 hB3
          (try rw [hnb])
          clear hnb
          go_wp2_with fail
          refine NM.out.mono ?_
          rintro e _ ⟨rfl, rfl⟩
          go_wp2_with fail
          go_meet
          obtain ⟨hR3, hgw3, hB2, hB3⟩ := HX.out
          have hB3z := (((hB3.set_ 0 (.int .i64 2)).set_ 1 (.int .i64 0)).set_ 2 (.string (bs s))).set_ 3 (.slice none 0 0)
          exact ⟨.mk 2 0 s [], none, 0, r, false, d, (((hB2.far (p := ⟨w.heap.size + 1, 0, none⟩) (by simp) _).far (p := ⟨w.heap.size + 1, 1, none⟩) (by simp) _).far (p := ⟨w.heap.size + 1, 2, none⟩) (by simp) _).far (p := ⟨w.heap.size + 1, 3, none⟩) (by simp) _, by simpa [bxE, Ex.kind, Ex.n, Ex.s, Ex.kids] using hB3z, by show s.length ≤ _; omega, TrN.leaf _ _ _ _ _ _ _ (by omega),
            (((hR3.setN (b := w.heap.size + 1) (by omega) 0 _).setN (b := w.heap.size + 1) (by omega) 1 _).setN (b := w.heap.size + 1) (by omega) 2 _).setN (b := w.heap.size + 1) (by omega) 3 _, grown_sn (grown_sn (grown_sn (grown_sn hgw3 (by omega) _ _) (by omega) _ _) (by omega) _ _) (by omega) _ _,
            .inr ⟨rfl, r.length, Nat.le_refl _, HM.out⟩, by have := HL.out.2.2; simp only [List.length_cons] at this; omega, by simp, fun _ => by simp⟩
      · obtain ⟨s, r, rfl⟩ : ∃ s r, l = s :: r := by
          cases l with
          | nil => exact absurd hnb (by decide)
          | cons s r => exact ⟨s, r, rfl⟩
        simp only [List.head?_cons, Option.getD_some, List.tail_cons, List.isEmpty_cons] at hnb hR3 hcb hsl hn ⊢
        obtain rfl := hn hnb
        have hM : atomW false f (s :: r) = asW false r.length (.mk 1 (digVal s) [] []) r := by
          rw [atomW_leaf (by simpa using HC.out.1)]
          simp [leafW, hnb]
        have HM := Lib.hid hM
        have HX := Lib.hid (And.intro hR3 (And.intro hgw3 (And.intro hB2 hB3)))
        clear hM hn hR3 hgw3 hB2 hB3
        (try rw [hnb])
        clear hnb
        go_wp2_with fail
        go_meet
        obtain ⟨hR3, hgw3, hB2, hB3⟩ := HX.out
        have hB3z := (((hB3.set_ 0 (.int .i64 1)).set_ 1 (.int .i64 (digVal s))).set_ 2 (.string ⟨#[]⟩)).set_ 3 (.slice none 0 0)
        exact ⟨.mk 1 (digVal s) [] [], none, 0, r, false, d, (((hB2.far (p := ⟨w.heap.size + 1, 0, none⟩) (by simp) _).far (p := ⟨w.heap.size + 1, 1, none⟩) (by simp) _).far (p := ⟨w.heap.size + 1, 2, none⟩) (by simp) _).far (p := ⟨w.heap.size + 1, 3, none⟩) (by simp) _, by simpa [bxE, Ex.kind, Ex.n, Ex.s, Ex.kids, bs] using hB3z, by show ([] : Bytes).length ≤ _; simp, TrN.leaf _ _ _ _ _ _ _ (by simp),
          (((hR3.setN (b := w.heap.size + 1) (by omega) 0 _).setN (b := w.heap.size + 1) (by omega) 1 _).setN (b := w.heap.size + 1) (by omega) 2 _).setN (b := w.heap.size + 1) (by omega) 3 _, grown_sn (grown_sn (grown_sn (grown_sn hgw3 (by omega) _ _) (by omega) _ _) (by omega) _ _) (by omega) _ _,
          .inr ⟨rfl, r.length, Nat.le_refl _, HM.out⟩, by have := HL.out.2.2; simp only [List.length_cons] at this; omega, by simp, fun _ => by simp⟩
  case rest =>
    obtain ⟨x0, A0, c0, r0, bad0, d0, hcut⟩ := hcut
    have HC := Lib.hid hcut
    clear hcut hR3 hgw3 hB2 hB3 hn hsl HL
    generalize atomW false f l = M at *
    go_wp2_with fail
    go_loopg [72] r0.length (fun n _ wr => HeldMidN n M rb B l w wr)
    case atStart => exact ⟨x0, A0, c0, r0, bad0, d0, rfl, HC.out⟩
    case round =>
      clear HC
      obtain ⟨x, A, c, r, bad, d', hn, hB2, hB3, hsx, hT, hR, hgr, hA, hd, hl, hs⟩ := hrel
      have HK := Lib.hid hn
      have hzr : w.heap.size + 1 < wr.heap.size := hB3.lt
      have AT := Lib.hid (at_any rb B d' wr.heap.size bad r cAs (wr.alloc (.cells #[.string (bs cAs)] 9)) (hR.alloc _) (Blk.new _ _ _))
      have HX := Lib.hid (And.intro hT (And.intro hR (And.intro hgr (And.intro hA (And.intro hd (And.intro hl (And.intro hs (And.intro hB2 hB3))))))))
      clear hn hT hR hgr hA hl hs
      cases hat : atB r bad cAs
      · have HS := Lib.hid hat
        rw [hat] at AT
        have z0 := hB2.frozen 0; have z1 := hB2.frozen 1; have z2 := hB2.frozen 2; have z3 := hB2.frozen 3
        have y4 := hB2.cell 0; have y5 := hB2.cell 1; have y6 := hB2.cell 2; have y7 := hB2.cell 3
        have p0 := hB3.cell 0; have p1 := hB3.cell 1; have p2 := hB3.cell 2; have p3 := hB3.cell 3
        simp [zX] at y4 y5 y6 y7 p0 p1 p2 p3
        have hz6 := hB2.lt
        clear hat hB2 hB3
        go_wp2_with fail
        refine AT.out.mono ?_
        rintro e _ ⟨rfl, rfl⟩
        go_wp2_with fail
        refine bodyPost_ret (v := vX x.kind x.n x.s (.slice A x.kids.length c)) (by simp [results, Tryz.results135, go_sem, vX, y4, y5, y6, y7, hz6, hzr]) rfl ?_
        obtain ⟨hT, hR, hgr, hA, hd, hl, hs, _, _⟩ := HX.out
        exact ⟨x, _, _, _, _, rfl, (((((hT.trm.setN (b := w.heap.size) (by omega) 0 _).setN (b := w.heap.size) (by omega) 1 _).setN (b := w.heap.size) (by omega) 2 _).setN (b := w.heap.size) (by omega) 3 _).alloc _).widen (by omega) (by simp), ((((hR.setN (b := w.heap.size) (by omega) 0 _).setN (b := w.heap.size) (by omega) 1 _).setN (b := w.heap.size) (by omega) 2 _).setN (b := w.heap.size) (by omega) 3 _).alloc _, grown_al (grown_sn (grown_sn (grown_sn (grown_sn hgr (b := w.heap.size) (Nat.le_refl _) _ _) (b := w.heap.size) (Nat.le_refl _) _ _) (b := w.heap.size) (Nat.le_refl _) _ _) (b := w.heap.size) (Nat.le_refl _) _ _) _, hA.stop HS.out, hd, hl, hs⟩
      · obtain ⟨r1, rfl, rfl⟩ : ∃ r1, bad = false ∧ r = cAs :: r1 := by
          cases bad
          · cases r with
            | nil => simp [atB] at hat
            | cons a r1 => simp [atB] at hat; exact ⟨r1, rfl, by rw [hat]⟩
          · simp [atB] at hat
        rw [hat] at AT
        clear hat
        have NX1 := Lib.hid (next_any rb B d' false (cAs :: r1) _ (HX.out.2.1.alloc (.cells #[.string (bs cAs)] 9)))
        have hts : (r1.head?.getD []).length ≤ 100000000 := by
          obtain ⟨_, _, _, _, _, h4⟩ := HX.out.2.1
          cases r1 with
          | nil => simp
          | cons a r => exact h4 a (by simp)
        clear hB2 hB3
        go_wp2_with fail
        refine AT.out.mono ?_
        rintro e _ ⟨rfl, rfl⟩
        go_wp2_with fail
        refine NX1.out.mono ?_
        rintro e w4 ⟨rfl, hR4, hg4, hz4⟩
        simp only [List.head?_cons, Option.getD_some, List.tail_cons, List.isEmpty_cons, Bool.or_false] at hR4 ⊢
        have NX2 := Lib.hid (fun (w' : World) (h : Rdr w' rb B r1 false d') => next_any rb B d' false r1 w' h)
        have hB3 := blk_gr (HX.out.2.2.2.2.2.2.2.2.alloc (.cells #[.string (bs cAs)] 9)) hg4 hq1
        have hB2 := blk_gr (HX.out.2.2.2.2.2.2.2.1.alloc (.cells #[.string (bs cAs)] 9)) hg4 hq0
        have p0 := hB3.cell 0; have p1 := hB3.cell 1; have p2 := hB3.cell 2; have p3 := hB3.cell 3
        simp at p0 p1 p2 p3
        have hz4b : w.heap.size + 1 < w4.heap.size := by rw [hz4]; simp; omega
        have HN := Lib.hid (And.intro hR4 (And.intro hg4 (And.intro hz4 (And.intro hB2 hB3))))
        clear hR4 hg4 hz4 hB2 hB3 NX1
        go_wp2_with fail
        go_region_law
          ((go_simp; go_at_call 136; refine (NX2.out _ (by repeat (first | with_reducible exact HN.out.1 | with_reducible refine Rdr.drew ?_ | with_reducible refine Rdr.alloc ?_ _))).mono ?_; rintro e w5 ⟨rfl, hR5, hg5, hz5⟩; have hz5b : w.heap.size + 1 < w5.heap.size := (by have := hg5.size; simp at this; omega); have hbb := HN.out.2.2.2.2; have B53 : Blk w5 (w.heap.size + 1) 24 (bxE x A c) := blk_gr (by (repeat (first | with_reducible assumption | with_reducible refine Blk.alloc ?_ _ | with_reducible refine Blk.drew ?_))) hg5 hq1; clear hbb; have y0 := B53.cell 0; have y1 := B53.cell 1; have y2 := B53.cell 2; have y3 := B53.cell 3; have x0' := B53.frozen 0; have x1' := B53.frozen 1; have x2' := B53.frozen 2; have x3' := B53.frozen 3; simp at y0 y1 y2 y3; have HY := Lib.hid (And.intro hR5 (And.intro hg5 (And.intro hz5 B53))); clear hR5 hg5 hz5 B53))
        all_goals
          go_wp2_with fail
          go_roundg r1.tail.length
          case measure => have h2 := HK.out; rw [List.length_tail]; simp only [List.length_cons] at h2; omega
          case rel =>
            obtain ⟨hT, hR, hgr, hA, hd, hl, hs, hB2, hB3⟩ := HX.out
            obtain ⟨hR4, hg4, hz4, hB24, hB34⟩ := HN.out
            obtain ⟨hR5, hg5, hz5, B53⟩ := HY.out
            have hq4 : w4.heap.size ≠ rb := by have := hg4.size; simp at this; omega
            have hz4' : w4.heap.size = wr.heap.size + 1 := by rw [hz4]; simp
            have hz5' := hg5.size
            simp at hz5'
            have hTa := (((hT.alloc (.cells #[.string (bs cAs)] 9)).grown hg4 (by omega)).drew)
            first
              | ((with_reducible refine asEndA (hi := wr.heap.size) hrb ?_ ?_ ?_ ?_ ?_ B53 ?_ hA hts hd hl); exact hTa.grown hg5 (by omega); omega; omega; simpa only [Bool.false_or] using hR5; exact blk_gr hB24.drew hg5 hq0; exact grown_tr (grown_dr (grown_tr (grown_al hgr _) hg4)) hg5)
              | ((with_reducible refine asEndB (hi := wr.heap.size) hrb ?_ ?_ ?_ ?_ ?_ ?_ B53 ?_ hA hts hd hl); exact ((((hT.alloc (.cells #[.string (bs cAs)] 9)).grown hg4 (by omega)).alloc _).drew).grown hg5 (by omega); omega; omega; exact blk_gr (Blk.new _ _ _).drew hg5 (by omega); simpa only [Bool.false_or] using hR5; exact blk_gr (hB24.alloc _).drew hg5 hq0; exact grown_tr (grown_dr (grown_al (grown_tr (grown_al hgr _) hg4) _)) hg5)
end Go.Proofs.YtgakjhaepdigpaaGreatDoor
