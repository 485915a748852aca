
/- Whence the words came that a program is turned into: as many places, and where they lie. -/
import Derived.Test.YtgfbjpmbaibnoaaGreatDoorL8G
import Derived.Test.YtgfbjpmbaibnoaaGreatDoorTokQ
import Derived.Test.YtgfbjpmbaibnoaaGreatDoorZm8
import Derived.Test.YtgfbjpmbaibnoaaGreatDoorAppGs
import Derived.Test.YtgfbjpmbaibnoaaGreatDoorZm10
namespace Go.Proofs.YtgfbjpmbaibnoaaGreatDoor
set_option maxRecDepth 100000
set_option linter.unusedSimpArgs false
set_option linter.unusedVariables false
open Go.RowKit
attribute [local go_sem] bs_toList bs_get bs_size

theorem rtSg : RowTy sgRow 4 129 66 := .of_info (fun _ => rfl) (fun s u hu => by simp [sgRow] at hu; rcases hu with rfl | rfl | rfl | rfl <;> rfl) (by decide) Tryz.underlying66 infoSeg (by decide) rfl
abbrev GtG := Gt sgRow 4 129
theorem news_sg {V : World} {n : Nat} {l : List Sg} {t : TypeId} (h : V.heap.size = n) : ∀ (j : Nat) (u : Value), (l.flatMap sgRow)[j]? = some u → (V.alloc (.cells (l.flatMap sgRow).toArray t)).cell? ((⟨n, 0, none⟩ : Addr).add j) = some u := h ▸ World.news_of_block (heap_alloc_new V _)
/-- places, few of them, of the call's own -/
def SgP (n : Nat) (w : World) (e : Ending) (w' : World) : Prop := ∃ (u : Value) (l : List Sg), e = .returned u ∧ GtG w.heap.size w' u l ∧ l.length ≤ n ∧ Below w.heap.size w w'
theorem grown_own {a b c : World} {k0 : Nat} {r : Option Nat} (h : a.grownBy b (some k0)) (hg : b.grownBy c r) (hr : ∀ q, r = some q → q = k0 ∨ a.heap.size ≤ q) : a.grownBy c (some k0) :=
  ⟨hg.os.trans h.os, hg.tape.trans h.tape, hg.output.trans h.output, Nat.le_trans h.size hg.size, fun k hk hne => (hg.block k (Nat.lt_of_lt_of_le hk h.size) (fun e => by
    rcases hr k e.symm with rfl | h'
    · exact hne rfl
    · omega)).trans (h.block k hk hne)⟩
set_option maxHeartbeats 4000000 in
theorem l8Segs_any (s : SE) (hok : s.ok) (n : Int) (v : Value) (w : World) (hv : SmV w w.heap.size v s.sm) : Calls Tryz.prog 201 #[v, .int .i64 n] w (SgP 130 w) := by
  have EL := Lib.hid (fun (w' : World) (h : Below w.heap.size w w') => spEmit_any s hok v w' ((hv.keep h (Nat.le_refl _)).more h.size))
  have htk := SE.came_toks s hok.1
  have hcl := SE.came_len s hok.1
  have htx : (joinL (s.came.map Prod.fst)).length ≤ 119 := by have := SE.came_text s; have := hok.2; omega
  obtain ⟨A1, A2, c1, c2, rfl, hn, ht, hE1, hE2⟩ := hv.form2
  clear hE1 hE2 hv hn ht
  unfold EmP at EL
  generalize s.came = cm at *
  generalize s.sm = sm at *
  go_enter Tryz.func201, Tryz.ntmps201
  go_wp2_with fail
  refine (EL.out _ (by (repeat (first | with_reducible assumption | with_reducible exact Below.refl _ _ | with_reducible refine Below.setCell ?_ (by first | omega | (simp; done) | (simp; omega)) _ | with_reducible refine Below.alloc ?_ (by first | omega | (simp; done) | (simp; omega)) _ | with_reducible refine below_drewN ?_ _ | with_reducible refine Below.drew ?_)))).mono ?_
  rintro r w1 ⟨u1, m, rfl, hG1, hm, hb1⟩
  have HM := Lib.hid hm
  have hml : m.length ≤ 130 := by omega
  clear hm
  have hz1 := hb1.size
  (try simp at hz1)
  have hbw1 : Below w.heap.size w w1 := by (repeat (first | with_reducible assumption | with_reducible exact Below.refl _ _ | with_reducible refine Below.setCell ?_ (by first | omega | (simp; done) | (simp; omega)) _ | with_reducible refine Below.alloc ?_ (by first | omega | (simp; done) | (simp; omega)) _ | with_reducible refine below_drewN ?_ _ | with_reducible refine Below.drew ?_ | with_reducible refine Below.trans ?_ (Below.mono hb1 (by first | omega | (simp; done) | (simp; omega)))))
  have hG1' : GtI (w.heap.size + 2) w1 u1 m := hG1.less (by simp)
  have hD : GtG w.heap.size w1 (.slice (some ⟨w.heap.size + 1, 0, none⟩) 0 0) [] := by
    have h := gt_empty sgRow 4 129 (B := w.heap.size) (w.alloc (.cells #[.int .i64 sm.kind, .string (bs sm.name), .string (bs sm.typ), .int .i64 sm.ex.kind, .int .i64 sm.ex.n, .string (bs sm.ex.s), .slice A1 sm.ex.kids.length c1, .int .i64 sm.th.kind, .int .i64 sm.th.n, .string (bs sm.th.s), .slice A2 sm.th.kids.length c2] 27)) w1 (by simp) (by rw [World.size_alloc]; simpa using hb1)
    rw [World.size_alloc] at h
    exact h
  have HD := Lib.hid hD
  have HG1 := Lib.hid hG1'
  obtain ⟨Af, cf, rfl, _, _⟩ := hG1.val
  clear hG1 hD hG1'
  go_wp2_with fail
  refine (spTokLine_any _ w1 (by omega)).mono ?_
  rintro r w2 ⟨u2, l2, ok, rfl, hG2, hor, hb2⟩
  have hl2 : l2.length = m.length := by
    rcases hor with ⟨rfl, _, h⟩ | ⟨rfl, rfl, h⟩
    · rw [htk] at h
      obtain rfl := Option.some.inj h
      rw [toksL_len, List.length_map, HM.out]
    · rw [htk] at h
      rcases h with h | h
      · omega
      · cases h
  have hbw2 := hbw1.ext hb2
  have hz2 := hb2.size
  have HGt := Lib.hid (show GtT (w.heap.size + 2) w2 u2 l2 from hG2.less (by omega))
  have HGf := Lib.hid (HG1.out.ext hb2)
  have HD2 := Lib.hid (HD.out.ext hb2)
  obtain ⟨At, ct, rfl, _, _⟩ := hG2.val
  clear hG2 hor htk hcl htx HD HG1
  have HL2 := Lib.hid hl2
  clear hl2
  go_wp2_with fail
  go_loopg [5, 10] m.length (fun k o i wr => ∃ (j : Nat) (l : List Sg), k = m.length - j ∧ j ≤ m.length ∧ i = .int .i64 j ∧ GtG w.heap.size wr o l ∧ l.length ≤ j ∧ (∀ q, o.ownBlock = some q → q = w.heap.size + 1 ∨ w2.heap.size ≤ q) ∧ w2.grownBy wr (some (w.heap.size + 1)))
  case atStart => exact ⟨0, [], by omega, by omega, rfl, HD2.out, by simp, fun q hq => by simp [Value.ownBlock] at hq; omega, grown_rfl _ _⟩
  case round =>
    obtain ⟨j, l, hk, hj, rfl, hG, hlj, hO, hg⟩ := hrel
    have HK := Lib.hid (And.intro hk hlj)
    have hl130 : l.length ≤ 130 := by omega
    clear hk hlj
    have hz := hg.size
    by_cases hlt : j < m.length
    rotate_left
    · obtain rfl : j = m.length := by omega
      have HG := Lib.hid (And.intro hG hg)
      obtain ⟨Au, cu, rfl, _, _⟩ := hG.val
      clear hG hg hO
      go_wp2_with fail
      go_ret
      exact ⟨_, l, rfl, HG.out.1, hl130, below_app hbw2 HG.out.2 (fun q hq => by have := Option.some.inj hq; omega) hbw2.size⟩
    · have hSf := (HGf.out.grown hg (.inr (fun e => by have := (HGf.out.lt e).1; omega))).sl (fun _ => rfl)
      have hSt := (HGt.out.grown hg (.inr (fun e => by have := (HGt.out.lt e).1; omega))).sl (fun _ => rfl)
      obtain ⟨bf, of, x, rfl, hbf, hgx, h0⟩ := num_at hSf hlt
      have hlt2 : j < l2.length := by rw [HL2.out]; exact hlt
      obtain ⟨bt, ot, tk, rfl, hbt, hgt, h1⟩ := sl_at hSt hlt2
      have e0 := h0 ⟨wr, Below.refl _ _⟩
      have e2 : wr.cell? ⟨bt, ot + j * 3 + 2, none⟩ = some (.int .i64 tk.col) := h1 ⟨wr, Below.refl _ _⟩ 2 _ rfl
      obtain ⟨Au, cu, rfl, _, _⟩ := hG.val
      have hown : ∀ q, (Value.slice Au l.length cu).ownBlock = some q → w.heap.size ≤ q := fun q hq => (hG.lt hq).1
      have ne1 : (Value.slice Au l.length cu).ownBlock ≠ some bf := fun e => by
        have h1 := HGf.out.lt (b := bf) rfl
        have h2 := hO bf e
        omega
      have ne2 : (Value.slice Au l.length cu).ownBlock ≠ some bt := fun e => by
        have h1 := HGt.out.lt (b := bt) rfl
        have h2 := hO bt e
        omega
      have HG := Lib.hid (And.intro hG (And.intro hO hg))
      clear hG hown h0 h1 hgx hgt hSf hSt hO hg
      by_cases hx : 0 ≤ x
      rotate_left
      · go_wp2_with fail
        go_roundg (m.length - (j + 1))
        case measure => have := HK.out.1; omega
        case rel => exact ⟨j + 1, l, rfl, by omega, by go_num, HG.out.1, by have := HK.out.2; omega, HG.out.2.1, HG.out.2.2⟩
      · go_upto_region 8 with fail
        go_region_held3 (fun w' => w'.cell? ⟨bf, of + j, none⟩ = some (.int .i64 x) ∧ w'.cell? ⟨bt, ot + j * 3 + 2, none⟩ = some (.int .i64 tk.col))
          (first | go_keep | exact ⟨grown_cell hgr3 ((show Below wr.heap.size wr _ from by (repeat (first | with_reducible assumption | with_reducible exact Below.refl _ _ | with_reducible refine Below.setCell ?_ (by first | omega | (simp; done) | (simp; omega)) _ | with_reducible refine Below.alloc ?_ (by first | omega | (simp; done) | (simp; omega)) _ | with_reducible refine below_drewN ?_ _ | with_reducible refine Below.drew ?_))).keepc e0) ne1, grown_cell hgr3 ((show Below wr.heap.size wr _ from by (repeat (first | with_reducible assumption | with_reducible exact Below.refl _ _ | with_reducible refine Below.setCell ?_ (by first | omega | (simp; done) | (simp; omega)) _ | with_reducible refine Below.alloc ?_ (by first | omega | (simp; done) | (simp; omega)) _ | with_reducible refine below_drewN ?_ _ | with_reducible refine Below.drew ?_))).keepc e2) ne2⟩)
          (first
            | (refine app_step rtSg (by rfl) (.tmp 33) (.tmp 48) (by rfl) w.heap.size (.slice Au l.length cu) l (by rfl) (HG.out.1.ext (by (repeat (first | with_reducible assumption | with_reducible exact Below.refl _ _ | with_reducible refine Below.setCell ?_ (by first | omega | (simp; done) | (simp; omega)) _ | with_reducible refine Below.alloc ?_ (by first | omega | (simp; done) | (simp; omega)) _ | with_reducible refine below_drewN ?_ _ | with_reducible refine Below.drew ?_)))) ⟨wr.heap.size, 0, none⟩ 1 [((n, tk.col), (n, x))] (by rfl) (news_sg (by simp)) Nat.zero_lt_one (by simp; omega) (by simp; omega) ?_; intro g3 cap3 w3 hG3 hgr3 hat3)
            | fail)
        go_wp2_with fail
        go_roundg (m.length - (j + 1))
        case measure => have := HK.out.1; omega
        case rel => exact ⟨j + 1, _, rfl, by omega, by go_num, hG3, by have := HK.out.2; simp; omega, fun q hq => by
            have hq' : g3 = q := by simpa [Value.ownBlock] using hq
            subst hq'
            rcases hat3 with h | h
            · exact HG.out.2.1 _ h
            · right; rw [h]; simp; omega, grown_own (by have := HG.out.2.2; (repeat (first | with_reducible assumption | with_reducible exact grown_rfl _ _ | with_reducible refine grown_al ?_ _ | with_reducible refine grown_sn ?_ (by first | omega | (simp; done) | (simp; omega)) _ _ | with_reducible refine grown_dr ?_ | with_reducible refine grown_tr ?_ this))) hgr3 HG.out.2.1⟩
set_option maxHeartbeats 4000000 in
theorem spEmitSegs_any (l : List Sm) (hl : l.length ≤ 1000) (v : Value) (w : World) (hv : SmS w w.heap.size v l) : Calls Tryz.prog 171 #[v] w (SgP (130 * l.length) w) := by
  have PK := Lib.hid (fun (w' : World) (h : Below w.heap.size w w') => spProgOk_any l v w' ((hv.keep h (Nat.le_refl _)).more h.size))
  have HV := Lib.hid hv
  obtain ⟨A, c, rfl, hc, hm⟩ := hv.val
  have hall : progOkB l = true → ∀ (i : Nat) (s : Sm), l[i]? = some s → ∃ t : SE, s = t.sm ∧ t.ok := fun h i s hs => by
    unfold progOkB at h
    simp only [Bool.and_eq_true, List.all_eq_true] at h
    exact smOkB_iff.1 (h.1.1 s (List.mem_of_getElem? hs))
  have HA := Lib.hid hall
  clear hall hv
  generalize progOkB l = ok at *
  go_enter Tryz.func171, Tryz.ntmps171
  go_wp2_with fail
  go_loopg [3, 4] l.length (fun k o i wr => ∃ (j : Nat) (m : List Sg), k = l.length - j ∧ j ≤ l.length ∧ i = .int .i64 j ∧ GtG w.heap.size wr o m ∧ m.length ≤ 130 * j ∧ Below w.heap.size w wr)
  case atStart => exact ⟨0, [], by omega, by omega, rfl, gt_empty sgRow 4 129 w _ (Nat.le_refl _) (Below.refl _ _), by simp, by (repeat (first | with_reducible assumption | with_reducible exact Below.refl _ _ | with_reducible refine Below.setCell ?_ (by first | omega | (simp; done) | (simp; omega)) _ | with_reducible refine Below.alloc ?_ (by first | omega | (simp; done) | (simp; omega)) _ | with_reducible refine below_drewN ?_ _ | with_reducible refine Below.drew ?_))⟩
  case round =>
    obtain ⟨j, m, hk, hj, rfl, hG, hmj, hbl⟩ := hrel
    have HK := Lib.hid (And.intro hk hmj)
    have hml : m.length ≤ 130000 := by omega
    clear hk hmj
    have hz := hbl.size
    obtain ⟨Au, cu, rfl, _, _⟩ := hG.val
    have HG := Lib.hid hG
    clear hG
    by_cases hlt : j < l.length
    rotate_left
    · obtain rfl : j = l.length := by omega
      go_wp2_with fail
      go_ret
      exact ⟨_, m, rfl, HG.out, HK.out.2, hbl⟩
    · obtain ⟨b, o, s, A1, A2, c1, c2, rfl, hb, hgs, hS, f0, f1, f2, f3, f4, f5, f6, f7, f8, f9, f10⟩ := sm_at2 HV.out hlt
      have HF := Lib.hid (fun (w' : World) (h : Below w.heap.size w w') => And.intro (f0 ⟨w', h⟩) (And.intro (f1 ⟨w', h⟩) (And.intro (f2 ⟨w', h⟩) (And.intro (f3 ⟨w', h⟩) (And.intro (f4 ⟨w', h⟩) (And.intro (f5 ⟨w', h⟩) (And.intro (f6 ⟨w', h⟩) (And.intro (f7 ⟨w', h⟩) (And.intro (f8 ⟨w', h⟩) (And.intro (f9 ⟨w', h⟩) (f10 ⟨w', h⟩)))))))))))
      have HS := Lib.hid (And.intro hS hgs)
      clear f0 f1 f2 f3 f4 f5 f6 f7 f8 f9 f10 hS hgs
      go_wp2_with fail
      refine (PK.out wr hbl).mono ?_
      rintro r w1 ⟨rfl, hb1⟩
      have hbw1 := hbl.ext hb1
      cases ok
      · go_wp2_with fail
        go_ret
        exact ⟨_, m, rfl, HG.out.ext hb1, by have := HK.out.2; omega, hbw1⟩
      · obtain ⟨hS, hgs⟩ := HS.out
        obtain ⟨t, hst, htk⟩ := HA.out rfl j s hgs
        have LS := Lib.hid (l8Segs_any t htk (j : Int) _ w1 ((by rw [← hst]; exact (hS.keep hbw1 (Nat.le_refl _)).more hbw1.size)))
        clear hS hgs hst htk
        obtain ⟨g0, g1, g2, g3, g4, g5, g6, g7, g8, g9, g10⟩ := HF.out w1 hbw1
        go_wp2_with fail
        refine LS.out.mono ?_
        rintro r w2 ⟨u2, l2, rfl, hG2, hl2, hb2⟩
        have hbw2 := hbw1.ext hb2
        have hz2 := hbw2.size
        go_wp2_with (first
          | (at_builtin; refine app_gt rtSg (by rfl) (.tmp 16) (.tmp 22) (by rfl) w.heap.size (.slice Au m.length cu) m (by rfl) ((HG.out.ext hb1).ext hb2) w1.heap.size u2 l2 (by rfl) hG2 (by omega) (by omega) ?_; intro u3 w3 hG3 hgr3)
          | fail)
        go_roundg (l.length - (j + 1))
        case measure => have := HK.out.1; omega
        case rel => exact ⟨j + 1, m ++ l2, rfl, by omega, by go_num, hG3, by have := HK.out.2; simp; omega, below_app hbw2 hgr3 (fun q hq => (HG.out.lt hq).1) (by omega)⟩
end Go.Proofs.YtgfbjpmbaibnoaaGreatDoor
