
/- The law FnProgCast: the walk. -/
import Derived.Test.YtdobcfekjmobhaaGreatDoorLqR
import Derived.Test.YtdobcfekjmobhaaGreatDoorDwD
namespace Go.Proofs.YtdobcfekjmobhaaGreatDoor
set_option maxRecDepth 100000
set_option linter.unusedSimpArgs false
set_option linter.unusedVariables false
open Go.RowKit
attribute [local go_sem] bs_toList bs_get bs_size

theorem push_el {lo : Nat} {w w' : World} {u : Value} {fl : List FS} {l : List Sm} {f : FS} {s : Sm} (h1 : GtF lo w u fl) (h2 : fl.length = l.length) (h3 : ∀ (i : Nat) (f : FS) (s : Sm), fl[i]? = some f → l[i]? = some s → DrF lo w f s) (hf : DrF lo w f s) (hg : w.grownBy w' u.ownBlock) :
    (fl ++ [f]).length = (l ++ [s]).length ∧ ∀ (i : Nat) (f' : FS) (s' : Sm), (fl ++ [f])[i]? = some f' → (l ++ [s])[i]? = some s' → DrF lo w' f' s' := by
  have ht : 27 ≠ 25 := by decide
  refine ⟨by simp [h2], fun i f' s' hf' hs' => ?_⟩
  rcases getElem?_snoc hf' with ⟨a1, a2⟩ | ⟨a1, a2⟩
  · rw [List.getElem?_append_left (by omega)] at hs'
    exact (h3 i f' s' a2 hs').app h1 ht hg
  · subst a1 a2
    rw [h2, List.getElem?_append_right (Nat.le_refl _), Nat.sub_self] at hs'
    simp at hs'
    subst hs'
    exact hf.app h1 ht hg
/-- one line of a drawn list -/
theorem row_form {lo gp j : Nat} {w : World} {fl : List FS} {l : List Sm} (hfl : fl.length = l.length) (hj : j < l.length)
    (HP : ∀ w', Below w.heap.size w w' → (∀ (j : Nat) (x : Value), (fl.flatMap fsRow)[j]? = some x → w'.cell? ((⟨gp, 0, none⟩ : Addr).add j) = some x) ∧ ∀ (i : Nat) (f : FS) (s : Sm), fl[i]? = some f → l[i]? = some s → DrF lo w' f s) :
    ∃ (k : Int) (nm ty : Bytes) (k1 n1 : Int) (s1 : Bytes) (A1 : Option Addr) (m1 c1 : Nat) (k2 n2 : Int) (s2 : Bytes) (A2 : Option Addr) (m2 c2 : Nat) (a b : Ex), l[j]? = some ⟨k, nm, ty, a, b⟩ ∧
      (∀ w', Below w.heap.size w w' → ∀ (c : Nat) (x : Value), (cS k nm ty k1 n1 s1 (.slice A1 m1 c1) k2 n2 s2 (.slice A2 m2 c2))[c]? = some x → w'.cell? ⟨gp, j * 11 + c, none⟩ = some x) ∧
      (∀ w', Below w.heap.size w w' → DrE lo w' (.agg #[.int .i64 k1, .int .i64 n1, .string (bs s1), .slice A1 m1 c1]) a ∧ DrE lo w' (.agg #[.int .i64 k2, .int .i64 n2, .string (bs s2), .slice A2 m2 c2]) b) ∧ nm.length ≤ 9223372036854775807 ∧ ty.length ≤ 9223372036854775807 ∧ k1 = a.kind := by
  have hf : fl[j]? = some fl[j] := List.getElem?_eq_getElem (by omega)
  have hs : l[j]? = some l[j] := List.getElem?_eq_getElem hj
  have h0 := (HP w (Below.refl _ _)).2 j _ _ hf hs
  generalize fl[j] = f at *
  generalize l[j] = s at *
  obtain ⟨k, nm, ty, k1, n1, s1, v1, k2, n2, s2, v2⟩ := f
  obtain ⟨k', nm', ty', a, b⟩ := s
  obtain ⟨h1, h2, h3, h4, h5, h6, h7, h8, h9, ⟨g1, g2, g3, g4⟩, x1, x2⟩ := id h0
  simp only at h1 h2 h3 h4 h5 h6 h7 h8 h9 x1 x2 g1 g2 g3 g4
  obtain ⟨A1, c1, e1, _, _⟩ := x1.val
  obtain ⟨A2, c2, e2, _, _⟩ := x2.val
  subst h1 h2 h3 e1 e2
  refine ⟨k, nm, ty, k1, n1, s1, A1, a.kids.length, c1, k2, n2, s2, A2, b.kids.length, c2, a, b, hs, fun w' hb c x hx => ?_, fun w' hb => ?_, g1, g2, h4⟩
  · have := (HP w' hb).1 (j * 11 + c) x (flat_at' (row := fsRow) (k := 11) (fun _ => rfl) fl j _ hf c x (by simpa [cS, fsRow] using hx))
    have hadd : (⟨gp, 0, none⟩ : Addr).add (j * 11 + c) = ⟨gp, j * 11 + c, none⟩ := by unfold Addr.add; split <;> simp_all
    rw [hadd] at this
    exact this
  · obtain ⟨_, _, _, _, _, _, _, _, _, _, y1, y2⟩ := (HP w' hb).2 j _ _ hf hs
    refine ⟨⟨_, by rw [h4, h5, h6], by rw [← h6]; exact g3, y1⟩, ⟨_, by rw [h7, h8, h9], by rw [← h9]; exact g4, y2⟩⟩
theorem map_take_succ {α β : Type} {l : List α} {j : Nat} {s : α} (f : α → β) (h : l[j]? = some s) : (l.take (j + 1)).map f = (l.take j).map f ++ [f s] := by rw [take_succ_get h, List.map_append]; rfl
set_option maxHeartbeats 4000000 in
theorem lawPCast (W : World) (v : Value) (cl : List Int) (hv : CodeV W v cl) (hE : Env W) : Calls Tryz.prog 7 #[v] W fun e w' => e = .returned (.bool true) ∧ Below W.heap.size W w' := by
  have DR := Lib.hid (drawType_any v cl W hv)
  obtain ⟨A, c, rfl, hc, hm⟩ := hv.1.val
  clear hv
  obtain ⟨b1, hb1⟩ : ∃ b, decide ((1048576 : Int) < ((cl.length : Nat) : Int)) = b := ⟨_, rfl⟩
  cases b1
  rotate_left
  · go_enter Tryz.func7, Tryz.ntmps7
    go_wp2_with fail
    go_ret
    exact ⟨rfl, Below.refl _ _⟩
  go_enter Tryz.func7, Tryz.ntmps7
  go_wp2_with fail
  refine DR.out.mono ?_
  rintro r w1 ⟨u, l, rfl, hS, hN, hl, hbw⟩
  have IR := Lib.hid (fun (w' : World) (h : Below w1.heap.size w1 w') => imProgRun_any l u w' (hS.smsF h) (hE.ext (hbw.ext h)))
  have SR := Lib.hid (fun (w' : World) (h : Below w1.heap.size w1 w') => spProgRun_any l u w' (hS.smsF h))
  have SO := Lib.hid (fun (w' : World) (h : Below w1.heap.size w1 w') => spProgOk_any l u w' (hS.smsF h))
  have IT := Lib.hid (fun (w' : World) (h : Below w1.heap.size w1 w') => imProgType_any l u w' (hS.smsF h) (hE.ext (hbw.ext h)))
  have HW := Lib.hid hbw
  have hB1 := Below.refl w1.heap.size w1
  have HEN := Lib.hid (And.intro hE hbw)
  have HSS := Lib.hid hS
  obtain ⟨A1, c1, rfl, hc1, hm1⟩ := hS.val
  obtain ⟨po, hpo⟩ : ∃ x, progOkB l = x := ⟨_, rfl⟩
  rw [hpo] at SO
  obtain ⟨pr, hpr⟩ : ∃ x, prRun l = x := ⟨_, rfl⟩
  rw [hpr] at IR SR
  obtain ⟨out, ok⟩ := pr
  clear hS hN hbw hE DR hb1
  go_wp2_with fail
  refine (IR.out _ hB1).mono ?_
  rintro r w2 ⟨o2, rfl, hF2, hb2⟩
  have hB2 := hB1.ext hb2
  have HF2 := Lib.hid hF2
  obtain ⟨X2, x2, rfl, hxc2, hxm2⟩ := hF2.sl.val
  clear hF2
  go_wp2_with fail
  refine (SR.out _ hB2).mono ?_
  rintro r w3 ⟨o3, rfl, hF3, hb3⟩
  have hB3 := hB2.ext hb3
  have HF3 := Lib.hid hF3
  obtain ⟨X3, x3, rfl, hxc3, hxm3⟩ := hF3.sl.val
  clear hF3
  go_wp2_with fail
  refine (SO.out _ hB3).mono ?_
  rintro r w4 ⟨rfl, hb4⟩
  have hB4 := hB3.ext hb4
  cases po
  · clear HSS hpo
    go_wp2_with fail
    go_ret
    exact ⟨rfl, HW.out.ext hB4⟩
  have hl1 : 0 < l.length := (progOkB_iff.1 hpo).2.1
  have hl16 : l.length ≤ 16 := (progOkB_iff.1 hpo).2.2
  have HPO := Lib.hid (And.intro hpo hpr)
  obtain ⟨gp, cp, fl, hup, _, _, hgp, hfl, hone, HP⟩ := HSS.out.at hl1
  obtain ⟨rfl, rfl⟩ : A1 = some ⟨gp, 0, none⟩ ∧ c1 = cp := by injection hup; exact ⟨‹_›, ‹_›⟩
  have HPP := Lib.hid (And.intro hfl HP)
  have hWb : W.heap.size ≤ w4.heap.size := Nat.le_trans HW.out.size hB4.size
  clear hup hfl hone HP HSS hpo hpr
  go_wp2_with fail
  go_loopg [8, 9] l.length (fun k o i wr => ∃ (j : Nat) (flq : List FS) (gq capq : Nat), k = l.length - j ∧ j ≤ l.length ∧ i = .int .i64 j ∧ o = .slice (some ⟨gq, 0, none⟩) j capq ∧ GtF w4.heap.size wr (.slice (some ⟨gq, 0, none⟩) j capq) flq ∧ flq.length = ((l.take j).map castS).length ∧ (∀ (n : Nat) (f : FS) (s : Sm), flq[n]? = some f → ((l.take j).map castS)[n]? = some s → DrF W.heap.size wr f s) ∧ Below w4.heap.size w4 wr)
  case atStart => exact ⟨0, [], w4.heap.size, 0, rfl, by omega, rfl, rfl, gt_empty' w4 _ rfl (Nat.le_refl _) (Below.refl _ _), by simp, fun n f s h => by simp at h, by (repeat (first | with_reducible assumption | with_reducible exact Below.refl _ _ | with_reducible refine Below.setCell ?_ (by first | omega | (simp; done) | (simp; omega)) _ | with_reducible refine Below.alloc ?_ (by first | omega | (simp; done) | (simp; omega)) _ | with_reducible refine below_drewN ?_ _ | with_reducible refine Below.drew ?_))⟩
  case round =>
    obtain ⟨j, flq, gq, capq, hk, hj, rfl, rfl, hG, hflq, hFq, hbl⟩ := hrel
    have hgq := hG.lt (b := gq) rfl
    have hzl := hbl.size
    by_cases hlt : j < l.length
    · obtain ⟨k, nm, ty, k1, n1, s1, A1, m1, cp1, k2, n2, s2, A2, m2, cp2, x1, x2, hlj, hcell, hdr, hl1', hl2', hkk⟩ := row_form HPP.out.1 hlt HPP.out.2
      have hcc := hcell wr (hB4.ext hbl)
      have f0 : wr.cell? ⟨gp, j * 11, none⟩ = some (.int .i64 k) := hcc 0 _ rfl
      have f1 : wr.cell? ⟨gp, j * 11 + 1, none⟩ = some (.string (bs nm)) := hcc 1 _ rfl
      have f2 : wr.cell? ⟨gp, j * 11 + 2, none⟩ = some (.string (bs ty)) := hcc 2 _ rfl
      have f3 : wr.cell? ⟨gp, j * 11 + 3, none⟩ = some (.int .i64 k1) := hcc 3 _ rfl
      have f4 : wr.cell? ⟨gp, j * 11 + 4, none⟩ = some (.int .i64 n1) := hcc 4 _ rfl
      have f5 : wr.cell? ⟨gp, j * 11 + 5, none⟩ = some (.string (bs s1)) := hcc 5 _ rfl
      have f6 : wr.cell? ⟨gp, j * 11 + 6, none⟩ = some (.slice A1 m1 cp1) := hcc 6 _ rfl
      have f7 : wr.cell? ⟨gp, j * 11 + 7, none⟩ = some (.int .i64 k2) := hcc 7 _ rfl
      have f8 : wr.cell? ⟨gp, j * 11 + 8, none⟩ = some (.int .i64 n2) := hcc 8 _ rfl
      have f9 : wr.cell? ⟨gp, j * 11 + 9, none⟩ = some (.string (bs s2)) := hcc 9 _ rfl
      have f10 : wr.cell? ⟨gp, j * 11 + 10, none⟩ = some (.slice A2 m2 cp2) := hcc 10 _ rfl
      have hdl : decide (((j : Nat) : Int) < ((l.length : Nat) : Int)) = true := by rw [decide_eq_true_eq]; omega
      have HK := Lib.hid (And.intro hk (And.intro hflq (And.intro hFq (And.intro hbl (And.intro hlj (And.intro (hdr wr (hB4.ext hbl)) (And.intro hl1' hl2')))))))
      have HG := Lib.hid hG
      have hflq2 : flq.length = j := by rw [hflq, List.length_map, List.length_take]; omega
      clear hcc hcell hdr hk hflq hFq hlj hl1' hl2' hkk hG
      by_cases hk2 : k = 2
      · subst hk2
        go_wp2_with (first
          | (at_builtin; refine app_plainL (by rfl) (.tmp 73) (.tmp 75) (by rfl) w4.heap.size gq j capq flq (by rfl) (HG.out.ext (by (repeat (first | with_reducible assumption | with_reducible exact Below.refl _ _ | with_reducible refine Below.setCell ?_ (by first | omega | (simp; done) | (simp; omega)) _ | with_reducible refine Below.alloc ?_ (by first | omega | (simp; done) | (simp; omega)) _ | with_reducible refine below_drewN ?_ _ | with_reducible refine Below.drew ?_)))) hflq2 [⟨2, nm, ty, 4, 0, cBool, .slice (some ⟨wr.heap.size + 1, 0, none⟩) 1 1, k2, n2, s2, .slice A2 m2 cp2⟩] 1 rfl (fs_one rfl rfl) (wr.heap.size + 1 + 1) 1 (by rfl) (news_at (by simp)) (by omega) ?_ ?_ ?_; (first | omega | (simp; done) | (simp only [List.length_cons, List.length_nil, List.length_append]; omega) | (simp; omega)); (first | omega | (simp only [World.size_alloc]; omega)); intro g8 cap8 w8 hG8 hgr8 hat8; have HG8 := Lib.hid (And.intro hG8 (show Below w4.heap.size w4 w8 from (by (repeat (first | with_reducible assumption | with_reducible exact Below.refl _ _ | with_reducible refine Below.setCell ?_ (by first | omega | (simp; done) | (simp; omega)) _ | with_reducible refine Below.alloc ?_ (by first | omega | (simp; done) | (simp; omega)) _ | with_reducible refine below_drewN ?_ _ | with_reducible refine Below.drew ?_ | with_reducible refine Below.trans ?_ (Below.mono hbl (by first | omega | (simp; done) | (simp; omega))) | with_reducible refine below_app ?_ hgr8 (by intro q hq; simp [Value.ownBlock] at hq; omega) (by first | omega | (simp; done) | (simp; omega))))))); have HX8 := Lib.hid (show ∃ wx : World, Below wr.heap.size wr wx ∧ Blk wx (wr.heap.size + 1) 25 #[.int .i64 k1, .int .i64 n1, .string (bs s1), .slice A1 m1 cp1] ∧ wx.grownBy w8 (some gq) from ⟨_, by (repeat (first | with_reducible assumption | with_reducible exact Below.refl _ _ | with_reducible refine Below.setCell ?_ (by first | omega | (simp; done) | (simp; omega)) _ | with_reducible refine Below.alloc ?_ (by first | omega | (simp; done) | (simp; omega)) _ | with_reducible refine below_drewN ?_ _ | with_reducible refine Below.drew ?_)), Blk.alloc (Blk.new' (by simp)) _, hgr8⟩); clear hG8 hgr8 hat8)
          | fail)
        go_roundg (l.length - (j + 1))
        case measure => have := HK.out.1; omega
        case rel =>
          obtain ⟨hk, hflq, hFq, hbl, hlj, ⟨hE1, hE2⟩, hl1', hl2'⟩ := HK.out
          obtain ⟨wx, hbx, hBk, hgx⟩ := HX8.out
          have hnew : DrF W.heap.size wx ⟨2, nm, ty, 4, 0, cBool, .slice (some ⟨wr.heap.size + 1, 0, none⟩) 1 1, k2, n2, s2, .slice A2 m2 cp2⟩ (castS ⟨2, nm, ty, x1, x2⟩) := DrV.drf (a := .mk 4 0 cBool [x1]) (b := x2) (DrE.of (by simp [cBool]) (DrK.one rfl (hE1.ext hbx) (by omega) hBk)) (hE2.ext hbx) hl1' hl2'
          obtain ⟨hp1, hp2⟩ := push_el (lo := W.heap.size) ((HG.out.ext hbx).less hWb) hflq (fun i f s a b => (hFq i f s a b).ext hbx) hnew hgx
          rw [← map_take_succ castS hlj] at hp1 hp2
          exact ⟨j + 1, _, g8, cap8, rfl, by omega, by go_num, rfl, HG8.out.1, hp1, hp2, HG8.out.2⟩
      · have hd2 : (k == 2) = false := by simpa using hk2
        go_wp2_with (first
          | (at_builtin; refine app_plainL (by rfl) (.tmp 73) (.tmp 75) (by rfl) w4.heap.size gq j capq flq (by rfl) (HG.out.ext (by (repeat (first | with_reducible assumption | with_reducible exact Below.refl _ _ | with_reducible refine Below.setCell ?_ (by first | omega | (simp; done) | (simp; omega)) _ | with_reducible refine Below.alloc ?_ (by first | omega | (simp; done) | (simp; omega)) _ | with_reducible refine below_drewN ?_ _ | with_reducible refine Below.drew ?_)))) hflq2 [⟨k, nm, ty, k1, n1, s1, .slice A1 m1 cp1, k2, n2, s2, .slice A2 m2 cp2⟩] 1 rfl (fs_one rfl rfl) (wr.heap.size + 1) 1 (by rfl) (news_at (by simp)) (by omega) ?_ ?_ ?_; (first | omega | (simp; done) | (simp only [List.length_cons, List.length_nil, List.length_append]; omega) | (simp; omega)); (first | omega | (simp only [World.size_alloc]; omega)); intro g8 cap8 w8 hG8 hgr8 hat8; have HG8 := Lib.hid (And.intro hG8 (show Below w4.heap.size w4 w8 from (by (repeat (first | with_reducible assumption | with_reducible exact Below.refl _ _ | with_reducible refine Below.setCell ?_ (by first | omega | (simp; done) | (simp; omega)) _ | with_reducible refine Below.alloc ?_ (by first | omega | (simp; done) | (simp; omega)) _ | with_reducible refine below_drewN ?_ _ | with_reducible refine Below.drew ?_ | with_reducible refine Below.trans ?_ (Below.mono hbl (by first | omega | (simp; done) | (simp; omega))) | with_reducible refine below_app ?_ hgr8 (by intro q hq; simp [Value.ownBlock] at hq; omega) (by first | omega | (simp; done) | (simp; omega))))))); have HX8 := Lib.hid (show ∃ wx : World, Below wr.heap.size wr wx ∧ wx.grownBy w8 (some gq) from ⟨_, by (repeat (first | with_reducible assumption | with_reducible exact Below.refl _ _ | with_reducible refine Below.setCell ?_ (by first | omega | (simp; done) | (simp; omega)) _ | with_reducible refine Below.alloc ?_ (by first | omega | (simp; done) | (simp; omega)) _ | with_reducible refine below_drewN ?_ _ | with_reducible refine Below.drew ?_)), hgr8⟩); clear hG8 hgr8 hat8)
          | fail)
        go_roundg (l.length - (j + 1))
        case measure => have := HK.out.1; omega
        case rel =>
          obtain ⟨hk, hflq, hFq, hbl, hlj, ⟨hE1, hE2⟩, hl1', hl2'⟩ := HK.out
          obtain ⟨wx, hbx, hgx⟩ := HX8.out
          have hcs : castS ⟨k, nm, ty, x1, x2⟩ = ⟨k, nm, ty, x1, x2⟩ := if_neg hk2
          have hnew : DrF W.heap.size wx ⟨k, nm, ty, k1, n1, s1, .slice A1 m1 cp1, k2, n2, s2, .slice A2 m2 cp2⟩ (castS ⟨k, nm, ty, x1, x2⟩) := by rw [hcs]; exact DrV.drf (hE1.ext hbx) (hE2.ext hbx) hl1' hl2'
          obtain ⟨hp1, hp2⟩ := push_el (lo := W.heap.size) ((HG.out.ext hbx).less hWb) hflq (fun i f s a b => (hFq i f s a b).ext hbx) hnew hgx
          rw [← map_take_succ castS hlj] at hp1 hp2
          exact ⟨j + 1, _, g8, cap8, rfl, by omega, by go_num, rfl, HG8.out.1, hp1, hp2, HG8.out.2⟩
    · obtain rfl : j = l.length := by omega
      rw [List.take_length] at hflq hFq
      have hBr := hB4.ext hbl
      have DQ : DrS W.heap.size wr (.slice (some ⟨gq, 0, none⟩) l.length capq) (l.map castS) := ⟨flq, hG.less hWb, hflq, hFq⟩
      have PQ := Lib.hid (fun (w' : World) (h : Below wr.heap.size wr w') => imProgOk_any _ _ w' (DQ.smsF h) (HEN.out.1.ext (HEN.out.2.ext (hBr.ext h))))
      have RQ := Lib.hid (fun (w' : World) (h : Below wr.heap.size wr w') => imProgRun_any _ _ w' (DQ.smsF h) (HEN.out.1.ext (HEN.out.2.ext (hBr.ext h))))
      have TQ := Lib.hid (fun (w' : World) (h : Below wr.heap.size wr w') => imProgType_any _ _ w' (DQ.smsF h) (HEN.out.1.ext (HEN.out.2.ext (hBr.ext h))))
      have hnl : ¬ (l.length < l.length) := by omega
      clear hG hflq hFq DQ hk hlt
      cases hpq : progOkB (l.map castS) with
      | false =>
        rw [hpq] at PQ
        clear hpq
        go_wp2_with fail
        refine (PQ.out _ (Below.refl _ _)).mono ?_
        rintro r w5 ⟨rfl, hb5⟩
        go_wp2_with fail
        go_ret
        exact ⟨rfl, HW.out.ext (hBr.ext hb5)⟩
      | true =>
        rw [hpq] at PQ
        rw [prRun_cast HPO.out.1 hpq, HPO.out.2] at RQ
        rw [prTyp_cast HPO.out.1 hpq] at TQ
        clear hpq
        generalize prTyp l = n at *
        go_wp2_with fail
        refine (PQ.out _ (Below.refl _ _)).mono ?_
        rintro r w5 ⟨rfl, hb5⟩
        go_wp2_with fail
        refine (RQ.out _ hb5).mono ?_
        rintro r w6 ⟨o6, rfl, hF6, hb6⟩
        have hbr6 := hb5.ext hb6
        have hB6 := hBr.ext hbr6
        have HO6 := Lib.hid hF6.sl
        have HO2 := Lib.hid ((((HF2.out.ext hb3).ext hb4).ext hbl).ext hbr6).sl
        obtain ⟨X6, x6, rfl, hxc6, hxm6⟩ := hF6.sl.val
        clear hF6
        go_wp2_with fail
        go_loopg [13] out.length (fun k i wy => ∃ j : Nat, k = out.length - j ∧ j ≤ out.length ∧ i = .int .i64 j ∧ Below w6.heap.size w6 wy)
        case atStart => exact ⟨0, by omega, by omega, rfl, Below.refl _ _⟩
        case round =>
          obtain ⟨j6, hk6, hj6, rfl, hbl7⟩ := hrel
          have HK6 := Lib.hid hk6
          clear hk6
          by_cases hlt6 : j6 < out.length
          · have hdl6 : decide (((j6 : Nat) : Int) < ((out.length : Nat) : Int)) = true := by rw [decide_eq_true_eq]; omega
            obtain ⟨qa, pa, x, rfl, hqa, hgx, fx⟩ := num_at HO6.out hlt6
            obtain ⟨qb, pb, y, rfl, hqb, hgy, fy⟩ := num_at HO2.out hlt6
            obtain rfl : x = y := Option.some.inj (hgx.symm.trans hgy)
            have gx := fx ⟨_, hbl7⟩
            have gy := fy ⟨_, hbl7⟩
            clear fx fy hgx hgy
            go_wp2_with fail
            go_quiet (fail)
            go_wp2_with fail
            go_roundg (out.length - (j6 + 1))
            case measure => have := HK6.out; omega
            case rel => exact ⟨j6 + 1, rfl, by omega, by go_num, below_drewN hbl7 _⟩
          · have hdl6 : decide (((j6 : Nat) : Int) < ((out.length : Nat) : Int)) = false := by rw [decide_eq_false_iff_not]; omega
            clear HK6
            have hbr7 := hbr6.ext hbl7
            go_wp2_with fail
            refine (TQ.out _ hbr7).mono ?_
            rintro r w8 ⟨rfl, hb8⟩
            have hbr8 := hbr7.ext hb8
            go_wp2_with fail
            refine (IT.out _ (hBr.ext hbr8)).mono ?_
            rintro r w9 ⟨rfl, hb9⟩
            go_wp2_with fail
            go_ret
            exact ⟨rfl, HW.out.ext (hBr.ext (hbr8.ext hb9))⟩
end Go.Proofs.YtdobcfekjmobhaaGreatDoor
