
/- The law FnProgBent: the walk. -/
import Derived.Test.YtdobcfekjmobhaaGreatDoorLqW
import Derived.Test.YtdobcfekjmobhaaGreatDoorDwD
namespace Go.Proofs.YtdobcfekjmobhaaGreatDoor
set_option maxRecDepth 100000
set_option linter.unusedSimpArgs false
set_option linter.unusedVariables false
open Go.RowKit
attribute [local go_sem] bs_toList bs_get bs_size

def fSN : FS := ⟨2, [], [], 0, 0, [], .slice none 0 0, 0, 0, [], .slice none 0 0⟩
theorem fSN_one : ∀ f ∈ [fSN], ∀ u ∈ fsRow f, u.oneCell' = true := fs_one (f := fSN) rfl rfl
theorem fSN_dr (lo : Nat) (w : World) : DrF lo w fSN sayNone := DrV.drf (DrE.none _ _) (DrE.none _ _) (by simp) (by simp)
theorem fZ_one : ∀ f ∈ [fZero], ∀ u ∈ fsRow f, u.oneCell' = true := fs_one (f := fZero) rfl rfl
theorem fZ_dr (lo : Nat) (w : World) : DrF lo w fZero noSm := fZero_dr lo w
theorem sms_nil (w : World) : SmS w w.heap.size (.slice none 0 0) [] := ⟨[], ⟨none, 0, rfl, Nat.le_refl _, by unfold maxLen; omega, fun h => absurd h (by simp)⟩, rfl, fun i f s h => by simp at h⟩
theorem bent_facts {l : List Sm} (h : progOkB l = true) (hl : l.length < 16) : prRun (noSm :: l) = prRun l ∧ ((prTyp l = -1 ∧ prTyp (noSm :: l) = -1) ∨ ∃ k : Nat, k < 16 ∧ prTyp l = k ∧ prTyp (noSm :: l) = ((k + 1 : Nat) : Int)) := by
  refine ⟨prRun_cons_no h hl, ?_⟩
  rcases prTyp_cons_no h hl with h1 | ⟨h1, h2⟩
  · exact .inl h1
  · obtain ⟨k, hk⟩ := Int.eq_ofNat_of_zero_le h1
    have hk2 : prTyp l = (k : Int) := hk
    have hr := prTyp_range h
    exact .inr ⟨k, by omega, hk2, by omega⟩
set_option maxHeartbeats 4000000 in
theorem lawPBent (W : World) (v : Value) (cl : List Int) (hv : CodeV W v cl) (hE : Env W) : Calls Tryz.prog 4 #[v] W fun e w' => e = .returned (.bool true) ∧ Below W.heap.size W w' := by
  have DR := Lib.hid (drawOk_any v cl W hv)
  obtain ⟨A, c, rfl, hc, hm⟩ := hv.1.val
  clear hv
  obtain ⟨b1, hb1⟩ : ∃ b, decide ((1048576 : Int) < ((cl.length : Nat) : Int)) = b := ⟨_, rfl⟩
  cases b1
  rotate_left
  · go_enter Tryz.func4, Tryz.ntmps4
    go_wp2_with fail
    go_ret
    exact ⟨rfl, Below.refl _ _⟩
  go_enter Tryz.func4, Tryz.ntmps4
  go_wp2_with fail
  refine DR.out.mono ?_
  rintro r w1 ⟨u, l, rfl, hS, hN, hl, hbw⟩
  have IP := Lib.hid (fun (w' : World) (h : Below w1.heap.size w1 w') => imProgOk_any l u w' (hS.smsF h) (hE.ext (hbw.ext h)))
  have SP := Lib.hid (fun (w' : World) (h : Below w1.heap.size w1 w') => spProgOk_any l u w' (hS.smsF h))
  have IR := Lib.hid (fun (w' : World) (h : Below w1.heap.size w1 w') => imProgRun_any l u w' (hS.smsF h) (hE.ext (hbw.ext h)))
  have IT := Lib.hid (fun (w' : World) (h : Below w1.heap.size w1 w') => imProgType_any l u w' (hS.smsF h) (hE.ext (hbw.ext h)))
  have HW := Lib.hid hbw
  have hB1 := Below.refl w1.heap.size w1
  have HEN := Lib.hid (And.intro hE hbw)
  have HSS := Lib.hid hS
  obtain ⟨A1, c1, rfl, hc1, hm1⟩ := hS.val
  obtain ⟨po, hpo⟩ : ∃ x, progOkB l = x := ⟨_, rfl⟩
  rw [hpo] at IP SP
  clear hS hN hbw hE DR hb1
  cases po
  · clear HSS hpo
    go_wp2_with fail
    refine (IP.out _ hB1).mono ?_
    rintro r w2 ⟨rfl, hb2⟩
    have hB2 := hB1.ext hb2
    go_wp2_with fail
    refine (SP.out _ hB2).mono ?_
    rintro r w3 ⟨rfl, hb3⟩
    have hB3 := hB2.ext hb3
    go_wp2_with fail
    refine (SP.out _ hB3).mono ?_
    rintro r w4 ⟨rfl, hb4⟩
    have hB4 := hB3.ext hb4
    go_wp2_with fail
    refine (IP.out _ hB4).mono ?_
    rintro r w5 ⟨rfl, hb5⟩
    have hB5 := hB4.ext hb5
    go_wp2_with fail
    refine (SP.out _ hB5).mono ?_
    rintro r w6 ⟨rfl, hb6⟩
    have hB6 := hB5.ext hb6
    go_wp2_with fail
    go_ret
    exact ⟨rfl, HW.out.ext hB6⟩
  have hl1 : 0 < l.length := (progOkB_iff.1 hpo).2.1
  obtain ⟨gp, cp, fl, hup, _, _, hgp, hfl, hone, HP⟩ := HSS.out.at hl1
  obtain ⟨rfl, rfl⟩ : A1 = some ⟨gp, 0, none⟩ ∧ c1 = cp := by injection hup; exact ⟨‹_›, ‹_›⟩
  have HPP := Lib.hid (And.intro hfl (And.intro hone HP))
  clear hup hfl hone HP HSS
  go_wp2_with fail
  refine (IP.out _ hB1).mono ?_
  rintro r w2 ⟨rfl, hb2⟩
  have hB2 := hB1.ext hb2
  go_wp2_with fail
  refine (SP.out _ hB2).mono ?_
  rintro r w3 ⟨rfl, hb3⟩
  have hB3 := hB2.ext hb3
  go_wp2_with fail
  refine (SP.out _ hB3).mono ?_
  rintro r w4 ⟨rfl, hb4⟩
  have hB4 := hB3.ext hb4
  have hWb : W.heap.size ≤ w4.heap.size := Nat.le_trans HW.out.size hB4.size
  go_wp2_with (first
    | (at_builtin; refine app_copyP (by rfl) (.tmp 33) (.tmp 34) (by rfl) w4.heap.size w4.heap.size (by rfl) ?_ fl l.length HPP.out.1 HPP.out.2.1 gp c1 (by rfl) ?_ hl1 ?_ ?_ ?_; exact gt_empty' w4 _ rfl (Nat.le_refl _) (by (repeat (first | with_reducible assumption | with_reducible exact Below.refl _ _ | with_reducible refine Below.setCell ?_ (by first | omega | (simp; done) | (simp; omega)) _ | with_reducible refine Below.alloc ?_ (by first | omega | (simp; done) | (simp; omega)) _ | with_reducible refine below_drewN ?_ _ | with_reducible refine Below.drew ?_))); exact (HPP.out.2.2 _ (hB4.ext (by (repeat (first | with_reducible assumption | with_reducible exact Below.refl _ _ | with_reducible refine Below.setCell ?_ (by first | omega | (simp; done) | (simp; omega)) _ | with_reducible refine Below.alloc ?_ (by first | omega | (simp; done) | (simp; omega)) _ | with_reducible refine below_drewN ?_ _ | with_reducible refine Below.drew ?_))))).1; (first | omega | (simp; done) | (simp only [List.length_cons, List.length_nil, List.length_append]; omega) | (simp; omega)); (simp only [World.size_alloc]; omega); intro g5 cap5 w5 hG5 hgr5 hat5; have hg5 := hG5.lt (b := g5) rfl; have hz5 := hgr5.size; (try simp at hz5))
    | (at_builtin; refine app_plainL (by rfl) (.tmp 35) (.tmp 37) (by rfl) w4.heap.size g5 l.length cap5 fl (by rfl) ?_ HPP.out.1 [fSN] 1 rfl fSN_one w5.heap.size 1 (by rfl) ?_ (by omega) ?_ ?_ ?_; exact hG5.ext (by (repeat (first | with_reducible assumption | with_reducible exact Below.refl _ _ | with_reducible refine Below.setCell ?_ (by first | omega | (simp; done) | (simp; omega)) _ | with_reducible refine Below.alloc ?_ (by first | omega | (simp; done) | (simp; omega)) _ | with_reducible refine below_drewN ?_ _ | with_reducible refine Below.drew ?_))); exact news_at rfl; (first | omega | (simp; done) | (simp only [List.length_cons, List.length_nil, List.length_append]; omega) | (simp; omega)); (first | omega | (simp only [World.size_alloc]; omega)); intro g6 cap6 w6 hG6 hgr6 hat6; have hb46 : Below w4.heap.size w4 w6 := (by (repeat (first | with_reducible assumption | with_reducible exact Below.refl _ _ | with_reducible refine Below.setCell ?_ (by first | omega | (simp; done) | (simp; omega)) _ | with_reducible refine Below.alloc ?_ (by first | omega | (simp; done) | (simp; omega)) _ | with_reducible refine below_drewN ?_ _ | with_reducible refine Below.drew ?_ | with_reducible refine below_app ?_ hgr5 (by intro q hq; simp [Value.ownBlock] at hq; omega) (by first | omega | (simp; done) | (simp; omega)) | with_reducible refine below_app ?_ hgr6 (by intro q hq; simp [Value.ownBlock] at hq; omega) (by first | omega | (simp; done) | (simp; omega))))); have hz6 := hb46.size; have HA := Lib.hid (And.intro hG6 hb46); clear hG5 hgr5 hat5 hG6 hgr6 hat6 hg5 hz5 hb46)
    | (at_builtin; refine app_copyP (by rfl) (.tmp 39) (.tmp 40) (by rfl) w6.heap.size w6.heap.size (by rfl) ?_ fl l.length HPP.out.1 HPP.out.2.1 gp c1 (by rfl) ?_ hl1 ?_ ?_ ?_; exact gt_empty' w6 _ rfl (Nat.le_refl _) (by (repeat (first | with_reducible assumption | with_reducible exact Below.refl _ _ | with_reducible refine Below.setCell ?_ (by first | omega | (simp; done) | (simp; omega)) _ | with_reducible refine Below.alloc ?_ (by first | omega | (simp; done) | (simp; omega)) _ | with_reducible refine below_drewN ?_ _ | with_reducible refine Below.drew ?_))); exact (HPP.out.2.2 _ ((hB4.ext HA.out.2).ext (by (repeat (first | with_reducible assumption | with_reducible exact Below.refl _ _ | with_reducible refine Below.setCell ?_ (by first | omega | (simp; done) | (simp; omega)) _ | with_reducible refine Below.alloc ?_ (by first | omega | (simp; done) | (simp; omega)) _ | with_reducible refine below_drewN ?_ _ | with_reducible refine Below.drew ?_))))).1; (first | omega | (simp; done) | (simp only [List.length_cons, List.length_nil, List.length_append]; omega) | (simp; omega)); (simp only [World.size_alloc]; omega); intro g7 cap7 w7 hG7 hgr7 hat7; have hg7 := hG7.lt (b := g7) rfl; have hz7 := hgr7.size; (try simp at hz7); have hb67 : Below w6.heap.size w6 w7 := (by (repeat (first | with_reducible assumption | with_reducible exact Below.refl _ _ | with_reducible refine Below.setCell ?_ (by first | omega | (simp; done) | (simp; omega)) _ | with_reducible refine Below.alloc ?_ (by first | omega | (simp; done) | (simp; omega)) _ | with_reducible refine below_drewN ?_ _ | with_reducible refine Below.drew ?_ | with_reducible refine below_app ?_ hgr7 (by intro q hq; simp [Value.ownBlock] at hq; omega) (by first | omega | (simp; done) | (simp; omega))))); have HB := Lib.hid (And.intro hG7 hb67); clear hG7 hgr7 hat7 hb67)
    | fail)
  have hl16 : l.length ≤ 16 := (progOkB_iff.1 hpo).2.2
  have hWb6 : W.heap.size ≤ w6.heap.size := by omega
  go_loopg [5] (17 - l.length) (fun k o wr => ∃ (fl' : List FS) (m : List Sm) (gb capb : Nat), o = .slice (some ⟨gb, 0, none⟩) m.length capb ∧ k = 17 - m.length ∧ m.length ≤ 17 ∧ GtF w6.heap.size wr (.slice (some ⟨gb, 0, none⟩) m.length capb) fl' ∧ fl'.length = m.length ∧ (∀ (i : Nat) (f : FS) (s : Sm), fl'[i]? = some f → m[i]? = some s → DrF W.heap.size w6 f s) ∧ Below w6.heap.size w6 wr)
  case atStart => exact ⟨fl, l, g7, cap7, rfl, rfl, by omega, HB.out.1, HPP.out.1, (HPP.out.2.2 _ (hB4.ext HA.out.2)).2, HB.out.2⟩
  case round =>
    obtain ⟨fl', m, gb, capb, rfl, hk, hm17, hG, hfl', hF', hbl⟩ := hrel
    have hzl := hbl.size
    by_cases hlt : m.length ≤ 16
    · have hd : decide (((m.length : Nat) : Int) ≤ 16) = true := by rw [decide_eq_true_eq]; omega
      have hG1 := hG.ext (w' := wr.alloc (.cells ([fZero].flatMap fsRow).toArray 27)) (by (repeat (first | with_reducible assumption | with_reducible exact Below.refl _ _ | with_reducible refine Below.setCell ?_ (by first | omega | (simp; done) | (simp; omega)) _ | with_reducible refine Below.alloc ?_ (by first | omega | (simp; done) | (simp; omega)) _ | with_reducible refine below_drewN ?_ _ | with_reducible refine Below.drew ?_)))
      have HG1 := Lib.hid hG1
      have HZ := Lib.hid (And.intro hk (And.intro hfl' (And.intro hF' hbl)))
      have hgb := (hG.lt (b := gb) rfl).1
      clear hG hG1 hk hfl' hF'
      go_wp2_with (first
        | (at_builtin; refine app_plainL (by rfl) (.tmp 45) (.tmp 47) (by rfl) w6.heap.size gb m.length capb fl' (by rfl) HG1.out HZ.out.2.1 [fZero] 1 rfl fZ_one wr.heap.size 1 (by rfl) (news_at rfl) (by omega) ?_ ?_ ?_; (first | omega | (simp; done) | (simp only [List.length_cons, List.length_nil, List.length_append]; omega) | (simp; omega)); (first | omega | (simp only [World.size_alloc]; omega)); intro g8 cap8 w8 hG8 hgr8 hat8; have hb8 : Below w6.heap.size w6 w8 := (by (repeat (first | with_reducible assumption | with_reducible exact Below.refl _ _ | with_reducible refine Below.setCell ?_ (by first | omega | (simp; done) | (simp; omega)) _ | with_reducible refine Below.alloc ?_ (by first | omega | (simp; done) | (simp; omega)) _ | with_reducible refine below_drewN ?_ _ | with_reducible refine Below.drew ?_ | with_reducible refine Below.trans ?_ (Below.mono hbl (by first | omega | (simp; done) | (simp; omega))) | with_reducible refine below_app ?_ hgr8 (by intro q hq; simp [Value.ownBlock] at hq; omega) (by first | omega | (simp; done) | (simp; omega))))); have HG8 := Lib.hid (And.intro hG8 hb8); clear hG8 hgr8 hat8 hb8)
        | fail)
      go_roundg (17 - (m.length + 1))
      case measure => have := HZ.out.1; omega
      case rel =>
        obtain ⟨hk, hfl', hF', hbl⟩ := HZ.out
        refine ⟨fl' ++ [fZero], m ++ [noSm], g8, cap8, ?_, ?_, ?_, ?_, ?_, ?_, HG8.out.2⟩
        · rw [List.length_append]; rfl
        · rw [List.length_append]; rfl
        · rw [List.length_append]; simp only [List.length_singleton]; omega
        · rw [List.length_append]; exact HG8.out.1
        · rw [List.length_append, List.length_append, hfl']; rfl
        · intro i f s hf hs
          rcases getElem?_snoc hf with ⟨a1, a2⟩ | ⟨a1, a2⟩
          · rw [List.getElem?_append_left (by omega)] at hs
            exact hF' i f s a2 hs
          · subst a1 a2
            rw [hfl', List.getElem?_append_right (Nat.le_refl _), Nat.sub_self] at hs
            simp at hs
            subst hs
            exact fZ_dr _ _
    · have hd : decide (((m.length : Nat) : Int) ≤ 16) = false := by rw [decide_eq_false_iff_not]; omega
      have HB2 := Lib.hid (And.intro hG (And.intro hfl' hF'))
      have hmb : progOkB m = false := progOkB_many (by omega)
      clear hG hfl' hF' hk HB
      have hB8 := (hB4.ext HA.out.2).ext hbl
      go_wp2_with (first
        | (at_builtin; refine app_plainL (by rfl) (.tmp 50) (.tmp 51) (by rfl) wr.heap.size wr.heap.size 1 1 [fZero] (by rfl) (gt_laid [fZero] rfl rfl (by omega) (by omega) (Below.refl _ _)) rfl fl l.length HPP.out.1 HPP.out.2.1 gp c1 (by rfl) ?_ hl1 ?_ ?_ ?_; exact (HPP.out.2.2 _ (hB8.ext (by (repeat (first | with_reducible assumption | with_reducible exact Below.refl _ _ | with_reducible refine Below.setCell ?_ (by first | omega | (simp; done) | (simp; omega)) _ | with_reducible refine Below.alloc ?_ (by first | omega | (simp; done) | (simp; omega)) _ | with_reducible refine below_drewN ?_ _ | with_reducible refine Below.drew ?_))))).1; (first | omega | (simp; done) | (simp only [List.length_cons, List.length_nil, List.length_append]; omega) | (simp; omega)); (first | omega | (simp only [World.size_alloc]; omega)); intro g9 cap9 w9 hG9 hgr9 hat9; have hb9 : Below wr.heap.size wr w9 := (by (repeat (first | with_reducible assumption | with_reducible exact Below.refl _ _ | with_reducible refine Below.setCell ?_ (by first | omega | (simp; done) | (simp; omega)) _ | with_reducible refine Below.alloc ?_ (by first | omega | (simp; done) | (simp; omega)) _ | with_reducible refine below_drewN ?_ _ | with_reducible refine Below.drew ?_ | with_reducible refine below_app ?_ hgr9 (by intro q hq; simp [Value.ownBlock] at hq; omega) (by first | omega | (simp; done) | (simp; omega))))); have HC := Lib.hid (And.intro hG9 hb9); clear hG9 hgr9 hat9 hb9)
        | fail)
      have hB9 := hB8.ext HC.out.2
      have hWw : W.heap.size ≤ wr.heap.size := by omega
      have hdrf : ∀ (i : Nat) (f : FS) (s : Sm), fl[i]? = some f → l[i]? = some s → DrF W.heap.size w9 f s := (HPP.out.2.2 _ hB9).2
      have DA : DrS W.heap.size w9 (.slice (some ⟨g6, 0, none⟩) (l.length + 1) cap6) (l ++ [sayNone]) := DrS.both (((HA.out.1.ext hbl).ext HC.out.2).less hWb) HPP.out.1 hdrf rfl (one_dr (fSN_dr _ _))
      have DB : DrS W.heap.size w9 (.slice (some ⟨gb, 0, none⟩) m.length capb) m := ⟨fl', (HB2.out.1.ext HC.out.2).less hWb6, HB2.out.2.1, fun i f s h1 h2 => ((HB2.out.2.2 i f s h1 h2).ext hbl).ext HC.out.2⟩
      have DC : DrS W.heap.size w9 (.slice (some ⟨g9, 0, none⟩) (1 + l.length) cap9) ([noSm] ++ l) := DrS.both (HC.out.1.less hWw) rfl (one_dr (fZ_dr _ _)) HPP.out.1 hdrf
      have PA := Lib.hid (fun (w' : World) (h : Below w9.heap.size w9 w') => imProgOk_any _ _ w' (DA.smsF h) (HEN.out.1.ext (HEN.out.2.ext (hB9.ext h))))
      have PB := Lib.hid (fun (w' : World) (h : Below w9.heap.size w9 w') => imProgOk_any _ _ w' (DB.smsF h) (HEN.out.1.ext (HEN.out.2.ext (hB9.ext h))))
      have PN := Lib.hid (fun (w' : World) (h : Below w9.heap.size w9 w') => imProgOk_any [] (.slice none 0 0) w' (sms_nil w') (HEN.out.1.ext (HEN.out.2.ext (hB9.ext h))))
      have PC := Lib.hid (fun (w' : World) (h : Below w9.heap.size w9 w') => imProgOk_any _ _ w' (DC.smsF h) (HEN.out.1.ext (HEN.out.2.ext (hB9.ext h))))
      have RC := Lib.hid (fun (w' : World) (h : Below w9.heap.size w9 w') => imProgRun_any _ _ w' (DC.smsF h) (HEN.out.1.ext (HEN.out.2.ext (hB9.ext h))))
      have TC := Lib.hid (fun (w' : World) (h : Below w9.heap.size w9 w') => imProgType_any _ _ w' (DC.smsF h) (HEN.out.1.ext (HEN.out.2.ext (hB9.ext h))))
      rw [progOkB_bad sayNone_bad] at PA
      rw [hmb] at PB
      rw [progOkB_nil] at PN
      rw [List.singleton_append] at PC RC TC
      rw [progOkB_cons_no hpo] at PC
      clear DA DB DC hdrf HA HB2 HC
      by_cases h16 : l.length < 16
      rotate_left
      · rw [decide_eq_false h16] at PC
        have hd2 : decide ((16 : Int) ≤ ((l.length : Nat) : Int)) = true := by rw [decide_eq_true_eq]; omega
        have hd3 : 16 ≤ l.length := by omega
        refine (PA.out _ (Below.refl _ _)).mono ?_
        rintro r wa ⟨rfl, hba⟩
        go_wp2_with fail
        refine (PB.out _ hba).mono ?_
        rintro r wb ⟨rfl, hbb⟩
        have hb9b := hba.ext hbb
        go_wp2_with fail
        refine (PN.out _ hb9b).mono ?_
        rintro r wc ⟨rfl, hbc⟩
        have hb9c := hb9b.ext hbc
        go_wp2_with fail
        refine (PC.out _ hb9c).mono ?_
        rintro r wd ⟨rfl, hbd⟩
        go_wp2_with fail
        go_ret
        exact ⟨rfl, HW.out.ext (hB9.ext (hb9c.ext hbd))⟩
      rw [decide_eq_true h16] at PC
      obtain ⟨hr, ht⟩ := bent_facts hpo h16
      rw [hr] at RC
      generalize prRun l = pr at *
      obtain ⟨out, ok⟩ := pr
      rcases ht with ⟨ht1, ht2⟩ | ⟨k, hk16, ht1, ht2⟩
      all_goals
        (try (have hwk : IntKind.i64.wrap ((k : Int) + 1) = (k : Int) + 1 := (by rw [IntKind.wrap_i64]; omega)))
        rw [ht1] at IT
        rw [ht2] at TC
        clear ht1 ht2 hr
        refine (PA.out _ (Below.refl _ _)).mono ?_
        rintro r wa ⟨rfl, hba⟩
        go_wp2_with fail
        refine (PB.out _ hba).mono ?_
        rintro r wb ⟨rfl, hbb⟩
        have hb9b := hba.ext hbb
        go_wp2_with fail
        refine (PN.out _ hb9b).mono ?_
        rintro r wc ⟨rfl, hbc⟩
        have hb9c := hb9b.ext hbc
        go_wp2_with fail
        refine (PC.out _ hb9c).mono ?_
        rintro r wd ⟨rfl, hbd⟩
        have hb9d := hb9c.ext hbd
        go_wp2_with fail
        refine (IR.out _ (hB9.ext hb9d)).mono ?_
        rintro r we ⟨oe, rfl, hFe, hbe⟩
        obtain ⟨Xe, xe, rfl, hxce, hxme⟩ := hFe.sl.val
        clear hFe
        have hb9e := hb9d.ext hbe
        go_wp2_with fail
        refine (RC.out _ hb9e).mono ?_
        rintro r wf ⟨of, rfl, hFf, hbf⟩
        obtain ⟨Xf, xf, rfl, hxcf, hxmf⟩ := hFf.sl.val
        clear hFf
        have hb9f := hb9e.ext hbf
        go_wp2_with fail
        refine (IT.out _ (hB9.ext hb9f)).mono ?_
        rintro r wg ⟨rfl, hbg⟩
        have hb9g := hb9f.ext hbg
        go_wp2_with fail
        refine (TC.out _ hb9g).mono ?_
        rintro r wh ⟨rfl, hbh⟩
        have hb9h := hb9g.ext hbh
        go_wp2_with fail
        go_ret
        exact ⟨rfl, HW.out.ext (hB9.ext hb9h)⟩
end Go.Proofs.YtdobcfekjmobhaaGreatDoor
