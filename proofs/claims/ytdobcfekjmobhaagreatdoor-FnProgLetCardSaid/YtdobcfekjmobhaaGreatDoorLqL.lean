
/- The law FnProgLet: the walk. -/
import Derived.Test.YtdobcfekjmobhaaGreatDoorLqW
namespace Go.Proofs.YtdobcfekjmobhaaGreatDoor
set_option maxRecDepth 100000
set_option linter.unusedSimpArgs false
set_option linter.unusedVariables false
open Go.RowKit
attribute [local go_sem] bs_toList bs_get bs_size

def fNew : FS := ⟨1, cNew, cInt, 1, 7, [], .slice none 0 0, 0, 0, [], .slice none 0 0⟩
def fSay : FS := ⟨2, [], [], 2, 0, cNew, .slice none 0 0, 0, 0, [], .slice none 0 0⟩
theorem fSay_one : ∀ f ∈ [fSay], ∀ u ∈ fsRow f, u.oneCell' = true := fs_one (f := fSay) rfl rfl
theorem fBoth_one : ∀ f ∈ [fNew, fSay], ∀ u ∈ fsRow f, u.oneCell' = true := by
  intro f hf
  simp at hf
  rcases hf with rfl | rfl
  · exact fs_one (f := fNew) rfl rfl _ (List.mem_singleton.2 rfl)
  · exact fs_one (f := fSay) rfl rfl _ (List.mem_singleton.2 rfl)
theorem fNew_dr (lo : Nat) (w : World) : DrF lo w fNew sNew.sm := DrV.drf (DrE.of (by simp) (DrK.nil _ _)) (DrE.none _ _) (by simp [cNew]) (by simp [cInt])
theorem fSay_dr (lo : Nat) (w : World) : DrF lo w fSay sSay.sm := DrV.drf (DrE.of (by simp [cNew]) (DrK.nil _ _)) (DrE.none _ _) (by simp) (by simp)
theorem two_dr {lo : Nat} {w : World} {f g : FS} {s t : Sm} (h : DrF lo w f s) (h' : DrF lo w g t) : ∀ (i : Nat) (f' : FS) (s' : Sm), [f, g][i]? = some f' → [s, t][i]? = some s' → DrF lo w f' s' := by
  intro i f' s' h1 h2
  rcases i with _ | _ | i
  · simp at h1 h2; subst h1 h2; exact h
  · simp at h1 h2; subst h1 h2; exact h'
  · simp at h1
theorem let_two {l : List Sm} {out : List Int} (h : progOkB l = true) (hr : prRun l = (out, true)) (hl : l.length ≤ 14) : prRun (l ++ [sNew.sm, sSay.sm]) = (out ++ [7], true) := by
  rw [prRun_let2 h (by rw [hr]) hl, hr]
theorem let_one {l : List Sm} {out : List Int} (h : progOkB l = true) (hr : prRun l = (out, true)) (hl : l.length ≤ 14) (hn : ∀ s ∈ l, s.name ≠ cNew) : prRun (l ++ [sSay.sm]) = (out, false) := by
  rw [prRun_let1 h (by rw [hr]) hl hn, hr]
set_option maxHeartbeats 4000000 in
theorem lawPLet (W : World) (v : Value) (cl : List Int) (hv : CodeV W v cl) (hE : Env W) : Calls Tryz.prog 8 #[v] W fun e w' => e = .returned (.bool true) ∧ Below W.heap.size W w' := by
  have DR := Lib.hid (drawRun_any v cl W hv)
  obtain ⟨A, c, rfl, hc, hm⟩ := hv.1.val
  clear hv
  obtain ⟨b1, hb1⟩ : ∃ b, decide ((1048576 : Int) < ((cl.length : Nat) : Int)) = b := ⟨_, rfl⟩
  cases b1
  rotate_left
  · go_enter Tryz.func8, Tryz.ntmps8
    go_wp2_with fail
    go_ret
    exact ⟨rfl, Below.refl _ _⟩
  go_enter Tryz.func8, Tryz.ntmps8
  go_wp2_with fail
  refine DR.out.mono ?_
  rintro r w1 ⟨u, l, rfl, hS, hN, hl, hbw⟩
  have IR := Lib.hid (fun (w' : World) (h : Below w1.heap.size w1 w') => imProgRun_any l u w' (hS.smsF h) (hE.ext (hbw.ext h)))
  have SR := Lib.hid (fun (w' : World) (h : Below w1.heap.size w1 w') => spProgRun_any l u w' (hS.smsF h))
  have HW := Lib.hid hbw
  have hB1 := Below.refl w1.heap.size w1
  have HEN := Lib.hid (And.intro hE hbw)
  have FOK := Lib.hid (show (prRun l).2 = true → progOkB l = true from fun h => by
    cases hp : progOkB l with
    | true => rfl
    | false => rw [prRun_bad hp] at h; cases h)
  have HSS := Lib.hid hS
  have HNN := Lib.hid hN
  have TP := Lib.hid (fun (w' : World) (h : Below w1.heap.size w1 w') => imProgType_any l u w' (hS.smsF h) (hE.ext (hbw.ext h)))
  obtain ⟨A1, c1, rfl, hc1, hm1⟩ := hS.val
  obtain ⟨pr, hpr⟩ : ∃ x, prRun l = x := ⟨_, rfl⟩
  rw [hpr] at IR SR FOK
  obtain ⟨out, ok⟩ := pr
  have HPR := Lib.hid hpr
  clear hS hN hbw hE DR hb1 hpr
  cases ok
  · clear HSS
    go_wp2_with fail
    refine (IR.out _ hB1).mono ?_
    rintro r w2 ⟨o2, rfl, hF2, hb2⟩
    have hB2 := hB1.ext hb2
    have HF2 := Lib.hid hF2
    obtain ⟨X2, x2, rfl, hxc2, hxm2⟩ := hF2.sl.val
    clear hF2
    go_wp2_with fail
    refine (SR.out _ hB2).mono ?_
    rintro r w3 ⟨o3, rfl, hF3, hb3⟩
    have hB3 := hB2.ext hb3
    have HF3 := Lib.hid hF3
    obtain ⟨X3, x3, rfl, hxc3, hxm3⟩ := hF3.sl.val
    clear hF3
    go_wp2_with fail
    go_ret
    exact ⟨rfl, HW.out.ext hB3⟩
  have hpo := FOK.out rfl
  clear FOK
  by_cases h16 : l.length ≤ 14
  rotate_left
  · have hd : decide ((14 : Int) < ((l.length : Nat) : Int)) = true := by rw [decide_eq_true_eq]; omega
    have hd2 : 14 < l.length := by omega
    clear HSS
    go_wp2_with fail
    refine (IR.out _ hB1).mono ?_
    rintro r w2 ⟨o2, rfl, hF2, hb2⟩
    have hB2 := hB1.ext hb2
    have HF2 := Lib.hid hF2
    obtain ⟨X2, x2, rfl, hxc2, hxm2⟩ := hF2.sl.val
    clear hF2
    go_wp2_with fail
    refine (SR.out _ hB2).mono ?_
    rintro r w3 ⟨o3, rfl, hF3, hb3⟩
    have hB3 := hB2.ext hb3
    have HF3 := Lib.hid hF3
    obtain ⟨X3, x3, rfl, hxc3, hxm3⟩ := hF3.sl.val
    clear hF3
    go_wp2_with fail
    go_ret
    exact ⟨rfl, HW.out.ext hB3⟩
  have hd : decide ((14 : Int) < ((l.length : Nat) : Int)) = false := by rw [decide_eq_false_iff_not]; omega
  have hd2 : ¬ (14 < l.length) := by omega
  have hl1 : 0 < l.length := (progOkB_iff.1 hpo).2.1
  obtain ⟨gp, cp, fl, hup, _, _, hgp, hfl, hone, HP⟩ := HSS.out.at hl1
  obtain ⟨rfl, rfl⟩ : A1 = some ⟨gp, 0, none⟩ ∧ c1 = cp := by injection hup; exact ⟨‹_›, ‹_›⟩
  have HPP := Lib.hid (And.intro hfl (And.intro hone HP))
  clear hup hfl hone HP HSS
  go_wp2_with fail
  refine (IR.out _ hB1).mono ?_
  rintro r w2 ⟨o2, rfl, hF2, hb2⟩
  have hB2 := hB1.ext hb2
  have HF2 := Lib.hid hF2
  obtain ⟨X2, x2, rfl, hxc2, hxm2⟩ := hF2.sl.val
  clear hF2
  go_wp2_with fail
  refine (SR.out _ hB2).mono ?_
  rintro r w3 ⟨o3, rfl, hF3, hb3⟩
  have hB3 := hB2.ext hb3
  obtain ⟨X3, x3, rfl, hxc3, hxm3⟩ := hF3.sl.val
  clear hF3
  go_upto_region 10 with fail
  generalize hWB : World.alloc (World.alloc w3 _) _ = wB
  have HB8 : Blk wB w3.heap.size 25 #[.int .i64 1, .int .i64 7, .string ⟨#[]⟩, .slice none 0 0] := by rw [← hWB]; exact (Blk.new _ _ _).alloc _
  have HB9 : Blk wB (w3.heap.size + 1) 25 #[.int .i64 2, .int .i64 0, .string ⟨#[110, 101, 119]⟩, .slice none 0 0] := by rw [← hWB]; exact Blk.new' (by simp)
  have hbB : Below w3.heap.size w3 wB := by rw [← hWB]; (repeat (first | with_reducible assumption | with_reducible exact Below.refl _ _ | with_reducible refine Below.setCell ?_ (by first | omega | (simp; done) | (simp; omega)) _ | with_reducible refine Below.alloc ?_ (by first | omega | (simp; done) | (simp; omega)) _ | with_reducible refine below_drewN ?_ _ | with_reducible refine Below.drew ?_))
  have hBB := hB3.ext hbB
  have hzB : w3.heap.size + 1 < wB.heap.size := HB9.lt
  clear hWB
  have KB : Hid (∀ w', Below wB.heap.size wB w' → (w'.cell? ⟨w3.heap.size, 0, none⟩ = some (.int .i64 1) ∧ w'.cell? ⟨w3.heap.size, 1, none⟩ = some (.int .i64 7) ∧ w'.cell? ⟨w3.heap.size, 2, none⟩ = some (.string ⟨#[]⟩) ∧ w'.cell? ⟨w3.heap.size, 3, none⟩ = some (.slice none 0 0) ∧ w'.cell? ⟨w3.heap.size + 1, 0, none⟩ = some (.int .i64 2) ∧ w'.cell? ⟨w3.heap.size + 1, 1, none⟩ = some (.int .i64 0) ∧ w'.cell? ⟨w3.heap.size + 1, 2, none⟩ = some (.string ⟨#[110, 101, 119]⟩) ∧ w'.cell? ⟨w3.heap.size + 1, 3, none⟩ = some (.slice none 0 0))) := Lib.hid (fun w' h => by
    have h8 := HB8.below h HB8.lt
    have h9 := HB9.below h HB9.lt
    exact ⟨h8.cell 0, h8.cell 1, h8.cell 2, h8.cell 3, h9.cell 0, h9.cell 1, h9.cell 2, h9.cell 3⟩)
  clear HB8 HB9
  go_cut [10] (fun s wx => ∃ g cap, s = .slice (some ⟨g, 0, none⟩) (l.length + 2) cap ∧ DrS W.heap.size wx s (l ++ [sNew.sm, sSay.sm]) ∧ Below wB.heap.size wB wx)
  case first =>
    have hWb : W.heap.size ≤ wB.heap.size := Nat.le_trans HW.out.size hBB.size
    go_region_held3 (fun w' => w'.cell? ⟨w3.heap.size, 0, none⟩ = some (.int .i64 1) ∧ w'.cell? ⟨w3.heap.size, 1, none⟩ = some (.int .i64 7) ∧ w'.cell? ⟨w3.heap.size, 2, none⟩ = some (.string ⟨#[]⟩) ∧ w'.cell? ⟨w3.heap.size, 3, none⟩ = some (.slice none 0 0) ∧ w'.cell? ⟨w3.heap.size + 1, 0, none⟩ = some (.int .i64 2) ∧ w'.cell? ⟨w3.heap.size + 1, 1, none⟩ = some (.int .i64 0) ∧ w'.cell? ⟨w3.heap.size + 1, 2, none⟩ = some (.string ⟨#[110, 101, 119]⟩) ∧ w'.cell? ⟨w3.heap.size + 1, 3, none⟩ = some (.slice none 0 0))
      (first | exact KB.out _ (by (repeat (first | with_reducible assumption | with_reducible exact Below.refl _ _ | with_reducible refine Below.setCell ?_ (by first | omega | (simp; done) | (simp; omega)) _ | with_reducible refine Below.alloc ?_ (by first | omega | (simp; done) | (simp; omega)) _ | with_reducible refine below_drewN ?_ _ | with_reducible refine Below.drew ?_ | with_reducible refine below_app ?_ hgr5 (by intro q hq; simp [Value.ownBlock] at hq; omega) (by first | omega | (simp; done) | (simp; omega)) | with_reducible refine below_app ?_ hgr6 (by intro q hq; simp [Value.ownBlock] at hq; omega) (by first | omega | (simp; done) | (simp; omega))))) | exact KB.out _ (by (repeat (first | with_reducible assumption | with_reducible exact Below.refl _ _ | with_reducible refine Below.setCell ?_ (by first | omega | (simp; done) | (simp; omega)) _ | with_reducible refine Below.alloc ?_ (by first | omega | (simp; done) | (simp; omega)) _ | with_reducible refine below_drewN ?_ _ | with_reducible refine Below.drew ?_ | with_reducible refine below_app ?_ hgr5 (by intro q hq; simp [Value.ownBlock] at hq; omega) (by first | omega | (simp; done) | (simp; omega))))) | exact KB.out _ (by (repeat (first | with_reducible assumption | with_reducible exact Below.refl _ _ | with_reducible refine Below.setCell ?_ (by first | omega | (simp; done) | (simp; omega)) _ | with_reducible refine Below.alloc ?_ (by first | omega | (simp; done) | (simp; omega)) _ | with_reducible refine below_drewN ?_ _ | with_reducible refine Below.drew ?_))) | go_keep)
      (first
        | (refine app_copyF (by rfl) (.tmp 48) (.tmp 49) (by rfl) wB.heap.size wB.heap.size (by rfl) ?_ fl l.length HPP.out.1 HPP.out.2.1 gp c1 (by rfl) ?_ hl1 ?_ ?_ ?_; exact gt_empty' wB _ rfl (Nat.le_refl _) (by (repeat (first | with_reducible assumption | with_reducible exact Below.refl _ _ | with_reducible refine Below.setCell ?_ (by first | omega | (simp; done) | (simp; omega)) _ | with_reducible refine Below.alloc ?_ (by first | omega | (simp; done) | (simp; omega)) _ | with_reducible refine below_drewN ?_ _ | with_reducible refine Below.drew ?_))); exact (HPP.out.2.2 _ (hBB.ext (by (repeat (first | with_reducible assumption | with_reducible exact Below.refl _ _ | with_reducible refine Below.setCell ?_ (by first | omega | (simp; done) | (simp; omega)) _ | with_reducible refine Below.alloc ?_ (by first | omega | (simp; done) | (simp; omega)) _ | with_reducible refine below_drewN ?_ _ | with_reducible refine Below.drew ?_))))).1; (first | omega | (simp; done) | (simp only [List.length_cons, List.length_nil, List.length_append]; omega) | (simp; omega)); (simp only [World.size_alloc, World.size_drew]; omega); intro g5 cap5 w5 hG5 hgr5 hat5; have hg5 := hG5.lt (b := g5) rfl; have hz5 := hgr5.size; (try simp at hz5))
        | (refine app_copyF (by rfl) (.tmp 48) (.tmp 49) (by rfl) wB.heap.size (wB.heap.size + 1) (by rfl) ?_ fl l.length HPP.out.1 HPP.out.2.1 gp c1 (by rfl) ?_ hl1 ?_ ?_ ?_; exact gt_empty' (wB.alloc (.cells ([fNew, fSay].flatMap fsRow).toArray 27)) _ (by simp) (by omega) (Below.drew (Below.refl _ _)); exact (HPP.out.2.2 _ (hBB.ext (by (repeat (first | with_reducible assumption | with_reducible exact Below.refl _ _ | with_reducible refine Below.setCell ?_ (by first | omega | (simp; done) | (simp; omega)) _ | with_reducible refine Below.alloc ?_ (by first | omega | (simp; done) | (simp; omega)) _ | with_reducible refine below_drewN ?_ _ | with_reducible refine Below.drew ?_))))).1; (first | omega | (simp; done) | (simp only [List.length_cons, List.length_nil, List.length_append]; omega) | (simp; omega)); (simp only [World.size_alloc, World.size_drew]; omega); intro g5 cap5 w5 hG5 hgr5 hat5; have hg5 := hG5.lt (b := g5) rfl; have hz5 := hgr5.size; (try simp at hz5))
        | (refine app_stepL (by rfl) (.tmp 50) (.tmp 55) (by rfl) wB.heap.size g5 l.length cap5 fl (by rfl) ?_ HPP.out.1 [fNew, fSay] 2 rfl fBoth_one w5.heap.size 2 (by rfl) ?_ (by omega) ?_ ?_ ?_; exact hG5.ext (by (repeat (first | with_reducible assumption | with_reducible exact Below.refl _ _ | with_reducible refine Below.setCell ?_ (by first | omega | (simp; done) | (simp; omega)) _ | with_reducible refine Below.alloc ?_ (by first | omega | (simp; done) | (simp; omega)) _ | with_reducible refine below_drewN ?_ _ | with_reducible refine Below.drew ?_))); exact news_at rfl; (first | omega | (simp; done) | (simp only [List.length_cons, List.length_nil, List.length_append]; omega) | (simp; omega)); (first | omega | (simp only [World.size_alloc, World.size_drew]; omega)); intro g6 cap6 w6 hG6 hgr6 hat6)
        | (refine app_stepL (by rfl) (.tmp 50) (.tmp 55) (by rfl) wB.heap.size g5 l.length cap5 fl (by rfl) ?_ HPP.out.1 [fNew, fSay] 2 rfl fBoth_one (wB.heap.size + 1) 2 (by rfl) ?_ (by omega) ?_ ?_ ?_; exact hG5.ext (by (repeat (first | with_reducible assumption | with_reducible exact Below.refl _ _ | with_reducible refine Below.setCell ?_ (by first | omega | (simp; done) | (simp; omega)) _ | with_reducible refine Below.alloc ?_ (by first | omega | (simp; done) | (simp; omega)) _ | with_reducible refine below_drewN ?_ _ | with_reducible refine Below.drew ?_))); exact World.news_of_block (blk_gr (Blk.drew (Blk.newc (w := wB.alloc (.cells #[] 27)) (cs' := ([fNew, fSay].flatMap fsRow).toArray) (by simp) rfl)) hgr5 (by omega)); (first | omega | (simp; done) | (simp only [List.length_cons, List.length_nil, List.length_append]; omega) | (simp; omega)); (first | omega | (simp only [World.size_alloc, World.size_drew]; omega)); intro g6 cap6 w6 hG6 hgr6 hat6)
        | (refine app_stepL (by rfl) (.tmp 50) (.tmp 55) (by rfl) wB.heap.size g5 l.length cap5 fl (by rfl) ?_ HPP.out.1 [fNew, fSay] 2 rfl fBoth_one wB.heap.size 2 (by rfl) ?_ (by omega) ?_ ?_ ?_; exact hG5.ext (by (repeat (first | with_reducible assumption | with_reducible exact Below.refl _ _ | with_reducible refine Below.setCell ?_ (by first | omega | (simp; done) | (simp; omega)) _ | with_reducible refine Below.alloc ?_ (by first | omega | (simp; done) | (simp; omega)) _ | with_reducible refine below_drewN ?_ _ | with_reducible refine Below.drew ?_))); exact World.news_of_block (blk_gr (Blk.drew (Blk.alloc (Blk.newc (w := wB) (cs' := ([fNew, fSay].flatMap fsRow).toArray) rfl rfl) _)) hgr5 (by omega)); (first | omega | (simp; done) | (simp only [List.length_cons, List.length_nil, List.length_append]; omega) | (simp; omega)); (first | omega | (simp only [World.size_alloc, World.size_drew]; omega)); intro g6 cap6 w6 hG6 hgr6 hat6)
        | fail)
    all_goals
      have hbx : Below wB.heap.size wB w6 := by (repeat (first | with_reducible assumption | with_reducible exact Below.refl _ _ | with_reducible refine Below.setCell ?_ (by first | omega | (simp; done) | (simp; omega)) _ | with_reducible refine Below.alloc ?_ (by first | omega | (simp; done) | (simp; omega)) _ | with_reducible refine below_drewN ?_ _ | with_reducible refine Below.drew ?_ | with_reducible refine below_app ?_ hgr5 (by intro q hq; simp [Value.ownBlock] at hq; omega) (by first | omega | (simp; done) | (simp; omega)) | with_reducible refine below_app ?_ hgr6 (by intro q hq; simp [Value.ownBlock] at hq; omega) (by first | omega | (simp; done) | (simp; omega))))
      have HZ := Lib.hid (And.intro hG6 hbx)
      clear hG6 hbx hgr5 hgr6 hat5 hat6 hG5
      go_wp2_with fail
      go_meet
      exact ⟨g6, cap6, rfl, DrS.both (HZ.out.1.less hWb) HPP.out.1 (HPP.out.2.2 _ (hBB.ext HZ.out.2)).2 rfl (two_dr (fNew_dr _ _) (fSay_dr _ _)), HZ.out.2⟩
  case rest =>
    obtain ⟨ga, capa, rfl, hSa, hba⟩ := hcut
    obtain ⟨wa, hwa⟩ : ∃ x, x = wc := ⟨_, rfl⟩
    subst hwa
    have hBa := hBB.ext hba
    have KA := Lib.hid (fun (w' : World) (h : Below wa.heap.size wa w') => KB.out w' (hba.ext h))
    have IA := Lib.hid (fun (w' : World) (h : Below wa.heap.size wa w') => imProgRun_any _ _ w' (hSa.smsF h) (HEN.out.1.ext (HEN.out.2.ext (hBa.ext h))))
    rw [let_two hpo HPR.out h16] at IA
    have TA := Lib.hid (fun (w' : World) (h : Below wa.heap.size wa w') => imProgType_any _ _ w' (hSa.smsF h) (HEN.out.1.ext (HEN.out.2.ext (hBa.ext h))))
    clear hSa KB
    go_wp2_with fail
    refine (IA.out _ (Below.refl _ _)).mono ?_
    rintro r wq ⟨o6, rfl, hF6, hb6⟩
    have HF6 := Lib.hid hF6
    obtain ⟨X6, x6, rfl, hxc6, hxm6⟩ := hF6.sl.val
    clear hF6 IA
    have hB6 := hBa.ext hb6
    have KC := Lib.hid (fun (w' : World) (h : Below wq.heap.size wq w') => KA.out w' (hb6.ext h))
    have hz6 := hb6.size
    have hzb := hba.size
    clear KA
    go_upto_region 12 with fail
    go_cut [13] (fun s wx => ∃ g cap, s = .slice (some ⟨g, 0, none⟩) (l.length + 1) cap ∧ DrS W.heap.size wx s (l ++ [sSay.sm]) ∧ Below wq.heap.size wq wx)
    case first =>
      have hWb : W.heap.size ≤ wq.heap.size := Nat.le_trans HW.out.size hB6.size
      go_region_held3 (fun w' => w'.cell? ⟨w3.heap.size, 0, none⟩ = some (.int .i64 1) ∧ w'.cell? ⟨w3.heap.size, 1, none⟩ = some (.int .i64 7) ∧ w'.cell? ⟨w3.heap.size, 2, none⟩ = some (.string ⟨#[]⟩) ∧ w'.cell? ⟨w3.heap.size, 3, none⟩ = some (.slice none 0 0) ∧ w'.cell? ⟨w3.heap.size + 1, 0, none⟩ = some (.int .i64 2) ∧ w'.cell? ⟨w3.heap.size + 1, 1, none⟩ = some (.int .i64 0) ∧ w'.cell? ⟨w3.heap.size + 1, 2, none⟩ = some (.string ⟨#[110, 101, 119]⟩) ∧ w'.cell? ⟨w3.heap.size + 1, 3, none⟩ = some (.slice none 0 0))
        (first | exact KC.out _ (by (repeat (first | with_reducible assumption | with_reducible exact Below.refl _ _ | with_reducible refine Below.setCell ?_ (by first | omega | (simp; done) | (simp; omega)) _ | with_reducible refine Below.alloc ?_ (by first | omega | (simp; done) | (simp; omega)) _ | with_reducible refine below_drewN ?_ _ | with_reducible refine Below.drew ?_ | with_reducible refine below_app ?_ hgr5 (by intro q hq; simp [Value.ownBlock] at hq; omega) (by first | omega | (simp; done) | (simp; omega)) | with_reducible refine below_app ?_ hgr6 (by intro q hq; simp [Value.ownBlock] at hq; omega) (by first | omega | (simp; done) | (simp; omega))))) | exact KC.out _ (by (repeat (first | with_reducible assumption | with_reducible exact Below.refl _ _ | with_reducible refine Below.setCell ?_ (by first | omega | (simp; done) | (simp; omega)) _ | with_reducible refine Below.alloc ?_ (by first | omega | (simp; done) | (simp; omega)) _ | with_reducible refine below_drewN ?_ _ | with_reducible refine Below.drew ?_ | with_reducible refine below_app ?_ hgr5 (by intro q hq; simp [Value.ownBlock] at hq; omega) (by first | omega | (simp; done) | (simp; omega))))) | exact KC.out _ (by (repeat (first | with_reducible assumption | with_reducible exact Below.refl _ _ | with_reducible refine Below.setCell ?_ (by first | omega | (simp; done) | (simp; omega)) _ | with_reducible refine Below.alloc ?_ (by first | omega | (simp; done) | (simp; omega)) _ | with_reducible refine below_drewN ?_ _ | with_reducible refine Below.drew ?_))) | go_keep)
        (first
          | (refine app_copyF (by rfl) (.tmp 62) (.tmp 63) (by rfl) wq.heap.size wq.heap.size (by rfl) ?_ fl l.length HPP.out.1 HPP.out.2.1 gp c1 (by rfl) ?_ hl1 ?_ ?_ ?_; exact gt_empty' wq _ rfl (Nat.le_refl _) (by (repeat (first | with_reducible assumption | with_reducible exact Below.refl _ _ | with_reducible refine Below.setCell ?_ (by first | omega | (simp; done) | (simp; omega)) _ | with_reducible refine Below.alloc ?_ (by first | omega | (simp; done) | (simp; omega)) _ | with_reducible refine below_drewN ?_ _ | with_reducible refine Below.drew ?_))); exact (HPP.out.2.2 _ (hB6.ext (by (repeat (first | with_reducible assumption | with_reducible exact Below.refl _ _ | with_reducible refine Below.setCell ?_ (by first | omega | (simp; done) | (simp; omega)) _ | with_reducible refine Below.alloc ?_ (by first | omega | (simp; done) | (simp; omega)) _ | with_reducible refine below_drewN ?_ _ | with_reducible refine Below.drew ?_))))).1; (first | omega | (simp; done) | (simp only [List.length_cons, List.length_nil, List.length_append]; omega) | (simp; omega)); (simp only [World.size_alloc, World.size_drew]; omega); intro g5 cap5 w5 hG5 hgr5 hat5; have hg5 := hG5.lt (b := g5) rfl; have hz5 := hgr5.size; (try simp at hz5))
          | (refine app_copyF (by rfl) (.tmp 62) (.tmp 63) (by rfl) wq.heap.size (wq.heap.size + 1) (by rfl) ?_ fl l.length HPP.out.1 HPP.out.2.1 gp c1 (by rfl) ?_ hl1 ?_ ?_ ?_; exact gt_empty' (wq.alloc (.cells ([fSay].flatMap fsRow).toArray 27)) _ (by simp) (by omega) (Below.drew (Below.refl _ _)); exact (HPP.out.2.2 _ (hB6.ext (by (repeat (first | with_reducible assumption | with_reducible exact Below.refl _ _ | with_reducible refine Below.setCell ?_ (by first | omega | (simp; done) | (simp; omega)) _ | with_reducible refine Below.alloc ?_ (by first | omega | (simp; done) | (simp; omega)) _ | with_reducible refine below_drewN ?_ _ | with_reducible refine Below.drew ?_))))).1; (first | omega | (simp; done) | (simp only [List.length_cons, List.length_nil, List.length_append]; omega) | (simp; omega)); (simp only [World.size_alloc, World.size_drew]; omega); intro g5 cap5 w5 hG5 hgr5 hat5; have hg5 := hG5.lt (b := g5) rfl; have hz5 := hgr5.size; (try simp at hz5))
          | (refine app_stepL (by rfl) (.tmp 64) (.tmp 67) (by rfl) wq.heap.size g5 l.length cap5 fl (by rfl) ?_ HPP.out.1 [fSay] 1 rfl fSay_one w5.heap.size 1 (by rfl) ?_ (by omega) ?_ ?_ ?_; exact hG5.ext (by (repeat (first | with_reducible assumption | with_reducible exact Below.refl _ _ | with_reducible refine Below.setCell ?_ (by first | omega | (simp; done) | (simp; omega)) _ | with_reducible refine Below.alloc ?_ (by first | omega | (simp; done) | (simp; omega)) _ | with_reducible refine below_drewN ?_ _ | with_reducible refine Below.drew ?_))); exact news_at rfl; (first | omega | (simp; done) | (simp only [List.length_cons, List.length_nil, List.length_append]; omega) | (simp; omega)); (first | omega | (simp only [World.size_alloc, World.size_drew]; omega)); intro g6 cap6 w6 hG6 hgr6 hat6)
          | (refine app_stepL (by rfl) (.tmp 64) (.tmp 67) (by rfl) wq.heap.size g5 l.length cap5 fl (by rfl) ?_ HPP.out.1 [fSay] 1 rfl fSay_one (wq.heap.size + 1) 1 (by rfl) ?_ (by omega) ?_ ?_ ?_; exact hG5.ext (by (repeat (first | with_reducible assumption | with_reducible exact Below.refl _ _ | with_reducible refine Below.setCell ?_ (by first | omega | (simp; done) | (simp; omega)) _ | with_reducible refine Below.alloc ?_ (by first | omega | (simp; done) | (simp; omega)) _ | with_reducible refine below_drewN ?_ _ | with_reducible refine Below.drew ?_))); exact World.news_of_block (blk_gr (Blk.drew (Blk.newc (w := wq.alloc (.cells #[] 27)) (cs' := ([fSay].flatMap fsRow).toArray) (by simp) rfl)) hgr5 (by omega)); (first | omega | (simp; done) | (simp only [List.length_cons, List.length_nil, List.length_append]; omega) | (simp; omega)); (first | omega | (simp only [World.size_alloc, World.size_drew]; omega)); intro g6 cap6 w6 hG6 hgr6 hat6)
          | (refine app_stepL (by rfl) (.tmp 64) (.tmp 67) (by rfl) wq.heap.size g5 l.length cap5 fl (by rfl) ?_ HPP.out.1 [fSay] 1 rfl fSay_one wq.heap.size 1 (by rfl) ?_ (by omega) ?_ ?_ ?_; exact hG5.ext (by (repeat (first | with_reducible assumption | with_reducible exact Below.refl _ _ | with_reducible refine Below.setCell ?_ (by first | omega | (simp; done) | (simp; omega)) _ | with_reducible refine Below.alloc ?_ (by first | omega | (simp; done) | (simp; omega)) _ | with_reducible refine below_drewN ?_ _ | with_reducible refine Below.drew ?_))); exact World.news_of_block (blk_gr (Blk.drew (Blk.alloc (Blk.newc (w := wq) (cs' := ([fSay].flatMap fsRow).toArray) rfl rfl) _)) hgr5 (by omega)); (first | omega | (simp; done) | (simp only [List.length_cons, List.length_nil, List.length_append]; omega) | (simp; omega)); (first | omega | (simp only [World.size_alloc, World.size_drew]; omega)); intro g6 cap6 w6 hG6 hgr6 hat6)
          | fail)
      all_goals
        have hbx : Below wq.heap.size wq w6 := by (repeat (first | with_reducible assumption | with_reducible exact Below.refl _ _ | with_reducible refine Below.setCell ?_ (by first | omega | (simp; done) | (simp; omega)) _ | with_reducible refine Below.alloc ?_ (by first | omega | (simp; done) | (simp; omega)) _ | with_reducible refine below_drewN ?_ _ | with_reducible refine Below.drew ?_ | with_reducible refine below_app ?_ hgr5 (by intro q hq; simp [Value.ownBlock] at hq; omega) (by first | omega | (simp; done) | (simp; omega)) | with_reducible refine below_app ?_ hgr6 (by intro q hq; simp [Value.ownBlock] at hq; omega) (by first | omega | (simp; done) | (simp; omega))))
        have HZ := Lib.hid (And.intro hG6 hbx)
        clear hG6 hbx hgr5 hgr6 hat5 hat6 hG5
        go_wp2_with fail
        go_meet
        exact ⟨g6, cap6, rfl, DrS.both (HZ.out.1.less hWb) HPP.out.1 (HPP.out.2.2 _ (hB6.ext HZ.out.2)).2 rfl (one_dr (fSay_dr _ _)), HZ.out.2⟩
    case rest =>
      obtain ⟨gb, capb, rfl, hSb, hbb⟩ := hcut
      obtain ⟨wb, hwb⟩ : ∃ x, x = wc := ⟨_, rfl⟩
      subst hwb
      have hBb := hB6.ext hbb
      have IB := Lib.hid (fun (w' : World) (h : Below wb.heap.size wb w') => imProgRun_any _ _ w' (hSb.smsF h) (HEN.out.1.ext (HEN.out.2.ext (hBb.ext h))))
      have TB := Lib.hid (fun (w' : World) (h : Below wb.heap.size wb w') => imProgType_any _ _ w' (hSb.smsF h) (HEN.out.1.ext (HEN.out.2.ext (hBb.ext h))))
      rw [let_one hpo HPR.out h16 HNN.out] at IB
      have HO6 := Lib.hid (HF6.out.ext hbb).sl
      clear hSb KC
      go_wp2_with fail
      refine (IB.out _ (Below.refl _ _)).mono ?_
      rintro r w7 ⟨o7, rfl, hF7, hb7⟩
      obtain ⟨X7, x7, rfl, hxc7, hxm7⟩ := hF7.sl.val
      clear hF7
      have hB7 := hBb.ext hb7
      obtain ⟨q7, p7, y, rfl, hq7, hgy, fy⟩ := num_at (i := out.length) HO6.out (by simp)
      have ey : y = 7 := by simpa using hgy.symm
      subst ey
      have gy := fy ⟨w7, hb7⟩
      have e7 : (out ++ [(7 : Int)]).length = out.length + 1 := by simp
      rw [e7] at hxc6
      clear fy hgy HO6
      simp only [e7]
      by_cases hn : prTyp l = -1
      · rw [hn] at TP
        rw [prTyp_let2 hpo hn h16] at TA
        rw [prTyp_let1 hpo hn h16 HNN.out] at TB
        clear hn
        go_wp2_with fail
        refine (TP.out _ hB7).mono ?_
        rintro r w8 ⟨rfl, hb8⟩
        have hB8 := hB7.ext hb8
        go_wp2_with fail
        refine (TA.out _ ((hb6.ext hbb).ext (hb7.ext hb8))).mono ?_
        rintro r w9 ⟨rfl, hb9⟩
        have hB9 := hB8.ext hb9
        go_wp2_with fail
        refine (TB.out _ (hb7.ext (hb8.ext hb9))).mono ?_
        rintro r w10 ⟨rfl, hb10⟩
        go_wp2_with fail
        go_ret
        exact ⟨rfl, HW.out.ext (hB9.ext hb10)⟩
      · have hn2 : (prTyp l != -1) = true := by simpa using hn
        have hn3 : (prTyp l == -1) = false := by simpa using hn
        clear TA TB
        generalize prTyp l = n at *
        go_wp2_with fail
        refine (TP.out _ hB7).mono ?_
        rintro r w8 ⟨rfl, hb8⟩
        go_wp2_with fail
        go_ret
        exact ⟨rfl, HW.out.ext (hB7.ext hb8)⟩
end Go.Proofs.YtdobcfekjmobhaaGreatDoor
