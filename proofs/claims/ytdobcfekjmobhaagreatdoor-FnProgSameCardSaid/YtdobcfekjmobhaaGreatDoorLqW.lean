
/- The law FnProgWhen: the walk. -/
import Derived.Test.YtdobcfekjmobhaaGreatDoorLqT
import Derived.Test.YtdobcfekjmobhaaGreatDoorDwC
import Derived.Deep.CutBlock
namespace Go.Proofs.YtdobcfekjmobhaaGreatDoor
set_option maxRecDepth 100000
set_option linter.unusedSimpArgs false
set_option linter.unusedVariables false
open Go.RowKit
attribute [local go_sem] bs_toList bs_get bs_size

def fWhen (a b : Nat) : FS := ⟨3, [], [], 1, a, [], .slice none 0 0, 1, b, [], .slice none 0 0⟩
theorem fWhen_one (a b : Nat) : ∀ f ∈ [fWhen a b], ∀ u ∈ fsRow f, u.oneCell' = true := fs_one (f := fWhen a b) rfl rfl
theorem fWhen_dr (a b lo : Nat) (w : World) : DrF lo w (fWhen a b) (sWhen a b).sm := DrV.drf (DrE.of (by simp) (DrK.nil _ _)) (DrE.of (by simp) (DrK.nil _ _)) (by simp) (by simp)
theorem one_dr {lo : Nat} {w : World} {f : FS} {s : Sm} (h : DrF lo w f s) : ∀ (i : Nat) (f' : FS) (s' : Sm), [f][i]? = some f' → [s][i]? = some s' → DrF lo w f' s' := by
  intro i f' s' h1 h2
  rcases i with _ | i
  · simp at h1 h2; subst h1 h2; exact h
  · simp at h1
theorem when_zero {l : List Sm} {out : List Int} (h : progOkB l = true) (hr : prRun l = (out, true)) (hl : l.length < 16) : prRun (l ++ [(sWhen 0 1).sm]) = (out, true) := by
  rw [prRun_when h (by rw [hr]) hl (by omega) (by omega), hr, if_pos rfl, List.append_nil]
theorem when_one {l : List Sm} {out : List Int} (h : progOkB l = true) (hr : prRun l = (out, true)) (hl : l.length < 16) : prRun (l ++ [(sWhen 1 1).sm]) = (out ++ [1], true) := by
  rw [prRun_when h (by rw [hr]) hl (by omega) (by omega), hr, if_neg (by omega)]
  rfl
set_option maxHeartbeats 4000000 in
theorem lawPWhen (W : World) (v : Value) (cl : List Int) (hv : CodeV W v cl) (hE : Env W) : Calls Tryz.prog 6 #[v] W fun e w' => e = .returned (.bool true) ∧ Below W.heap.size W w' := by
  have DR := Lib.hid (drawRun_any v cl W hv)
  obtain ⟨A, c, rfl, hc, hm⟩ := hv.1.val
  clear hv
  obtain ⟨b1, hb1⟩ : ∃ b, decide ((1048576 : Int) < ((cl.length : Nat) : Int)) = b := ⟨_, rfl⟩
  cases b1
  rotate_left
  · go_enter Tryz.func6, Tryz.ntmps6
    go_wp2_with fail
    go_ret
    exact ⟨rfl, Below.refl _ _⟩
  go_enter Tryz.func6, Tryz.ntmps6
  go_wp2_with fail
  refine DR.out.mono ?_
  rintro r w1 ⟨u, l, rfl, hS, hN, hl, hbw⟩
  have IR := Lib.hid (fun (w' : World) (h : Below w1.heap.size w1 w') => imProgRun_any l u w' (hS.smsF h) (hE.ext (hbw.ext h)))
  have SR := Lib.hid (fun (w' : World) (h : Below w1.heap.size w1 w') => spProgRun_any l u w' (hS.smsF h))
  have HW := Lib.hid hbw
  have hB1 := Below.refl w1.heap.size w1
  have HEN := Lib.hid (And.intro hE hbw)
  have FOK := Lib.hid (show (prRun l).2 = true → progOkB l = true from fun h => by
    cases hp : progOkB l with
    | true => rfl
    | false => rw [prRun_bad hp] at h; cases h)
  have HSS := Lib.hid hS
  obtain ⟨A1, c1, rfl, hc1, hm1⟩ := hS.val
  obtain ⟨pr, hpr⟩ : ∃ x, prRun l = x := ⟨_, rfl⟩
  rw [hpr] at IR SR FOK
  obtain ⟨out, ok⟩ := pr
  have HPR := Lib.hid hpr
  clear hS hN hbw hE DR hb1 hpr
  cases ok
  · clear HSS
    go_wp2_with fail
    refine (IR.out _ hB1).mono ?_
    rintro r w2 ⟨o2, rfl, hF2, hb2⟩
    have hB2 := hB1.ext hb2
    have HF2 := Lib.hid hF2
    obtain ⟨X2, x2, rfl, hxc2, hxm2⟩ := hF2.sl.val
    clear hF2
    go_wp2_with fail
    refine (SR.out _ hB2).mono ?_
    rintro r w3 ⟨o3, rfl, hF3, hb3⟩
    have hB3 := hB2.ext hb3
    have HF3 := Lib.hid hF3
    obtain ⟨X3, x3, rfl, hxc3, hxm3⟩ := hF3.sl.val
    clear hF3
    go_wp2_with fail
    go_ret
    exact ⟨rfl, HW.out.ext hB3⟩
  have hpo := FOK.out rfl
  clear FOK
  by_cases h16 : l.length < 16
  rotate_left
  · have hd : decide ((16 : Int) ≤ ((l.length : Nat) : Int)) = true := by rw [decide_eq_true_eq]; omega
    have hd2 : 16 ≤ l.length := by omega
    clear HSS
    go_wp2_with fail
    refine (IR.out _ hB1).mono ?_
    rintro r w2 ⟨o2, rfl, hF2, hb2⟩
    have hB2 := hB1.ext hb2
    have HF2 := Lib.hid hF2
    obtain ⟨X2, x2, rfl, hxc2, hxm2⟩ := hF2.sl.val
    clear hF2
    go_wp2_with fail
    refine (SR.out _ hB2).mono ?_
    rintro r w3 ⟨o3, rfl, hF3, hb3⟩
    have hB3 := hB2.ext hb3
    have HF3 := Lib.hid hF3
    obtain ⟨X3, x3, rfl, hxc3, hxm3⟩ := hF3.sl.val
    clear hF3
    go_wp2_with fail
    go_ret
    exact ⟨rfl, HW.out.ext hB3⟩
  have hd : decide ((16 : Int) ≤ ((l.length : Nat) : Int)) = false := by rw [decide_eq_false_iff_not]; omega
  have hd2 : ¬ (16 ≤ l.length) := by omega
  have hl1 : 0 < l.length := (progOkB_iff.1 hpo).2.1
  obtain ⟨gp, cp, fl, hup, _, _, hgp, hfl, hone, HP⟩ := HSS.out.at hl1
  obtain ⟨rfl, rfl⟩ : A1 = some ⟨gp, 0, none⟩ ∧ c1 = cp := by injection hup; exact ⟨‹_›, ‹_›⟩
  have HPP := Lib.hid (And.intro hfl (And.intro hone HP))
  clear hup hfl hone HP HSS
  go_wp2_with fail
  refine (IR.out _ hB1).mono ?_
  rintro r w2 ⟨o2, rfl, hF2, hb2⟩
  have hB2 := hB1.ext hb2
  have HF2 := Lib.hid hF2
  obtain ⟨X2, x2, rfl, hxc2, hxm2⟩ := hF2.sl.val
  clear hF2
  go_wp2_with fail
  refine (SR.out _ hB2).mono ?_
  rintro r w3 ⟨o3, rfl, hF3, hb3⟩
  have hB3 := hB2.ext hb3
  obtain ⟨X3, x3, rfl, hxc3, hxm3⟩ := hF3.sl.val
  clear hF3
  go_upto_region 10 with fail
  generalize hWB : World.alloc (World.alloc w3 _) _ = wB
  have HB8 : Blk wB w3.heap.size 25 #[.int .i64 1, .int .i64 1, .string ⟨#[]⟩, .slice none 0 0] := by rw [← hWB]; exact (Blk.new _ _ _).alloc _
  have HB9 : Blk wB (w3.heap.size + 1) 25 #[.int .i64 1, .int .i64 0, .string ⟨#[]⟩, .slice none 0 0] := by rw [← hWB]; exact Blk.new' (by simp)
  have hbB : Below w3.heap.size w3 wB := by rw [← hWB]; (repeat (first | with_reducible assumption | with_reducible exact Below.refl _ _ | with_reducible refine Below.setCell ?_ (by first | omega | (simp; done) | (simp; omega)) _ | with_reducible refine Below.alloc ?_ (by first | omega | (simp; done) | (simp; omega)) _ | with_reducible refine below_drewN ?_ _ | with_reducible refine Below.drew ?_))
  have hBB := hB3.ext hbB
  have hzB : w3.heap.size + 1 < wB.heap.size := HB9.lt
  clear hWB
  have KB : Hid (∀ w', Below wB.heap.size wB w' → (w'.cell? ⟨w3.heap.size, 0, none⟩ = some (.int .i64 1) ∧ w'.cell? ⟨w3.heap.size, 1, none⟩ = some (.int .i64 1) ∧ w'.cell? ⟨w3.heap.size, 2, none⟩ = some (.string ⟨#[]⟩) ∧ w'.cell? ⟨w3.heap.size, 3, none⟩ = some (.slice none 0 0) ∧ w'.cell? ⟨w3.heap.size + 1, 0, none⟩ = some (.int .i64 1) ∧ w'.cell? ⟨w3.heap.size + 1, 1, none⟩ = some (.int .i64 0) ∧ w'.cell? ⟨w3.heap.size + 1, 2, none⟩ = some (.string ⟨#[]⟩) ∧ w'.cell? ⟨w3.heap.size + 1, 3, none⟩ = some (.slice none 0 0))) := Lib.hid (fun w' h => by
    have h8 := HB8.below h HB8.lt
    have h9 := HB9.below h HB9.lt
    exact ⟨h8.cell 0, h8.cell 1, h8.cell 2, h8.cell 3, h9.cell 0, h9.cell 1, h9.cell 2, h9.cell 3⟩)
  clear HB8 HB9
  go_cut [10] (fun s wx => ∃ g cap, s = .slice (some ⟨g, 0, none⟩) (l.length + 1) cap ∧ DrS W.heap.size wx s (l ++ [(sWhen 0 1).sm]) ∧ Below wB.heap.size wB wx)
  case first =>
    have hWb : W.heap.size ≤ wB.heap.size := Nat.le_trans HW.out.size hBB.size
    go_region_held3 (fun w' => w'.cell? ⟨w3.heap.size, 0, none⟩ = some (.int .i64 1) ∧ w'.cell? ⟨w3.heap.size, 1, none⟩ = some (.int .i64 1) ∧ w'.cell? ⟨w3.heap.size, 2, none⟩ = some (.string ⟨#[]⟩) ∧ w'.cell? ⟨w3.heap.size, 3, none⟩ = some (.slice none 0 0) ∧ w'.cell? ⟨w3.heap.size + 1, 0, none⟩ = some (.int .i64 1) ∧ w'.cell? ⟨w3.heap.size + 1, 1, none⟩ = some (.int .i64 0) ∧ w'.cell? ⟨w3.heap.size + 1, 2, none⟩ = some (.string ⟨#[]⟩) ∧ w'.cell? ⟨w3.heap.size + 1, 3, none⟩ = some (.slice none 0 0))
      (first | exact KB.out _ (by (repeat (first | with_reducible assumption | with_reducible exact Below.refl _ _ | with_reducible refine Below.setCell ?_ (by first | omega | (simp; done) | (simp; omega)) _ | with_reducible refine Below.alloc ?_ (by first | omega | (simp; done) | (simp; omega)) _ | with_reducible refine below_drewN ?_ _ | with_reducible refine Below.drew ?_ | with_reducible refine below_app ?_ hgr5 (by intro q hq; simp [Value.ownBlock] at hq; omega) (by first | omega | (simp; done) | (simp; omega)) | with_reducible refine below_app ?_ hgr6 (by intro q hq; simp [Value.ownBlock] at hq; omega) (by first | omega | (simp; done) | (simp; omega))))) | exact KB.out _ (by (repeat (first | with_reducible assumption | with_reducible exact Below.refl _ _ | with_reducible refine Below.setCell ?_ (by first | omega | (simp; done) | (simp; omega)) _ | with_reducible refine Below.alloc ?_ (by first | omega | (simp; done) | (simp; omega)) _ | with_reducible refine below_drewN ?_ _ | with_reducible refine Below.drew ?_ | with_reducible refine below_app ?_ hgr5 (by intro q hq; simp [Value.ownBlock] at hq; omega) (by first | omega | (simp; done) | (simp; omega))))) | exact KB.out _ (by (repeat (first | with_reducible assumption | with_reducible exact Below.refl _ _ | with_reducible refine Below.setCell ?_ (by first | omega | (simp; done) | (simp; omega)) _ | with_reducible refine Below.alloc ?_ (by first | omega | (simp; done) | (simp; omega)) _ | with_reducible refine below_drewN ?_ _ | with_reducible refine Below.drew ?_))) | go_keep)
      (first
        | (refine app_copyF (by rfl) (.tmp 48) (.tmp 49) (by rfl) wB.heap.size wB.heap.size (by rfl) ?_ fl l.length HPP.out.1 HPP.out.2.1 gp c1 (by rfl) ?_ hl1 ?_ ?_ ?_; exact gt_empty' wB _ rfl (Nat.le_refl _) (by (repeat (first | with_reducible assumption | with_reducible exact Below.refl _ _ | with_reducible refine Below.setCell ?_ (by first | omega | (simp; done) | (simp; omega)) _ | with_reducible refine Below.alloc ?_ (by first | omega | (simp; done) | (simp; omega)) _ | with_reducible refine below_drewN ?_ _ | with_reducible refine Below.drew ?_))); exact (HPP.out.2.2 _ (hBB.ext (by (repeat (first | with_reducible assumption | with_reducible exact Below.refl _ _ | with_reducible refine Below.setCell ?_ (by first | omega | (simp; done) | (simp; omega)) _ | with_reducible refine Below.alloc ?_ (by first | omega | (simp; done) | (simp; omega)) _ | with_reducible refine below_drewN ?_ _ | with_reducible refine Below.drew ?_))))).1; (first | omega | (simp; done) | (simp only [List.length_cons, List.length_nil, List.length_append]; omega) | (simp; omega)); (simp only [World.size_alloc, World.size_drew]; omega); intro g5 cap5 w5 hG5 hgr5 hat5; have hg5 := hG5.lt (b := g5) rfl; have hz5 := hgr5.size; (try simp at hz5))
        | (refine app_copyF (by rfl) (.tmp 48) (.tmp 49) (by rfl) wB.heap.size (wB.heap.size + 1) (by rfl) ?_ fl l.length HPP.out.1 HPP.out.2.1 gp c1 (by rfl) ?_ hl1 ?_ ?_ ?_; exact gt_empty' (wB.alloc (.cells ([fWhen 0 1].flatMap fsRow).toArray 27)) _ (by simp) (by omega) (Below.drew (Below.refl _ _)); exact (HPP.out.2.2 _ (hBB.ext (by (repeat (first | with_reducible assumption | with_reducible exact Below.refl _ _ | with_reducible refine Below.setCell ?_ (by first | omega | (simp; done) | (simp; omega)) _ | with_reducible refine Below.alloc ?_ (by first | omega | (simp; done) | (simp; omega)) _ | with_reducible refine below_drewN ?_ _ | with_reducible refine Below.drew ?_))))).1; (first | omega | (simp; done) | (simp only [List.length_cons, List.length_nil, List.length_append]; omega) | (simp; omega)); (simp only [World.size_alloc, World.size_drew]; omega); intro g5 cap5 w5 hG5 hgr5 hat5; have hg5 := hG5.lt (b := g5) rfl; have hz5 := hgr5.size; (try simp at hz5))
        | (refine app_stepL (by rfl) (.tmp 50) (.tmp 54) (by rfl) wB.heap.size g5 l.length cap5 fl (by rfl) ?_ HPP.out.1 [fWhen 0 1] 1 rfl (fWhen_one 0 1) w5.heap.size 1 (by rfl) ?_ (by omega) ?_ ?_ ?_; exact hG5.ext (by (repeat (first | with_reducible assumption | with_reducible exact Below.refl _ _ | with_reducible refine Below.setCell ?_ (by first | omega | (simp; done) | (simp; omega)) _ | with_reducible refine Below.alloc ?_ (by first | omega | (simp; done) | (simp; omega)) _ | with_reducible refine below_drewN ?_ _ | with_reducible refine Below.drew ?_))); exact news_at rfl; (first | omega | (simp; done) | (simp only [List.length_cons, List.length_nil, List.length_append]; omega) | (simp; omega)); (first | omega | (simp only [World.size_alloc, World.size_drew]; omega)); intro g6 cap6 w6 hG6 hgr6 hat6)
        | (refine app_stepL (by rfl) (.tmp 50) (.tmp 54) (by rfl) wB.heap.size g5 l.length cap5 fl (by rfl) ?_ HPP.out.1 [fWhen 0 1] 1 rfl (fWhen_one 0 1) (wB.heap.size + 1) 1 (by rfl) ?_ (by omega) ?_ ?_ ?_; exact hG5.ext (by (repeat (first | with_reducible assumption | with_reducible exact Below.refl _ _ | with_reducible refine Below.setCell ?_ (by first | omega | (simp; done) | (simp; omega)) _ | with_reducible refine Below.alloc ?_ (by first | omega | (simp; done) | (simp; omega)) _ | with_reducible refine below_drewN ?_ _ | with_reducible refine Below.drew ?_))); exact World.news_of_block (blk_gr (Blk.drew (Blk.newc (w := wB.alloc (.cells #[] 27)) (cs' := ([fWhen 0 1].flatMap fsRow).toArray) (by simp) rfl)) hgr5 (by omega)); (first | omega | (simp; done) | (simp only [List.length_cons, List.length_nil, List.length_append]; omega) | (simp; omega)); (first | omega | (simp only [World.size_alloc, World.size_drew]; omega)); intro g6 cap6 w6 hG6 hgr6 hat6)
        | (refine app_stepL (by rfl) (.tmp 50) (.tmp 54) (by rfl) wB.heap.size g5 l.length cap5 fl (by rfl) ?_ HPP.out.1 [fWhen 0 1] 1 rfl (fWhen_one 0 1) wB.heap.size 1 (by rfl) ?_ (by omega) ?_ ?_ ?_; exact hG5.ext (by (repeat (first | with_reducible assumption | with_reducible exact Below.refl _ _ | with_reducible refine Below.setCell ?_ (by first | omega | (simp; done) | (simp; omega)) _ | with_reducible refine Below.alloc ?_ (by first | omega | (simp; done) | (simp; omega)) _ | with_reducible refine below_drewN ?_ _ | with_reducible refine Below.drew ?_))); exact World.news_of_block (blk_gr (Blk.drew (Blk.alloc (Blk.newc (w := wB) (cs' := ([fWhen 0 1].flatMap fsRow).toArray) rfl rfl) _)) hgr5 (by omega)); (first | omega | (simp; done) | (simp only [List.length_cons, List.length_nil, List.length_append]; omega) | (simp; omega)); (first | omega | (simp only [World.size_alloc, World.size_drew]; omega)); intro g6 cap6 w6 hG6 hgr6 hat6)
        | fail)
    all_goals
      have hbx : Below wB.heap.size wB w6 := by (repeat (first | with_reducible assumption | with_reducible exact Below.refl _ _ | with_reducible refine Below.setCell ?_ (by first | omega | (simp; done) | (simp; omega)) _ | with_reducible refine Below.alloc ?_ (by first | omega | (simp; done) | (simp; omega)) _ | with_reducible refine below_drewN ?_ _ | with_reducible refine Below.drew ?_ | with_reducible refine below_app ?_ hgr5 (by intro q hq; simp [Value.ownBlock] at hq; omega) (by first | omega | (simp; done) | (simp; omega)) | with_reducible refine below_app ?_ hgr6 (by intro q hq; simp [Value.ownBlock] at hq; omega) (by first | omega | (simp; done) | (simp; omega))))
      have HZ := Lib.hid (And.intro hG6 hbx)
      clear hG6 hbx hgr5 hgr6 hat5 hat6 hG5
      go_wp2_with fail
      go_meet
      exact ⟨g6, cap6, rfl, DrS.both (HZ.out.1.less hWb) HPP.out.1 (HPP.out.2.2 _ (hBB.ext HZ.out.2)).2 rfl (one_dr (fWhen_dr 0 1 _ _)), HZ.out.2⟩
  case rest =>
    obtain ⟨ga, capa, rfl, hSa, hba⟩ := hcut
    obtain ⟨wa, hwa⟩ : ∃ x, x = wc := ⟨_, rfl⟩
    subst hwa
    have hBa := hBB.ext hba
    have KA := Lib.hid (fun (w' : World) (h : Below wa.heap.size wa w') => KB.out w' (hba.ext h))
    have IA := Lib.hid (fun (w' : World) (h : Below wa.heap.size wa w') => imProgRun_any _ _ w' (hSa.smsF h) (HEN.out.1.ext (HEN.out.2.ext (hBa.ext h))))
    rw [when_zero hpo HPR.out h16] at IA
    clear hSa KB
    go_upto_region 11 with fail
    go_cut [11] (fun s wx => ∃ g cap, s = .slice (some ⟨g, 0, none⟩) (l.length + 1) cap ∧ DrS W.heap.size wx s (l ++ [(sWhen 1 1).sm]) ∧ Below wa.heap.size wa wx)
    case first =>
      have hWb : W.heap.size ≤ wa.heap.size := Nat.le_trans HW.out.size hBa.size
      go_region_held3 (fun w' => w'.cell? ⟨w3.heap.size, 0, none⟩ = some (.int .i64 1) ∧ w'.cell? ⟨w3.heap.size, 1, none⟩ = some (.int .i64 1) ∧ w'.cell? ⟨w3.heap.size, 2, none⟩ = some (.string ⟨#[]⟩) ∧ w'.cell? ⟨w3.heap.size, 3, none⟩ = some (.slice none 0 0) ∧ w'.cell? ⟨w3.heap.size + 1, 0, none⟩ = some (.int .i64 1) ∧ w'.cell? ⟨w3.heap.size + 1, 1, none⟩ = some (.int .i64 0) ∧ w'.cell? ⟨w3.heap.size + 1, 2, none⟩ = some (.string ⟨#[]⟩) ∧ w'.cell? ⟨w3.heap.size + 1, 3, none⟩ = some (.slice none 0 0))
        (first | exact KA.out _ (by (repeat (first | with_reducible assumption | with_reducible exact Below.refl _ _ | with_reducible refine Below.setCell ?_ (by first | omega | (simp; done) | (simp; omega)) _ | with_reducible refine Below.alloc ?_ (by first | omega | (simp; done) | (simp; omega)) _ | with_reducible refine below_drewN ?_ _ | with_reducible refine Below.drew ?_ | with_reducible refine below_app ?_ hgr5 (by intro q hq; simp [Value.ownBlock] at hq; omega) (by first | omega | (simp; done) | (simp; omega)) | with_reducible refine below_app ?_ hgr6 (by intro q hq; simp [Value.ownBlock] at hq; omega) (by first | omega | (simp; done) | (simp; omega))))) | exact KA.out _ (by (repeat (first | with_reducible assumption | with_reducible exact Below.refl _ _ | with_reducible refine Below.setCell ?_ (by first | omega | (simp; done) | (simp; omega)) _ | with_reducible refine Below.alloc ?_ (by first | omega | (simp; done) | (simp; omega)) _ | with_reducible refine below_drewN ?_ _ | with_reducible refine Below.drew ?_ | with_reducible refine below_app ?_ hgr5 (by intro q hq; simp [Value.ownBlock] at hq; omega) (by first | omega | (simp; done) | (simp; omega))))) | exact KA.out _ (by (repeat (first | with_reducible assumption | with_reducible exact Below.refl _ _ | with_reducible refine Below.setCell ?_ (by first | omega | (simp; done) | (simp; omega)) _ | with_reducible refine Below.alloc ?_ (by first | omega | (simp; done) | (simp; omega)) _ | with_reducible refine below_drewN ?_ _ | with_reducible refine Below.drew ?_))) | go_keep)
        (first
          | (refine app_copyF (by rfl) (.tmp 56) (.tmp 57) (by rfl) wa.heap.size wa.heap.size (by rfl) ?_ fl l.length HPP.out.1 HPP.out.2.1 gp c1 (by rfl) ?_ hl1 ?_ ?_ ?_; exact gt_empty' wa _ rfl (Nat.le_refl _) (by (repeat (first | with_reducible assumption | with_reducible exact Below.refl _ _ | with_reducible refine Below.setCell ?_ (by first | omega | (simp; done) | (simp; omega)) _ | with_reducible refine Below.alloc ?_ (by first | omega | (simp; done) | (simp; omega)) _ | with_reducible refine below_drewN ?_ _ | with_reducible refine Below.drew ?_))); exact (HPP.out.2.2 _ (hBa.ext (by (repeat (first | with_reducible assumption | with_reducible exact Below.refl _ _ | with_reducible refine Below.setCell ?_ (by first | omega | (simp; done) | (simp; omega)) _ | with_reducible refine Below.alloc ?_ (by first | omega | (simp; done) | (simp; omega)) _ | with_reducible refine below_drewN ?_ _ | with_reducible refine Below.drew ?_))))).1; (first | omega | (simp; done) | (simp only [List.length_cons, List.length_nil, List.length_append]; omega) | (simp; omega)); (simp only [World.size_alloc, World.size_drew]; omega); intro g5 cap5 w5 hG5 hgr5 hat5; have hg5 := hG5.lt (b := g5) rfl; have hz5 := hgr5.size; (try simp at hz5))
          | (refine app_copyF (by rfl) (.tmp 56) (.tmp 57) (by rfl) wa.heap.size (wa.heap.size + 1) (by rfl) ?_ fl l.length HPP.out.1 HPP.out.2.1 gp c1 (by rfl) ?_ hl1 ?_ ?_ ?_; exact gt_empty' (wa.alloc (.cells ([fWhen 1 1].flatMap fsRow).toArray 27)) _ (by simp) (by omega) (Below.drew (Below.refl _ _)); exact (HPP.out.2.2 _ (hBa.ext (by (repeat (first | with_reducible assumption | with_reducible exact Below.refl _ _ | with_reducible refine Below.setCell ?_ (by first | omega | (simp; done) | (simp; omega)) _ | with_reducible refine Below.alloc ?_ (by first | omega | (simp; done) | (simp; omega)) _ | with_reducible refine below_drewN ?_ _ | with_reducible refine Below.drew ?_))))).1; (first | omega | (simp; done) | (simp only [List.length_cons, List.length_nil, List.length_append]; omega) | (simp; omega)); (simp only [World.size_alloc, World.size_drew]; omega); intro g5 cap5 w5 hG5 hgr5 hat5; have hg5 := hG5.lt (b := g5) rfl; have hz5 := hgr5.size; (try simp at hz5))
          | (refine app_stepL (by rfl) (.tmp 58) (.tmp 62) (by rfl) wa.heap.size g5 l.length cap5 fl (by rfl) ?_ HPP.out.1 [fWhen 1 1] 1 rfl (fWhen_one 1 1) w5.heap.size 1 (by rfl) ?_ (by omega) ?_ ?_ ?_; exact hG5.ext (by (repeat (first | with_reducible assumption | with_reducible exact Below.refl _ _ | with_reducible refine Below.setCell ?_ (by first | omega | (simp; done) | (simp; omega)) _ | with_reducible refine Below.alloc ?_ (by first | omega | (simp; done) | (simp; omega)) _ | with_reducible refine below_drewN ?_ _ | with_reducible refine Below.drew ?_))); exact news_at rfl; (first | omega | (simp; done) | (simp only [List.length_cons, List.length_nil, List.length_append]; omega) | (simp; omega)); (first | omega | (simp only [World.size_alloc, World.size_drew]; omega)); intro g6 cap6 w6 hG6 hgr6 hat6)
          | (refine app_stepL (by rfl) (.tmp 58) (.tmp 62) (by rfl) wa.heap.size g5 l.length cap5 fl (by rfl) ?_ HPP.out.1 [fWhen 1 1] 1 rfl (fWhen_one 1 1) (wa.heap.size + 1) 1 (by rfl) ?_ (by omega) ?_ ?_ ?_; exact hG5.ext (by (repeat (first | with_reducible assumption | with_reducible exact Below.refl _ _ | with_reducible refine Below.setCell ?_ (by first | omega | (simp; done) | (simp; omega)) _ | with_reducible refine Below.alloc ?_ (by first | omega | (simp; done) | (simp; omega)) _ | with_reducible refine below_drewN ?_ _ | with_reducible refine Below.drew ?_))); exact World.news_of_block (blk_gr (Blk.drew (Blk.newc (w := wa.alloc (.cells #[] 27)) (cs' := ([fWhen 1 1].flatMap fsRow).toArray) (by simp) rfl)) hgr5 (by omega)); (first | omega | (simp; done) | (simp only [List.length_cons, List.length_nil, List.length_append]; omega) | (simp; omega)); (first | omega | (simp only [World.size_alloc, World.size_drew]; omega)); intro g6 cap6 w6 hG6 hgr6 hat6)
          | (refine app_stepL (by rfl) (.tmp 58) (.tmp 62) (by rfl) wa.heap.size g5 l.length cap5 fl (by rfl) ?_ HPP.out.1 [fWhen 1 1] 1 rfl (fWhen_one 1 1) wa.heap.size 1 (by rfl) ?_ (by omega) ?_ ?_ ?_; exact hG5.ext (by (repeat (first | with_reducible assumption | with_reducible exact Below.refl _ _ | with_reducible refine Below.setCell ?_ (by first | omega | (simp; done) | (simp; omega)) _ | with_reducible refine Below.alloc ?_ (by first | omega | (simp; done) | (simp; omega)) _ | with_reducible refine below_drewN ?_ _ | with_reducible refine Below.drew ?_))); exact World.news_of_block (blk_gr (Blk.drew (Blk.alloc (Blk.newc (w := wa) (cs' := ([fWhen 1 1].flatMap fsRow).toArray) rfl rfl) _)) hgr5 (by omega)); (first | omega | (simp; done) | (simp only [List.length_cons, List.length_nil, List.length_append]; omega) | (simp; omega)); (first | omega | (simp only [World.size_alloc, World.size_drew]; omega)); intro g6 cap6 w6 hG6 hgr6 hat6)
          | fail)
      all_goals
        have hbx : Below wa.heap.size wa w6 := by (repeat (first | with_reducible assumption | with_reducible exact Below.refl _ _ | with_reducible refine Below.setCell ?_ (by first | omega | (simp; done) | (simp; omega)) _ | with_reducible refine Below.alloc ?_ (by first | omega | (simp; done) | (simp; omega)) _ | with_reducible refine below_drewN ?_ _ | with_reducible refine Below.drew ?_ | with_reducible refine below_app ?_ hgr5 (by intro q hq; simp [Value.ownBlock] at hq; omega) (by first | omega | (simp; done) | (simp; omega)) | with_reducible refine below_app ?_ hgr6 (by intro q hq; simp [Value.ownBlock] at hq; omega) (by first | omega | (simp; done) | (simp; omega))))
        have HZ := Lib.hid (And.intro hG6 hbx)
        clear hG6 hbx hgr5 hgr6 hat5 hat6 hG5
        go_wp2_with fail
        go_meet
        exact ⟨g6, cap6, rfl, DrS.both (HZ.out.1.less hWb) HPP.out.1 (HPP.out.2.2 _ (hBa.ext HZ.out.2)).2 rfl (one_dr (fWhen_dr 1 1 _ _)), HZ.out.2⟩
    case rest =>
      obtain ⟨gb, capb, rfl, hSb, hbb⟩ := hcut
      obtain ⟨wb, hwb⟩ : ∃ x, x = wc := ⟨_, rfl⟩
      subst hwb
      have hBb := hBa.ext hbb
      have IB := Lib.hid (fun (w' : World) (h : Below wb.heap.size wb w') => imProgRun_any _ _ w' (hSb.smsF h) (HEN.out.1.ext (HEN.out.2.ext (hBb.ext h))))
      rw [when_one hpo HPR.out h16] at IB
      clear hSb KA
      go_wp2_with fail
      refine (IA.out _ hbb).mono ?_
      rintro r w6 ⟨o6, rfl, hF6, hb6⟩
      obtain ⟨X6, x6, rfl, hxc6, hxm6⟩ := hF6.sl.val
      clear hF6
      go_wp2_with fail
      refine (IB.out _ hb6).mono ?_
      rintro r w7 ⟨o7, rfl, hF7, hb7⟩
      have hO7 := hF7.sl
      obtain ⟨X7, x7, rfl, hxc7, hxm7⟩ := hO7.val
      obtain ⟨q7, p7, y, rfl, hq7, hgy, fy⟩ := num_at (i := out.length) hO7 (by simp)
      have ey : y = 1 := by simpa using hgy.symm
      subst ey
      have gy := fy ⟨w7, Below.refl _ _⟩
      have e7 : (out ++ [(1 : Int)]).length = out.length + 1 := by simp
      rw [e7] at hxc7
      clear hF7 hO7 fy hgy
      simp only [e7]
      go_wp2_with fail
      go_ret
      exact ⟨rfl, HW.out.ext ((hBb.ext hb6).ext hb7)⟩
end Go.Proofs.YtdobcfekjmobhaaGreatDoor
