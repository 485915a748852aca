
/- The law FnProgSame: the walk. -/
import Derived.Test.YtdobcfekjmobhaaGreatDoorLqC
import Derived.Test.YtdobcfekjmobhaaGreatDoorLqW
import Derived.Deep.Upon
namespace Go.Proofs.YtdobcfekjmobhaaGreatDoor
set_option maxRecDepth 100000
set_option linter.unusedSimpArgs false
set_option linter.unusedVariables false
open Go.RowKit
attribute [local go_sem] bs_toList bs_get bs_size

/-- nothing is appended -/
theorem app_step0 {ops : Array Oper} {o : Oper} {a : Act} {Q : Exit → Act → World → Prop} {w : World} {K : Act → World → Prop} {E : Prop} (hgd : o.guard = none) (s x : Operand) (ho : o.op = .call { callee := .builtin .append, args := #[s, x], argTypes := #[32, 32] })
    (b : Option Addr) (n c : Nat) (hs : a.eval s = .slice b n c) (hnc : n ≤ c) (ad : Addr) (n2 c0 : Nat) (hx : a.eval x = .slice (some ad) n2 c0) (hn2 : n2 = 0) (h : K (a.put o.dst (.slice b n c)) w) :
    if Region.wanted o (yielded ops a.tmps) = true then Oper.wp Tryz.prog o a w K Q else E := by
  subst hn2
  have hw : Region.wanted o (yielded ops a.tmps) = true := by simp [Region.wanted, hgd]
  rw [if_pos hw]
  obtain ⟨i0, hi, hz0, hz1, hz2⟩ := info_parts infoSt
  have hrun := run_append_nothing (P := Tryz.prog) w 32 32 o.type 27 i0 Tryz.underlying32 hi b n c hnc (.slice (some ad) 0 c0) (Src.ofSlice w Tryz.underlying32 ad 0 c0 [] (by simp) (fun j u h => by simp at h) (fun u h => by cases h))
  unfold Oper.wp
  simp [execOp, ho, resolve, invoke, builtin, hs, hx, hrun, Result.andThen]
  exact h
theorem app_stepA {ops : Array Oper} {o : Oper} {a : Act} {Q : Exit → Act → World → Prop} {w : World} {K : Act → World → Prop} {E : Prop} (hgd : o.guard = none) (s x : Operand) (ho : o.op = .call { callee := .builtin .append, args := #[s, x], argTypes := #[32, 32] })
    (B : Nat) (g5 n cap5 : Nat) (l : List FS) (hs : a.eval s = .slice (some ⟨g5, 0, none⟩) n cap5) (hv : GtF B w (.slice (some ⟨g5, 0, none⟩) n cap5) l) (hn : l.length = n) (l2 : List FS) (n2 : Nat) (hn2 : l2.length = n2) (hone : ∀ f ∈ l2, ∀ u ∈ fsRow f, u.oneCell' = true) (ad : Addr) (c0 : Nat) (hx : a.eval x = .slice (some ad) n2 c0)
    (hc : ∀ (j : Nat) (u : Value), (l2.flatMap fsRow)[j]? = some u → w.cell? (ad.add j) = some u) (hm : 0 < n2) (hl : n + n2 ≤ 1000000) (hB : B ≤ w.heap.size)
    (h : ∀ g cap w', GtF B w' (.slice (some ⟨g, 0, none⟩) (n + n2) cap) (l ++ l2) → w.grownBy w' (some g5) → (some g5 = some g ∨ g = w.heap.size) → K (a.put o.dst (.slice (some ⟨g, 0, none⟩) (n + n2) cap)) w') :
    if Region.wanted o (yielded ops a.tmps) = true then Oper.wp Tryz.prog o a w K Q else E := by
  subst hn hn2
  exact app_step1 (row := fsRow) (k := 11) (t := 27) (tS := 32) (l2 := l2) (fun _ => rfl) (by decide) Tryz.underlying32 infoSt (by decide) rfl hgd s x ho B _ l hs hv ad c0 hone hx hc hm hl hB h
/-- a list of cells and what it holds -/
def ElF (lo : Nat) (w : World) (fl : List FS) (l : List Sm) : Prop := fl.length = l.length ∧ ∀ (i : Nat) (f : FS) (s : Sm), fl[i]? = some f → l[i]? = some s → DrF lo w f s
theorem ElF.app {lo : Nat} {w : World} {a b : List FS} {c d : List Sm} (h : ElF lo w a c) (h' : ElF lo w b d) : ElF lo w (a ++ b) (c ++ d) := by
  refine ⟨by rw [List.length_append, List.length_append, h.1, h'.1], fun i f s hf hs => ?_⟩
  by_cases hi : i < a.length
  · rw [List.getElem?_append_left hi] at hf
    rw [List.getElem?_append_left (by have := h.1; omega)] at hs
    exact h.2 i f s hf hs
  · rw [List.getElem?_append_right (by omega)] at hf
    rw [List.getElem?_append_right (by have := h.1; omega)] at hs
    exact h'.2 _ f s hf (by rw [h.1]; exact hs)
theorem ElF.take {lo : Nat} {w : World} {a : List FS} {c : List Sm} (h : ElF lo w a c) (m : Nat) : ElF lo w (a.take m) (c.take m) := by
  refine ⟨by simp [h.1], fun i f s hf hs => ?_⟩
  rw [List.getElem?_take] at hf hs
  split at hf
  · rw [if_pos ‹_›] at hs; exact h.2 i f s hf hs
  · cases hf
theorem ElF.drop {lo : Nat} {w : World} {a : List FS} {c : List Sm} (h : ElF lo w a c) (m : Nat) : ElF lo w (a.drop m) (c.drop m) := by
  refine ⟨by simp [h.1], fun i f s hf hs => ?_⟩
  rw [List.getElem?_drop] at hf hs
  exact h.2 _ f s hf hs
theorem ElF.one {lo : Nat} {w : World} {f : FS} {s : Sm} (h : DrF lo w f s) : ElF lo w [f] [s] := ⟨rfl, one_dr h⟩
theorem ElF.drs {lo : Nat} {w : World} {u : Value} {fl : List FS} {l : List Sm} (hG : GtF lo w u fl) (h : ElF lo w fl l) : DrS lo w u l := ⟨fl, hG, h.1, h.2⟩
theorem flat_take {fl : List FS} {m j : Nat} {x : Value} (h : ((fl.take m).flatMap fsRow)[j]? = some x) : (fl.flatMap fsRow)[j]? = some x := by
  have hl := (List.getElem?_eq_some_iff.1 h).1
  have e : fl.flatMap fsRow = (fl.take m).flatMap fsRow ++ (fl.drop m).flatMap fsRow := by rw [← List.flatMap_append, List.take_append_drop]
  rw [e, List.getElem?_append_left hl]
  exact h
theorem flat_drop {fl : List FS} {m j : Nat} {x : Value} (hm : m ≤ fl.length) (h : ((fl.drop m).flatMap fsRow)[j]? = some x) : (fl.flatMap fsRow)[m * 11 + j]? = some x := by
  have e : fl.flatMap fsRow = (fl.take m).flatMap fsRow ++ (fl.drop m).flatMap fsRow := by rw [← List.flatMap_append, List.take_append_drop]
  have hl : ((fl.take m).flatMap fsRow).length = m * 11 := by rw [flat_len (row := fsRow) (k := 11) (fun _ => rfl), List.length_take, Nat.min_eq_left hm]
  rw [e, List.getElem?_append_right (by omega), hl, Nat.add_sub_cancel_left]
  exact h
theorem add_zero_blk (g n : Nat) : (⟨g, 0, none⟩ : Addr).add n = ⟨g, n, none⟩ := by unfold Addr.add; split <;> simp_all
set_option maxHeartbeats 4000000 in
theorem lawPSame (W : World) (v mv : Value) (cl ml : List Int) (hv : CodeV W v cl) (hmv : CodeV W mv ml) (hE : Env W) : Calls Tryz.prog 9 #[v, mv] W fun e w' => e = .returned (.bool true) ∧ Below W.heap.size W w' := by
  have DR := Lib.hid (drawType_any v cl W hv)
  obtain ⟨A, c, rfl, hc, hm⟩ := hv.1.val
  obtain ⟨Am, cm, rfl, hcm, hmm⟩ := hmv.1.val
  clear hv hmv
  obtain ⟨b1, hb1⟩ : ∃ b, decide ((1048576 : Int) < ((cl.length : Nat) : Int)) = b := ⟨_, rfl⟩
  obtain ⟨b2, hb2⟩ : ∃ b, decide ((1048576 : Int) < ((ml.length : Nat) : Int)) = b := ⟨_, rfl⟩
  cases b1
  rotate_left
  · go_enter Tryz.func9, Tryz.ntmps9
    go_wp2_with fail
    go_ret
    exact ⟨rfl, Below.refl _ _⟩
  cases b2
  rotate_left
  · go_enter Tryz.func9, Tryz.ntmps9
    go_wp2_with fail
    go_ret
    exact ⟨rfl, Below.refl _ _⟩
  go_enter Tryz.func9, Tryz.ntmps9
  go_wp2_with fail
  refine DR.out.mono ?_
  rintro r w1 ⟨u, l, rfl, hS, hN, hl, hbw⟩
  have IR := Lib.hid (fun (w' : World) (h : Below w1.heap.size w1 w') => imProgRun_any l u w' (hS.smsF h) (hE.ext (hbw.ext h)))
  have SR := Lib.hid (fun (w' : World) (h : Below w1.heap.size w1 w') => spProgRun_any l u w' (hS.smsF h))
  have SO := Lib.hid (fun (w' : World) (h : Below w1.heap.size w1 w') => spProgOk_any l u w' (hS.smsF h))
  have IT := Lib.hid (fun (w' : World) (h : Below w1.heap.size w1 w') => imProgType_any l u w' (hS.smsF h) (hE.ext (hbw.ext h)))
  have HW := Lib.hid hbw
  have hB1 := Below.refl w1.heap.size w1
  have HEN := Lib.hid (And.intro hE hbw)
  have HSS := Lib.hid hS
  obtain ⟨A1, c1, rfl, hc1, hm1⟩ := hS.val
  obtain ⟨po, hpo⟩ : ∃ x, progOkB l = x := ⟨_, rfl⟩
  rw [hpo] at SO
  obtain ⟨pr, hpr⟩ : ∃ x, prRun l = x := ⟨_, rfl⟩
  rw [hpr] at IR SR
  obtain ⟨out, ok⟩ := pr
  clear hS hN hbw hE DR hb1 hb2
  go_wp2_with fail
  refine (IR.out _ hB1).mono ?_
  rintro r w2 ⟨o2, rfl, hF2, hb2⟩
  have hB2 := hB1.ext hb2
  have HF2 := Lib.hid hF2
  obtain ⟨X2, x2, rfl, hxc2, hxm2⟩ := hF2.sl.val
  clear hF2
  go_wp2_with fail
  refine (SR.out _ hB2).mono ?_
  rintro r w3 ⟨o3, rfl, hF3, hb3⟩
  have hB3 := hB2.ext hb3
  obtain ⟨X3, x3, rfl, hxc3, hxm3⟩ := hF3.sl.val
  clear hF3
  go_wp2_with fail
  refine (SO.out _ hB3).mono ?_
  rintro r w4 ⟨rfl, hb4⟩
  have hB4 := hB3.ext hb4
  cases po
  · clear HSS hpo
    go_wp2_with fail
    go_ret
    exact ⟨rfl, HW.out.ext hB4⟩
  by_cases h16 : l.length < 16
  rotate_left
  · have hd : decide ((16 : Int) ≤ ((l.length : Nat) : Int)) = true := by rw [decide_eq_true_eq]; omega
    have hd2 : 16 ≤ l.length := by omega
    clear HSS hpo
    go_wp2_with fail
    go_ret
    exact ⟨rfl, HW.out.ext hB4⟩
  have hd : decide ((16 : Int) ≤ ((l.length : Nat) : Int)) = false := by rw [decide_eq_false_iff_not]; omega
  have hd2 : ¬ (16 ≤ l.length) := by omega
  have hl1 : 0 < l.length := (progOkB_iff.1 hpo).2.1
  obtain ⟨gp, cp, fl, hup, _, _, hgp, hfl, hone, HP⟩ := HSS.out.at hl1
  obtain ⟨rfl, rfl⟩ : A1 = some ⟨gp, 0, none⟩ ∧ c1 = cp := by injection hup; exact ⟨‹_›, ‹_›⟩
  have hkl : ml.length % l.length < l.length := Nat.mod_lt _ hl1
  have q1 : ((ml.length : Nat) : Int).tmod ((l.length : Nat) : Int) = ((ml.length % l.length : Nat) : Int) := by rw [Int.tmod_eq_emod_of_nonneg (by omega)]; rfl
  have q3 : (((l.length : Nat) : Int) == 0) = false := by simp; intro e; rw [e] at hl1; simp at hl1
  generalize ml.length % l.length = km at *
  obtain ⟨k0, nm, ty, k1, n1, s1, A1, m1, cp1, k2, n2, s2, A2, m2, cp2, x1, x2, hlj, hcell, hdr, hl1', hl2', hkk⟩ := row_form hfl hkl HP
  have hcc := hcell w4 hB4
  have f0 : w4.cell? ⟨gp, km * 11, none⟩ = some (.int .i64 k0) := hcc 0 _ rfl
  have f1 : w4.cell? ⟨gp, km * 11 + 1, none⟩ = some (.string (bs nm)) := hcc 1 _ rfl
  have f2 : w4.cell? ⟨gp, km * 11 + 2, none⟩ = some (.string (bs ty)) := hcc 2 _ rfl
  have f3 : w4.cell? ⟨gp, km * 11 + 3, none⟩ = some (.int .i64 k1) := hcc 3 _ rfl
  have f4 : w4.cell? ⟨gp, km * 11 + 4, none⟩ = some (.int .i64 n1) := hcc 4 _ rfl
  have f5 : w4.cell? ⟨gp, km * 11 + 5, none⟩ = some (.string (bs s1)) := hcc 5 _ rfl
  have f6 : w4.cell? ⟨gp, km * 11 + 6, none⟩ = some (.slice A1 m1 cp1) := hcc 6 _ rfl
  have f7 : w4.cell? ⟨gp, km * 11 + 7, none⟩ = some (.int .i64 k2) := hcc 7 _ rfl
  have f8 : w4.cell? ⟨gp, km * 11 + 8, none⟩ = some (.int .i64 n2) := hcc 8 _ rfl
  have f9 : w4.cell? ⟨gp, km * 11 + 9, none⟩ = some (.string (bs s2)) := hcc 9 _ rfl
  have f10 : w4.cell? ⟨gp, km * 11 + 10, none⟩ = some (.slice A2 m2 cp2) := hcc 10 _ rfl
  have hwr : IntKind.i64.wrap ((km : Int) + 1) = (km : Int) + 1 := by rw [IntKind.wrap_i64]; omega
  have HPP := Lib.hid (And.intro hfl (And.intro hone HP))
  have HRW := Lib.hid (And.intro hlj (And.intro hcell (And.intro hdr (And.intro hl1' (And.intro hl2' hkk)))))
  have HPO := Lib.hid (And.intro hpo hpr)
  have hWb : W.heap.size ≤ w4.heap.size := Nat.le_trans HW.out.size hB4.size
  clear hup hfl hone HP HSS hlj hcell hdr hl1' hl2' hkk hcc hpo hpr
  by_cases hk0 : k0 = 1
  rotate_left
  · have hd0 : (k0 != 1) = true := by simpa using hk0
    have hd1 : (k0 == 1) = false := by simpa using hk0
    go_wp2_with fail
    go_ret
    exact ⟨rfl, HW.out.ext hB4⟩
  subst hk0
  by_cases hk1 : k1 = 1
  rotate_left
  · have hd0 : (k1 != 1) = true := by simpa using hk1
    have hd1 : (k1 == 1) = false := by simpa using hk1
    go_wp2_with fail
    go_ret
    exact ⟨rfl, HW.out.ext hB4⟩
  subst hk1
  go_upto_region 11 with fail
  have KB : Hid (∀ w', Below w4.heap.size w4 w' → (w'.cell? ⟨gp, km * 11, none⟩ = some (.int .i64 1) ∧ w'.cell? ⟨gp, km * 11 + 1, none⟩ = some (.string (bs nm)) ∧ w'.cell? ⟨gp, km * 11 + 2, none⟩ = some (.string (bs ty)) ∧ w'.cell? ⟨gp, km * 11 + 3, none⟩ = some (.int .i64 1) ∧ w'.cell? ⟨gp, km * 11 + 4, none⟩ = some (.int .i64 n1) ∧ w'.cell? ⟨gp, km * 11 + 5, none⟩ = some (.string (bs s1)) ∧ w'.cell? ⟨gp, km * 11 + 6, none⟩ = some (.slice A1 m1 cp1) ∧ w'.cell? ⟨gp, km * 11 + 7, none⟩ = some (.int .i64 k2) ∧ w'.cell? ⟨gp, km * 11 + 8, none⟩ = some (.int .i64 n2) ∧ w'.cell? ⟨gp, km * 11 + 9, none⟩ = some (.string (bs s2)) ∧ w'.cell? ⟨gp, km * 11 + 10, none⟩ = some (.slice A2 m2 cp2))) := Lib.hid (fun w' h => by
    have hcc := HRW.out.2.1 w' (hB4.ext h)
    exact ⟨hcc 0 _ rfl, hcc 1 _ rfl, hcc 2 _ rfl, hcc 3 _ rfl, hcc 4 _ rfl, hcc 5 _ rfl, hcc 6 _ rfl, hcc 7 _ rfl, hcc 8 _ rfl, hcc 9 _ rfl, hcc 10 _ rfl⟩)
  clear f0 f1 f2 f3 f4 f5 f6 f7 f8 f9 f10
  have hkc : km + 1 ≤ c1 := by omega
  have hkc2 : ((km : Int) + 1) ≤ (c1 : Int) := by omega
  have hkl2 : ((km : Int) + 1) ≤ (l.length : Int) := by omega
  have hkp : (0 : Int) ≤ (km : Int) + 1 := by omega
  have hkt : ((km : Int) + 1).toNat = km + 1 := by omega
  have hkp2 : (0 : Int) ≤ (km : Int) := by omega
  have hkl3 : (km : Int) < (l.length : Int) := by omega
  have hkl5 : (km : Int) + 1 ≤ (km : Int) + 1 := by omega
  go_cut [11] (fun s wx => ∃ g n cap, s = .slice (some ⟨g, 0, none⟩) n cap ∧ DrS W.heap.size wx s (dup l km ⟨1, nm, ty, x1, x2⟩) ∧ Below w4.heap.size w4 wx)
  case first =>
    have HT := Lib.hid (show (fl.take (km + 1)).length = km + 1 ∧ (∀ f ∈ fl.take (km + 1), ∀ u ∈ fsRow f, u.oneCell' = true) ∧ (∀ f ∈ fl.drop (km + 1), ∀ u ∈ fsRow f, u.oneCell' = true) ∧ (fl.drop (km + 1)).length = l.length - (km + 1) from ⟨by rw [List.length_take, HPP.out.1]; omega, fun f hf => HPP.out.2.1 f (List.mem_of_mem_take hf), fun f hf => HPP.out.2.1 f (List.mem_of_mem_drop hf), by rw [List.length_drop, HPP.out.1]⟩)
    have HFR := Lib.hid (show ∀ f ∈ [(⟨1, nm, ty, 1, n1, s1, .slice A1 m1 cp1, k2, n2, s2, .slice A2 m2 cp2⟩ : FS)], ∀ u ∈ fsRow f, u.oneCell' = true from fs_one (f := ⟨1, nm, ty, 1, n1, s1, .slice A1 m1 cp1, k2, n2, s2, .slice A2 m2 cp2⟩) rfl rfl)
    by_cases hlast : km + 1 < l.length
    · have hne : c1 ≠ km + 1 := by omega
      have hne2 : ¬ (km + 1 = c1) := by omega
      go_region_held3 (fun w' => w'.cell? ⟨gp, km * 11, none⟩ = some (.int .i64 1) ∧ w'.cell? ⟨gp, km * 11 + 1, none⟩ = some (.string (bs nm)) ∧ w'.cell? ⟨gp, km * 11 + 2, none⟩ = some (.string (bs ty)) ∧ w'.cell? ⟨gp, km * 11 + 3, none⟩ = some (.int .i64 1) ∧ w'.cell? ⟨gp, km * 11 + 4, none⟩ = some (.int .i64 n1) ∧ w'.cell? ⟨gp, km * 11 + 5, none⟩ = some (.string (bs s1)) ∧ w'.cell? ⟨gp, km * 11 + 6, none⟩ = some (.slice A1 m1 cp1) ∧ w'.cell? ⟨gp, km * 11 + 7, none⟩ = some (.int .i64 k2) ∧ w'.cell? ⟨gp, km * 11 + 8, none⟩ = some (.int .i64 n2) ∧ w'.cell? ⟨gp, km * 11 + 9, none⟩ = some (.string (bs s2)) ∧ w'.cell? ⟨gp, km * 11 + 10, none⟩ = some (.slice A2 m2 cp2))
        (first | exact KB.out _ (by (repeat (first | with_reducible assumption | with_reducible exact Below.refl _ _ | with_reducible refine Below.setCell ?_ (by first | omega | (simp; done) | (simp; omega)) _ | with_reducible refine Below.alloc ?_ (by first | omega | (simp; done) | (simp; omega)) _ | with_reducible refine below_drewN ?_ _ | with_reducible refine Below.drew ?_ | with_reducible refine below_app ?_ hgr5 (by intro q hq; simp [Value.ownBlock] at hq; omega) (by first | omega | (simp; done) | (simp; omega)) | with_reducible refine below_app ?_ hgr6 (by intro q hq; simp [Value.ownBlock] at hq; omega) (by first | omega | (simp; done) | (simp; omega)) | with_reducible refine below_app ?_ hgr7 (by intro q hq; simp [Value.ownBlock] at hq; omega) (by first | omega | (simp; done) | (simp; omega))))) | exact KB.out _ (by (repeat (first | with_reducible assumption | with_reducible exact Below.refl _ _ | with_reducible refine Below.setCell ?_ (by first | omega | (simp; done) | (simp; omega)) _ | with_reducible refine Below.alloc ?_ (by first | omega | (simp; done) | (simp; omega)) _ | with_reducible refine below_drewN ?_ _ | with_reducible refine Below.drew ?_ | with_reducible refine below_app ?_ hgr5 (by intro q hq; simp [Value.ownBlock] at hq; omega) (by first | omega | (simp; done) | (simp; omega)) | with_reducible refine below_app ?_ hgr6 (by intro q hq; simp [Value.ownBlock] at hq; omega) (by first | omega | (simp; done) | (simp; omega))))) | exact KB.out _ (by (repeat (first | with_reducible assumption | with_reducible exact Below.refl _ _ | with_reducible refine Below.setCell ?_ (by first | omega | (simp; done) | (simp; omega)) _ | with_reducible refine Below.alloc ?_ (by first | omega | (simp; done) | (simp; omega)) _ | with_reducible refine below_drewN ?_ _ | with_reducible refine Below.drew ?_ | with_reducible refine below_app ?_ hgr5 (by intro q hq; simp [Value.ownBlock] at hq; omega) (by first | omega | (simp; done) | (simp; omega))))) | exact KB.out _ (by (repeat (first | with_reducible assumption | with_reducible exact Below.refl _ _ | with_reducible refine Below.setCell ?_ (by first | omega | (simp; done) | (simp; omega)) _ | with_reducible refine Below.alloc ?_ (by first | omega | (simp; done) | (simp; omega)) _ | with_reducible refine below_drewN ?_ _ | with_reducible refine Below.drew ?_))) | go_keep)
        (first
          | (refine app_copyF (by rfl) (.tmp 73) (.tmp 77) (by rfl) w4.heap.size w4.heap.size (by rfl) ?_ (fl.take (km + 1)) (km + 1) HT.out.1 HT.out.2.1 gp c1 (by rfl) ?_ (by omega) ?_ ?_ ?_; exact gt_empty' w4 _ rfl (Nat.le_refl _) (by (repeat (first | with_reducible assumption | with_reducible exact Below.refl _ _ | with_reducible refine Below.setCell ?_ (by first | omega | (simp; done) | (simp; omega)) _ | with_reducible refine Below.alloc ?_ (by first | omega | (simp; done) | (simp; omega)) _ | with_reducible refine below_drewN ?_ _ | with_reducible refine Below.drew ?_))); exact fun j x hx => (HPP.out.2.2 _ (hB4.ext (by (repeat (first | with_reducible assumption | with_reducible exact Below.refl _ _ | with_reducible refine Below.setCell ?_ (by first | omega | (simp; done) | (simp; omega)) _ | with_reducible refine Below.alloc ?_ (by first | omega | (simp; done) | (simp; omega)) _ | with_reducible refine below_drewN ?_ _ | with_reducible refine Below.drew ?_))))).1 j x (flat_take hx); (first | omega | (simp; done) | (simp only [List.length_cons, List.length_nil, List.length_append]; omega) | (simp; omega)); (simp only [World.size_alloc, World.size_drew]; omega); intro g5 cap5 w5 hG5 hgr5 hat5; have hg5 := hG5.lt (b := g5) rfl; have hz5 := hgr5.size; (try simp at hz5))
          | (refine app_copyF (by rfl) (.tmp 73) (.tmp 77) (by rfl) w4.heap.size (w4.heap.size + 1) (by rfl) ?_ (fl.take (km + 1)) (km + 1) HT.out.1 HT.out.2.1 gp c1 (by rfl) ?_ (by omega) ?_ ?_ ?_; exact gt_empty' (w4.alloc (.cells ([⟨1, nm, ty, 1, n1, s1, .slice A1 m1 cp1, k2, n2, s2, .slice A2 m2 cp2⟩].flatMap fsRow).toArray 27)) _ (by simp) (by omega) (Below.drew (Below.refl _ _)); exact fun j x hx => (HPP.out.2.2 _ (hB4.ext (by (repeat (first | with_reducible assumption | with_reducible exact Below.refl _ _ | with_reducible refine Below.setCell ?_ (by first | omega | (simp; done) | (simp; omega)) _ | with_reducible refine Below.alloc ?_ (by first | omega | (simp; done) | (simp; omega)) _ | with_reducible refine below_drewN ?_ _ | with_reducible refine Below.drew ?_))))).1 j x (flat_take hx); (first | omega | (simp; done) | (simp only [List.length_cons, List.length_nil, List.length_append]; omega) | (simp; omega)); (simp only [World.size_alloc, World.size_drew]; omega); intro g5 cap5 w5 hG5 hgr5 hat5; have hg5 := hG5.lt (b := g5) rfl; have hz5 := hgr5.size; (try simp at hz5))
          | (refine app_stepA (by rfl) (.tmp 84) (.tmp 88) (by rfl) w4.heap.size g6 (km + 1 + 1) cap6 (fl.take (km + 1) ++ [⟨1, nm, ty, 1, n1, s1, .slice A1 m1 cp1, k2, n2, s2, .slice A2 m2 cp2⟩]) (by rfl) ?_ ?_ (fl.drop (km + 1)) (l.length - (km + 1)) HT.out.2.2.2 HT.out.2.2.1 ⟨gp, (km + 1) * 11, none⟩ (c1 - (km + 1)) (by rfl) ?_ (by omega) ?_ ?_ ?_; exact hG6.ext (by (repeat (first | with_reducible assumption | with_reducible exact Below.refl _ _ | with_reducible refine Below.setCell ?_ (by first | omega | (simp; done) | (simp; omega)) _ | with_reducible refine Below.alloc ?_ (by first | omega | (simp; done) | (simp; omega)) _ | with_reducible refine below_drewN ?_ _ | with_reducible refine Below.drew ?_))); (rw [List.length_append, HT.out.1]; rfl); exact fun j x hx => (by rw [← add_zero_blk gp ((km + 1) * 11), add_of_add]; exact (HPP.out.2.2 _ (hB4.ext (by (repeat (first | with_reducible assumption | with_reducible exact Below.refl _ _ | with_reducible refine Below.setCell ?_ (by first | omega | (simp; done) | (simp; omega)) _ | with_reducible refine Below.alloc ?_ (by first | omega | (simp; done) | (simp; omega)) _ | with_reducible refine below_drewN ?_ _ | with_reducible refine Below.drew ?_ | with_reducible refine below_app ?_ hgr5 (by intro q hq; simp [Value.ownBlock] at hq; omega) (by first | omega | (simp; done) | (simp; omega)) | with_reducible refine below_app ?_ hgr6 (by intro q hq; simp [Value.ownBlock] at hq; omega) (by first | omega | (simp; done) | (simp; omega))))))).1 _ x (flat_drop (by rw [HPP.out.1]; omega) hx)); (first | omega | (simp; done) | (simp only [List.length_cons, List.length_nil, List.length_append]; omega) | (simp; omega)); (first | omega | (simp only [World.size_alloc, World.size_drew]; omega)); intro g7 cap7 w7 hG7 hgr7 hat7)
          | (refine app_stepL (by rfl) (.tmp 78) (.tmp 83) (by rfl) w4.heap.size g5 (km + 1) cap5 (fl.take (km + 1)) (by rfl) ?_ HT.out.1 [⟨1, nm, ty, 1, n1, s1, .slice A1 m1 cp1, k2, n2, s2, .slice A2 m2 cp2⟩] 1 rfl HFR.out w5.heap.size 1 (by rfl) ?_ (by omega) ?_ ?_ ?_; exact hG5.ext (by (repeat (first | with_reducible assumption | with_reducible exact Below.refl _ _ | with_reducible refine Below.setCell ?_ (by first | omega | (simp; done) | (simp; omega)) _ | with_reducible refine Below.alloc ?_ (by first | omega | (simp; done) | (simp; omega)) _ | with_reducible refine below_drewN ?_ _ | with_reducible refine Below.drew ?_))); exact news_at rfl; (first | omega | (simp; done) | (simp only [List.length_cons, List.length_nil, List.length_append]; omega) | (simp; omega)); (first | omega | (simp only [World.size_alloc, World.size_drew]; omega)); intro g6 cap6 w6 hG6 hgr6 hat6; have hg6 := hG6.lt (b := g6) rfl; have hz6 := hgr6.size; (try simp at hz6))
          | (refine app_stepL (by rfl) (.tmp 78) (.tmp 83) (by rfl) w4.heap.size g5 (km + 1) cap5 (fl.take (km + 1)) (by rfl) ?_ HT.out.1 [⟨1, nm, ty, 1, n1, s1, .slice A1 m1 cp1, k2, n2, s2, .slice A2 m2 cp2⟩] 1 rfl HFR.out (w4.heap.size + 1) 1 (by rfl) ?_ (by omega) ?_ ?_ ?_; exact hG5.ext (by (repeat (first | with_reducible assumption | with_reducible exact Below.refl _ _ | with_reducible refine Below.setCell ?_ (by first | omega | (simp; done) | (simp; omega)) _ | with_reducible refine Below.alloc ?_ (by first | omega | (simp; done) | (simp; omega)) _ | with_reducible refine below_drewN ?_ _ | with_reducible refine Below.drew ?_))); exact World.news_of_block (blk_gr (Blk.drew (Blk.newc (w := w4.alloc (.cells #[] 27)) (cs' := ([⟨1, nm, ty, 1, n1, s1, .slice A1 m1 cp1, k2, n2, s2, .slice A2 m2 cp2⟩].flatMap fsRow).toArray) (by simp) rfl)) hgr5 (by omega)); (first | omega | (simp; done) | (simp only [List.length_cons, List.length_nil, List.length_append]; omega) | (simp; omega)); (first | omega | (simp only [World.size_alloc, World.size_drew]; omega)); intro g6 cap6 w6 hG6 hgr6 hat6; have hg6 := hG6.lt (b := g6) rfl; have hz6 := hgr6.size; (try simp at hz6))
          | (refine app_stepL (by rfl) (.tmp 78) (.tmp 83) (by rfl) w4.heap.size g5 (km + 1) cap5 (fl.take (km + 1)) (by rfl) ?_ HT.out.1 [⟨1, nm, ty, 1, n1, s1, .slice A1 m1 cp1, k2, n2, s2, .slice A2 m2 cp2⟩] 1 rfl HFR.out w4.heap.size 1 (by rfl) ?_ (by omega) ?_ ?_ ?_; exact hG5.ext (by (repeat (first | with_reducible assumption | with_reducible exact Below.refl _ _ | with_reducible refine Below.setCell ?_ (by first | omega | (simp; done) | (simp; omega)) _ | with_reducible refine Below.alloc ?_ (by first | omega | (simp; done) | (simp; omega)) _ | with_reducible refine below_drewN ?_ _ | with_reducible refine Below.drew ?_))); exact World.news_of_block (blk_gr (Blk.drew (Blk.alloc (Blk.newc (w := w4) (cs' := ([⟨1, nm, ty, 1, n1, s1, .slice A1 m1 cp1, k2, n2, s2, .slice A2 m2 cp2⟩].flatMap fsRow).toArray) rfl rfl) _)) hgr5 (by omega)); (first | omega | (simp; done) | (simp only [List.length_cons, List.length_nil, List.length_append]; omega) | (simp; omega)); (first | omega | (simp only [World.size_alloc, World.size_drew]; omega)); intro g6 cap6 w6 hG6 hgr6 hat6; have hg6 := hG6.lt (b := g6) rfl; have hz6 := hgr6.size; (try simp at hz6))
          | fail)
      all_goals
        have hbx : Below w4.heap.size w4 w7 := by (repeat (first | with_reducible assumption | with_reducible exact Below.refl _ _ | with_reducible refine Below.setCell ?_ (by first | omega | (simp; done) | (simp; omega)) _ | with_reducible refine Below.alloc ?_ (by first | omega | (simp; done) | (simp; omega)) _ | with_reducible refine below_drewN ?_ _ | with_reducible refine Below.drew ?_ | with_reducible refine below_app ?_ hgr5 (by intro q hq; simp [Value.ownBlock] at hq; omega) (by first | omega | (simp; done) | (simp; omega)) | with_reducible refine below_app ?_ hgr6 (by intro q hq; simp [Value.ownBlock] at hq; omega) (by first | omega | (simp; done) | (simp; omega)) | with_reducible refine below_app ?_ hgr7 (by intro q hq; simp [Value.ownBlock] at hq; omega) (by first | omega | (simp; done) | (simp; omega))))
        have HZ := Lib.hid (And.intro hG7 hbx)
        clear hG7 hbx hgr5 hgr6 hgr7 hat5 hat6 hat7 hG5 hG6
        go_wp2_with fail
        go_meet
        have hB7 := hB4.ext HZ.out.2
        have EL : ElF W.heap.size w7 fl l := ⟨HPP.out.1, (HPP.out.2.2 _ hB7).2⟩
        have hrow := DrV.drf (k := 1) (HRW.out.2.2.1 w7 hB7).1 (HRW.out.2.2.1 w7 hB7).2 HRW.out.2.2.2.1 HRW.out.2.2.2.2.1
        exact ⟨g7, _, cap7, rfl, ElF.drs (HZ.out.1.less hWb) (((EL.take (km + 1)).app (ElF.one hrow)).app (EL.drop (km + 1))), HZ.out.2⟩
    · have HLL := Lib.hid (show l.length = km + 1 by omega)
      by_cases hcc : c1 = km + 1
      · subst hcc
        go_region_held3 (fun w' => w'.cell? ⟨gp, km * 11, none⟩ = some (.int .i64 1) ∧ w'.cell? ⟨gp, km * 11 + 1, none⟩ = some (.string (bs nm)) ∧ w'.cell? ⟨gp, km * 11 + 2, none⟩ = some (.string (bs ty)) ∧ w'.cell? ⟨gp, km * 11 + 3, none⟩ = some (.int .i64 1) ∧ w'.cell? ⟨gp, km * 11 + 4, none⟩ = some (.int .i64 n1) ∧ w'.cell? ⟨gp, km * 11 + 5, none⟩ = some (.string (bs s1)) ∧ w'.cell? ⟨gp, km * 11 + 6, none⟩ = some (.slice A1 m1 cp1) ∧ w'.cell? ⟨gp, km * 11 + 7, none⟩ = some (.int .i64 k2) ∧ w'.cell? ⟨gp, km * 11 + 8, none⟩ = some (.int .i64 n2) ∧ w'.cell? ⟨gp, km * 11 + 9, none⟩ = some (.string (bs s2)) ∧ w'.cell? ⟨gp, km * 11 + 10, none⟩ = some (.slice A2 m2 cp2))
          (first | exact KB.out _ (by (repeat (first | with_reducible assumption | with_reducible exact Below.refl _ _ | with_reducible refine Below.setCell ?_ (by first | omega | (simp; done) | (simp; omega)) _ | with_reducible refine Below.alloc ?_ (by first | omega | (simp; done) | (simp; omega)) _ | with_reducible refine below_drewN ?_ _ | with_reducible refine Below.drew ?_ | with_reducible refine below_app ?_ hgr5 (by intro q hq; simp [Value.ownBlock] at hq; omega) (by first | omega | (simp; done) | (simp; omega)) | with_reducible refine below_app ?_ hgr6 (by intro q hq; simp [Value.ownBlock] at hq; omega) (by first | omega | (simp; done) | (simp; omega)) | with_reducible refine below_app ?_ hgr7 (by intro q hq; simp [Value.ownBlock] at hq; omega) (by first | omega | (simp; done) | (simp; omega))))) | exact KB.out _ (by (repeat (first | with_reducible assumption | with_reducible exact Below.refl _ _ | with_reducible refine Below.setCell ?_ (by first | omega | (simp; done) | (simp; omega)) _ | with_reducible refine Below.alloc ?_ (by first | omega | (simp; done) | (simp; omega)) _ | with_reducible refine below_drewN ?_ _ | with_reducible refine Below.drew ?_ | with_reducible refine below_app ?_ hgr5 (by intro q hq; simp [Value.ownBlock] at hq; omega) (by first | omega | (simp; done) | (simp; omega)) | with_reducible refine below_app ?_ hgr6 (by intro q hq; simp [Value.ownBlock] at hq; omega) (by first | omega | (simp; done) | (simp; omega))))) | exact KB.out _ (by (repeat (first | with_reducible assumption | with_reducible exact Below.refl _ _ | with_reducible refine Below.setCell ?_ (by first | omega | (simp; done) | (simp; omega)) _ | with_reducible refine Below.alloc ?_ (by first | omega | (simp; done) | (simp; omega)) _ | with_reducible refine below_drewN ?_ _ | with_reducible refine Below.drew ?_ | with_reducible refine below_app ?_ hgr5 (by intro q hq; simp [Value.ownBlock] at hq; omega) (by first | omega | (simp; done) | (simp; omega))))) | exact KB.out _ (by (repeat (first | with_reducible assumption | with_reducible exact Below.refl _ _ | with_reducible refine Below.setCell ?_ (by first | omega | (simp; done) | (simp; omega)) _ | with_reducible refine Below.alloc ?_ (by first | omega | (simp; done) | (simp; omega)) _ | with_reducible refine below_drewN ?_ _ | with_reducible refine Below.drew ?_))) | go_keep)
          (first
            | (refine app_copyF (by rfl) (.tmp 73) (.tmp 77) (by rfl) w4.heap.size w4.heap.size (by rfl) ?_ (fl.take (km + 1)) (km + 1) HT.out.1 HT.out.2.1 gp (km + 1) (by rfl) ?_ (by omega) ?_ ?_ ?_; exact gt_empty' w4 _ rfl (Nat.le_refl _) (by (repeat (first | with_reducible assumption | with_reducible exact Below.refl _ _ | with_reducible refine Below.setCell ?_ (by first | omega | (simp; done) | (simp; omega)) _ | with_reducible refine Below.alloc ?_ (by first | omega | (simp; done) | (simp; omega)) _ | with_reducible refine below_drewN ?_ _ | with_reducible refine Below.drew ?_))); exact fun j x hx => (HPP.out.2.2 _ (hB4.ext (by (repeat (first | with_reducible assumption | with_reducible exact Below.refl _ _ | with_reducible refine Below.setCell ?_ (by first | omega | (simp; done) | (simp; omega)) _ | with_reducible refine Below.alloc ?_ (by first | omega | (simp; done) | (simp; omega)) _ | with_reducible refine below_drewN ?_ _ | with_reducible refine Below.drew ?_))))).1 j x (flat_take hx); (first | omega | (simp; done) | (simp only [List.length_cons, List.length_nil, List.length_append]; omega) | (simp; omega)); (simp only [World.size_alloc, World.size_drew]; omega); intro g5 cap5 w5 hG5 hgr5 hat5; have hg5 := hG5.lt (b := g5) rfl; have hz5 := hgr5.size; (try simp at hz5))
            | (refine app_copyF (by rfl) (.tmp 73) (.tmp 77) (by rfl) w4.heap.size (w4.heap.size + 1) (by rfl) ?_ (fl.take (km + 1)) (km + 1) HT.out.1 HT.out.2.1 gp (km + 1) (by rfl) ?_ (by omega) ?_ ?_ ?_; exact gt_empty' (w4.alloc (.cells ([⟨1, nm, ty, 1, n1, s1, .slice A1 m1 cp1, k2, n2, s2, .slice A2 m2 cp2⟩].flatMap fsRow).toArray 27)) _ (by simp) (by omega) (Below.drew (Below.refl _ _)); exact fun j x hx => (HPP.out.2.2 _ (hB4.ext (by (repeat (first | with_reducible assumption | with_reducible exact Below.refl _ _ | with_reducible refine Below.setCell ?_ (by first | omega | (simp; done) | (simp; omega)) _ | with_reducible refine Below.alloc ?_ (by first | omega | (simp; done) | (simp; omega)) _ | with_reducible refine below_drewN ?_ _ | with_reducible refine Below.drew ?_))))).1 j x (flat_take hx); (first | omega | (simp; done) | (simp only [List.length_cons, List.length_nil, List.length_append]; omega) | (simp; omega)); (simp only [World.size_alloc, World.size_drew]; omega); intro g5 cap5 w5 hG5 hgr5 hat5; have hg5 := hG5.lt (b := g5) rfl; have hz5 := hgr5.size; (try simp at hz5))
            | (refine app_step0 (by rfl) (.tmp 84) (.tmp 88) (by rfl) (some ⟨g6, 0, none⟩) (km + 1 + 1) cap6 (by rfl) ?_ _ _ _ (by rfl) ?_ ?_; (obtain ⟨_, _, e, hc6, _⟩ := hG6.val; injection e with _ e2 e3; rw [e2, e3]; exact hc6); (first | (have := HLL.out; omega) | (simp; done)))
            | (refine app_stepL (by rfl) (.tmp 78) (.tmp 83) (by rfl) w4.heap.size g5 (km + 1) cap5 (fl.take (km + 1)) (by rfl) ?_ HT.out.1 [⟨1, nm, ty, 1, n1, s1, .slice A1 m1 cp1, k2, n2, s2, .slice A2 m2 cp2⟩] 1 rfl HFR.out w5.heap.size 1 (by rfl) ?_ (by omega) ?_ ?_ ?_; exact hG5.ext (by (repeat (first | with_reducible assumption | with_reducible exact Below.refl _ _ | with_reducible refine Below.setCell ?_ (by first | omega | (simp; done) | (simp; omega)) _ | with_reducible refine Below.alloc ?_ (by first | omega | (simp; done) | (simp; omega)) _ | with_reducible refine below_drewN ?_ _ | with_reducible refine Below.drew ?_))); exact news_at rfl; (first | omega | (simp; done) | (simp only [List.length_cons, List.length_nil, List.length_append]; omega) | (simp; omega)); (first | omega | (simp only [World.size_alloc, World.size_drew]; omega)); intro g6 cap6 w6 hG6 hgr6 hat6; have hg6 := hG6.lt (b := g6) rfl; have hz6 := hgr6.size; (try simp at hz6))
            | (refine app_stepL (by rfl) (.tmp 78) (.tmp 83) (by rfl) w4.heap.size g5 (km + 1) cap5 (fl.take (km + 1)) (by rfl) ?_ HT.out.1 [⟨1, nm, ty, 1, n1, s1, .slice A1 m1 cp1, k2, n2, s2, .slice A2 m2 cp2⟩] 1 rfl HFR.out (w4.heap.size + 1) 1 (by rfl) ?_ (by omega) ?_ ?_ ?_; exact hG5.ext (by (repeat (first | with_reducible assumption | with_reducible exact Below.refl _ _ | with_reducible refine Below.setCell ?_ (by first | omega | (simp; done) | (simp; omega)) _ | with_reducible refine Below.alloc ?_ (by first | omega | (simp; done) | (simp; omega)) _ | with_reducible refine below_drewN ?_ _ | with_reducible refine Below.drew ?_))); exact World.news_of_block (blk_gr (Blk.drew (Blk.newc (w := w4.alloc (.cells #[] 27)) (cs' := ([⟨1, nm, ty, 1, n1, s1, .slice A1 m1 cp1, k2, n2, s2, .slice A2 m2 cp2⟩].flatMap fsRow).toArray) (by simp) rfl)) hgr5 (by omega)); (first | omega | (simp; done) | (simp only [List.length_cons, List.length_nil, List.length_append]; omega) | (simp; omega)); (first | omega | (simp only [World.size_alloc, World.size_drew]; omega)); intro g6 cap6 w6 hG6 hgr6 hat6; have hg6 := hG6.lt (b := g6) rfl; have hz6 := hgr6.size; (try simp at hz6))
            | (refine app_stepL (by rfl) (.tmp 78) (.tmp 83) (by rfl) w4.heap.size g5 (km + 1) cap5 (fl.take (km + 1)) (by rfl) ?_ HT.out.1 [⟨1, nm, ty, 1, n1, s1, .slice A1 m1 cp1, k2, n2, s2, .slice A2 m2 cp2⟩] 1 rfl HFR.out w4.heap.size 1 (by rfl) ?_ (by omega) ?_ ?_ ?_; exact hG5.ext (by (repeat (first | with_reducible assumption | with_reducible exact Below.refl _ _ | with_reducible refine Below.setCell ?_ (by first | omega | (simp; done) | (simp; omega)) _ | with_reducible refine Below.alloc ?_ (by first | omega | (simp; done) | (simp; omega)) _ | with_reducible refine below_drewN ?_ _ | with_reducible refine Below.drew ?_))); exact World.news_of_block (blk_gr (Blk.drew (Blk.alloc (Blk.newc (w := w4) (cs' := ([⟨1, nm, ty, 1, n1, s1, .slice A1 m1 cp1, k2, n2, s2, .slice A2 m2 cp2⟩].flatMap fsRow).toArray) rfl rfl) _)) hgr5 (by omega)); (first | omega | (simp; done) | (simp only [List.length_cons, List.length_nil, List.length_append]; omega) | (simp; omega)); (first | omega | (simp only [World.size_alloc, World.size_drew]; omega)); intro g6 cap6 w6 hG6 hgr6 hat6; have hg6 := hG6.lt (b := g6) rfl; have hz6 := hgr6.size; (try simp at hz6))
            | fail)
        all_goals
          have hbx : Below w4.heap.size w4 w6 := by (repeat (first | with_reducible assumption | with_reducible exact Below.refl _ _ | with_reducible refine Below.setCell ?_ (by first | omega | (simp; done) | (simp; omega)) _ | with_reducible refine Below.alloc ?_ (by first | omega | (simp; done) | (simp; omega)) _ | with_reducible refine below_drewN ?_ _ | with_reducible refine Below.drew ?_ | with_reducible refine below_app ?_ hgr5 (by intro q hq; simp [Value.ownBlock] at hq; omega) (by first | omega | (simp; done) | (simp; omega)) | with_reducible refine below_app ?_ hgr6 (by intro q hq; simp [Value.ownBlock] at hq; omega) (by first | omega | (simp; done) | (simp; omega))))
          have HZ := Lib.hid (And.intro hG6 hbx)
          clear hG6 hbx hgr5 hgr6 hat5 hat6 hG5
          go_wp2_with fail
          go_meet
          have hB7 := hB4.ext HZ.out.2
          have EL : ElF W.heap.size w6 fl l := ⟨HPP.out.1, (HPP.out.2.2 _ hB7).2⟩
          have hrow := DrV.drf (k := 1) (HRW.out.2.2.1 w6 hB7).1 (HRW.out.2.2.1 w6 hB7).2 HRW.out.2.2.2.1 HRW.out.2.2.2.2.1
          have hdup : dup l km ⟨1, nm, ty, x1, x2⟩ = l.take (km + 1) ++ [⟨1, nm, ty, x1, x2⟩] := by unfold dup; rw [List.drop_eq_nil_of_le (by have := HLL.out; omega), List.append_nil]
          rw [hdup]
          exact ⟨g6, _, cap6, rfl, ElF.drs (HZ.out.1.less hWb) ((EL.take (km + 1)).app (ElF.one hrow)), HZ.out.2⟩
      · have hne2 : ¬ (km + 1 = c1) := by omega
        go_region_held3 (fun w' => w'.cell? ⟨gp, km * 11, none⟩ = some (.int .i64 1) ∧ w'.cell? ⟨gp, km * 11 + 1, none⟩ = some (.string (bs nm)) ∧ w'.cell? ⟨gp, km * 11 + 2, none⟩ = some (.string (bs ty)) ∧ w'.cell? ⟨gp, km * 11 + 3, none⟩ = some (.int .i64 1) ∧ w'.cell? ⟨gp, km * 11 + 4, none⟩ = some (.int .i64 n1) ∧ w'.cell? ⟨gp, km * 11 + 5, none⟩ = some (.string (bs s1)) ∧ w'.cell? ⟨gp, km * 11 + 6, none⟩ = some (.slice A1 m1 cp1) ∧ w'.cell? ⟨gp, km * 11 + 7, none⟩ = some (.int .i64 k2) ∧ w'.cell? ⟨gp, km * 11 + 8, none⟩ = some (.int .i64 n2) ∧ w'.cell? ⟨gp, km * 11 + 9, none⟩ = some (.string (bs s2)) ∧ w'.cell? ⟨gp, km * 11 + 10, none⟩ = some (.slice A2 m2 cp2))
          (first | exact KB.out _ (by (repeat (first | with_reducible assumption | with_reducible exact Below.refl _ _ | with_reducible refine Below.setCell ?_ (by first | omega | (simp; done) | (simp; omega)) _ | with_reducible refine Below.alloc ?_ (by first | omega | (simp; done) | (simp; omega)) _ | with_reducible refine below_drewN ?_ _ | with_reducible refine Below.drew ?_ | with_reducible refine below_app ?_ hgr5 (by intro q hq; simp [Value.ownBlock] at hq; omega) (by first | omega | (simp; done) | (simp; omega)) | with_reducible refine below_app ?_ hgr6 (by intro q hq; simp [Value.ownBlock] at hq; omega) (by first | omega | (simp; done) | (simp; omega)) | with_reducible refine below_app ?_ hgr7 (by intro q hq; simp [Value.ownBlock] at hq; omega) (by first | omega | (simp; done) | (simp; omega))))) | exact KB.out _ (by (repeat (first | with_reducible assumption | with_reducible exact Below.refl _ _ | with_reducible refine Below.setCell ?_ (by first | omega | (simp; done) | (simp; omega)) _ | with_reducible refine Below.alloc ?_ (by first | omega | (simp; done) | (simp; omega)) _ | with_reducible refine below_drewN ?_ _ | with_reducible refine Below.drew ?_ | with_reducible refine below_app ?_ hgr5 (by intro q hq; simp [Value.ownBlock] at hq; omega) (by first | omega | (simp; done) | (simp; omega)) | with_reducible refine below_app ?_ hgr6 (by intro q hq; simp [Value.ownBlock] at hq; omega) (by first | omega | (simp; done) | (simp; omega))))) | exact KB.out _ (by (repeat (first | with_reducible assumption | with_reducible exact Below.refl _ _ | with_reducible refine Below.setCell ?_ (by first | omega | (simp; done) | (simp; omega)) _ | with_reducible refine Below.alloc ?_ (by first | omega | (simp; done) | (simp; omega)) _ | with_reducible refine below_drewN ?_ _ | with_reducible refine Below.drew ?_ | with_reducible refine below_app ?_ hgr5 (by intro q hq; simp [Value.ownBlock] at hq; omega) (by first | omega | (simp; done) | (simp; omega))))) | exact KB.out _ (by (repeat (first | with_reducible assumption | with_reducible exact Below.refl _ _ | with_reducible refine Below.setCell ?_ (by first | omega | (simp; done) | (simp; omega)) _ | with_reducible refine Below.alloc ?_ (by first | omega | (simp; done) | (simp; omega)) _ | with_reducible refine below_drewN ?_ _ | with_reducible refine Below.drew ?_))) | go_keep)
          (first
            | (refine app_copyF (by rfl) (.tmp 73) (.tmp 77) (by rfl) w4.heap.size w4.heap.size (by rfl) ?_ (fl.take (km + 1)) (km + 1) HT.out.1 HT.out.2.1 gp c1 (by rfl) ?_ (by omega) ?_ ?_ ?_; exact gt_empty' w4 _ rfl (Nat.le_refl _) (by (repeat (first | with_reducible assumption | with_reducible exact Below.refl _ _ | with_reducible refine Below.setCell ?_ (by first | omega | (simp; done) | (simp; omega)) _ | with_reducible refine Below.alloc ?_ (by first | omega | (simp; done) | (simp; omega)) _ | with_reducible refine below_drewN ?_ _ | with_reducible refine Below.drew ?_))); exact fun j x hx => (HPP.out.2.2 _ (hB4.ext (by (repeat (first | with_reducible assumption | with_reducible exact Below.refl _ _ | with_reducible refine Below.setCell ?_ (by first | omega | (simp; done) | (simp; omega)) _ | with_reducible refine Below.alloc ?_ (by first | omega | (simp; done) | (simp; omega)) _ | with_reducible refine below_drewN ?_ _ | with_reducible refine Below.drew ?_))))).1 j x (flat_take hx); (first | omega | (simp; done) | (simp only [List.length_cons, List.length_nil, List.length_append]; omega) | (simp; omega)); (simp only [World.size_alloc, World.size_drew]; omega); intro g5 cap5 w5 hG5 hgr5 hat5; have hg5 := hG5.lt (b := g5) rfl; have hz5 := hgr5.size; (try simp at hz5))
            | (refine app_copyF (by rfl) (.tmp 73) (.tmp 77) (by rfl) w4.heap.size (w4.heap.size + 1) (by rfl) ?_ (fl.take (km + 1)) (km + 1) HT.out.1 HT.out.2.1 gp c1 (by rfl) ?_ (by omega) ?_ ?_ ?_; exact gt_empty' (w4.alloc (.cells ([⟨1, nm, ty, 1, n1, s1, .slice A1 m1 cp1, k2, n2, s2, .slice A2 m2 cp2⟩].flatMap fsRow).toArray 27)) _ (by simp) (by omega) (Below.drew (Below.refl _ _)); exact fun j x hx => (HPP.out.2.2 _ (hB4.ext (by (repeat (first | with_reducible assumption | with_reducible exact Below.refl _ _ | with_reducible refine Below.setCell ?_ (by first | omega | (simp; done) | (simp; omega)) _ | with_reducible refine Below.alloc ?_ (by first | omega | (simp; done) | (simp; omega)) _ | with_reducible refine below_drewN ?_ _ | with_reducible refine Below.drew ?_))))).1 j x (flat_take hx); (first | omega | (simp; done) | (simp only [List.length_cons, List.length_nil, List.length_append]; omega) | (simp; omega)); (simp only [World.size_alloc, World.size_drew]; omega); intro g5 cap5 w5 hG5 hgr5 hat5; have hg5 := hG5.lt (b := g5) rfl; have hz5 := hgr5.size; (try simp at hz5))
            | (refine app_step0 (by rfl) (.tmp 84) (.tmp 88) (by rfl) (some ⟨g6, 0, none⟩) (km + 1 + 1) cap6 (by rfl) ?_ _ _ _ (by rfl) ?_ ?_; (obtain ⟨_, _, e, hc6, _⟩ := hG6.val; injection e with _ e2 e3; rw [e2, e3]; exact hc6); (first | (have := HLL.out; omega) | (simp; done)))
            | (refine app_stepL (by rfl) (.tmp 78) (.tmp 83) (by rfl) w4.heap.size g5 (km + 1) cap5 (fl.take (km + 1)) (by rfl) ?_ HT.out.1 [⟨1, nm, ty, 1, n1, s1, .slice A1 m1 cp1, k2, n2, s2, .slice A2 m2 cp2⟩] 1 rfl HFR.out w5.heap.size 1 (by rfl) ?_ (by omega) ?_ ?_ ?_; exact hG5.ext (by (repeat (first | with_reducible assumption | with_reducible exact Below.refl _ _ | with_reducible refine Below.setCell ?_ (by first | omega | (simp; done) | (simp; omega)) _ | with_reducible refine Below.alloc ?_ (by first | omega | (simp; done) | (simp; omega)) _ | with_reducible refine below_drewN ?_ _ | with_reducible refine Below.drew ?_))); exact news_at rfl; (first | omega | (simp; done) | (simp only [List.length_cons, List.length_nil, List.length_append]; omega) | (simp; omega)); (first | omega | (simp only [World.size_alloc, World.size_drew]; omega)); intro g6 cap6 w6 hG6 hgr6 hat6; have hg6 := hG6.lt (b := g6) rfl; have hz6 := hgr6.size; (try simp at hz6))
            | (refine app_stepL (by rfl) (.tmp 78) (.tmp 83) (by rfl) w4.heap.size g5 (km + 1) cap5 (fl.take (km + 1)) (by rfl) ?_ HT.out.1 [⟨1, nm, ty, 1, n1, s1, .slice A1 m1 cp1, k2, n2, s2, .slice A2 m2 cp2⟩] 1 rfl HFR.out (w4.heap.size + 1) 1 (by rfl) ?_ (by omega) ?_ ?_ ?_; exact hG5.ext (by (repeat (first | with_reducible assumption | with_reducible exact Below.refl _ _ | with_reducible refine Below.setCell ?_ (by first | omega | (simp; done) | (simp; omega)) _ | with_reducible refine Below.alloc ?_ (by first | omega | (simp; done) | (simp; omega)) _ | with_reducible refine below_drewN ?_ _ | with_reducible refine Below.drew ?_))); exact World.news_of_block (blk_gr (Blk.drew (Blk.newc (w := w4.alloc (.cells #[] 27)) (cs' := ([⟨1, nm, ty, 1, n1, s1, .slice A1 m1 cp1, k2, n2, s2, .slice A2 m2 cp2⟩].flatMap fsRow).toArray) (by simp) rfl)) hgr5 (by omega)); (first | omega | (simp; done) | (simp only [List.length_cons, List.length_nil, List.length_append]; omega) | (simp; omega)); (first | omega | (simp only [World.size_alloc, World.size_drew]; omega)); intro g6 cap6 w6 hG6 hgr6 hat6; have hg6 := hG6.lt (b := g6) rfl; have hz6 := hgr6.size; (try simp at hz6))
            | (refine app_stepL (by rfl) (.tmp 78) (.tmp 83) (by rfl) w4.heap.size g5 (km + 1) cap5 (fl.take (km + 1)) (by rfl) ?_ HT.out.1 [⟨1, nm, ty, 1, n1, s1, .slice A1 m1 cp1, k2, n2, s2, .slice A2 m2 cp2⟩] 1 rfl HFR.out w4.heap.size 1 (by rfl) ?_ (by omega) ?_ ?_ ?_; exact hG5.ext (by (repeat (first | with_reducible assumption | with_reducible exact Below.refl _ _ | with_reducible refine Below.setCell ?_ (by first | omega | (simp; done) | (simp; omega)) _ | with_reducible refine Below.alloc ?_ (by first | omega | (simp; done) | (simp; omega)) _ | with_reducible refine below_drewN ?_ _ | with_reducible refine Below.drew ?_))); exact World.news_of_block (blk_gr (Blk.drew (Blk.alloc (Blk.newc (w := w4) (cs' := ([⟨1, nm, ty, 1, n1, s1, .slice A1 m1 cp1, k2, n2, s2, .slice A2 m2 cp2⟩].flatMap fsRow).toArray) rfl rfl) _)) hgr5 (by omega)); (first | omega | (simp; done) | (simp only [List.length_cons, List.length_nil, List.length_append]; omega) | (simp; omega)); (first | omega | (simp only [World.size_alloc, World.size_drew]; omega)); intro g6 cap6 w6 hG6 hgr6 hat6; have hg6 := hG6.lt (b := g6) rfl; have hz6 := hgr6.size; (try simp at hz6))
            | fail)
        all_goals
          have hbx : Below w4.heap.size w4 w6 := by (repeat (first | with_reducible assumption | with_reducible exact Below.refl _ _ | with_reducible refine Below.setCell ?_ (by first | omega | (simp; done) | (simp; omega)) _ | with_reducible refine Below.alloc ?_ (by first | omega | (simp; done) | (simp; omega)) _ | with_reducible refine below_drewN ?_ _ | with_reducible refine Below.drew ?_ | with_reducible refine below_app ?_ hgr5 (by intro q hq; simp [Value.ownBlock] at hq; omega) (by first | omega | (simp; done) | (simp; omega)) | with_reducible refine below_app ?_ hgr6 (by intro q hq; simp [Value.ownBlock] at hq; omega) (by first | omega | (simp; done) | (simp; omega))))
          have HZ := Lib.hid (And.intro hG6 hbx)
          clear hG6 hbx hgr5 hgr6 hat5 hat6 hG5
          go_wp2_with fail
          go_meet
          have hB7 := hB4.ext HZ.out.2
          have EL : ElF W.heap.size w6 fl l := ⟨HPP.out.1, (HPP.out.2.2 _ hB7).2⟩
          have hrow := DrV.drf (k := 1) (HRW.out.2.2.1 w6 hB7).1 (HRW.out.2.2.1 w6 hB7).2 HRW.out.2.2.2.1 HRW.out.2.2.2.2.1
          have hdup : dup l km ⟨1, nm, ty, x1, x2⟩ = l.take (km + 1) ++ [⟨1, nm, ty, x1, x2⟩] := by unfold dup; rw [List.drop_eq_nil_of_le (by have := HLL.out; omega), List.append_nil]
          rw [hdup]
          exact ⟨g6, _, cap6, rfl, ElF.drs (HZ.out.1.less hWb) ((EL.take (km + 1)).app (ElF.one hrow)), HZ.out.2⟩
  case rest =>
    obtain ⟨gq, nq, capq, rfl, hSq, hbq⟩ := hcut
    obtain ⟨wq, hwq⟩ : ∃ x, x = wc := ⟨_, rfl⟩
    subst hwq
    have hBq := hB4.ext hbq
    have hLN : LetNum ⟨1, nm, ty, x1, x2⟩ := ⟨prog_form HPO.out.1 _ (List.mem_of_getElem? HRW.out.1), rfl, HRW.out.2.2.2.2.2.symm⟩
    have RQ := Lib.hid (fun (w' : World) (h : Below wq.heap.size wq w') => imProgRun_any _ _ w' (hSq.smsF h) (HEN.out.1.ext (HEN.out.2.ext (hBq.ext h))))
    have TQ := Lib.hid (fun (w' : World) (h : Below wq.heap.size wq w') => imProgType_any _ _ w' (hSq.smsF h) (HEN.out.1.ext (HEN.out.2.ext (hBq.ext h))))
    rw [prRun_dup HPO.out.1 HRW.out.1 h16 hLN, HPO.out.2] at RQ
    have HTY := Lib.hid (prTyp_dup HPO.out.1 HRW.out.1 h16 hLN)
    have HRG := Lib.hid (prTyp_range HPO.out.1)
    clear hSq KB hLN
    generalize prTyp (dup l km ⟨1, nm, ty, x1, x2⟩) = mq at *
    generalize prTyp l = nq2 at *
    go_wp2_with fail
    refine (RQ.out _ (Below.refl _ _)).mono ?_
    rintro r w6 ⟨o6, rfl, hF6, hb6⟩
    have hB6 := hBq.ext hb6
    have HO6 := Lib.hid hF6.sl
    have HO2 := Lib.hid ((((HF2.out.ext hb3).ext hb4).ext hbq).ext hb6).sl
    obtain ⟨X6, x6, rfl, hxc6, hxm6⟩ := hF6.sl.val
    clear hF6
    go_wp2_with fail
    go_loopg [14] out.length (fun k i wy => ∃ j : Nat, k = out.length - j ∧ j ≤ out.length ∧ i = .int .i64 j ∧ Below w6.heap.size w6 wy)
    case atStart => exact ⟨0, by omega, by omega, rfl, Below.refl _ _⟩
    case round =>
      obtain ⟨j6, hk6, hj6, rfl, hbl7⟩ := hrel
      have HK6 := Lib.hid hk6
      clear hk6
      by_cases hlt6 : j6 < out.length
      · have hdl6 : decide (((j6 : Nat) : Int) < ((out.length : Nat) : Int)) = true := by rw [decide_eq_true_eq]; omega
        obtain ⟨qa, pa, x, rfl, hqa, hgx, fx⟩ := num_at HO6.out hlt6
        obtain ⟨qb, pb, y, rfl, hqb, hgy, fy⟩ := num_at HO2.out hlt6
        obtain rfl : x = y := Option.some.inj (hgx.symm.trans hgy)
        have gx := fx ⟨_, hbl7⟩
        have gy := fy ⟨_, hbl7⟩
        clear fx fy hgx hgy
        go_wp2_with fail
        go_quiet (fail)
        go_wp2_with fail
        go_roundg (out.length - (j6 + 1))
        case measure => have := HK6.out; omega
        case rel => exact ⟨j6 + 1, rfl, by omega, by go_num, below_drewN hbl7 _⟩
      · have hdl6 : decide (((j6 : Nat) : Int) < ((out.length : Nat) : Int)) = false := by rw [decide_eq_false_iff_not]; omega
        clear HK6
        have hB7 := hB6.ext hbl7
        go_wp2_with fail
        refine (IT.out _ hB7).mono ?_
        rintro r w8 ⟨rfl, hb8⟩
        go_wp2_with fail
        refine (TQ.out _ (hb6.ext (hbl7.ext hb8))).mono ?_
        rintro r w9 ⟨rfl, hb9⟩
        have hB9 := (hB7.ext hb8).ext hb9
        rcases HTY.out with ⟨rfl, rfl⟩ | ⟨e1, e2, e3⟩ | ⟨e1, e4⟩
        · go_wp2_with fail
          go_ret
          exact ⟨rfl, HW.out.ext hB9⟩
        · have g1 : (nq2 == -1) = false := by simp; omega
          have g2 : decide (0 ≤ nq2) = true := by rw [decide_eq_true_eq]; exact e1
          have g3 : decide (nq2 ≤ (km : Int)) = true := by rw [decide_eq_true_eq]; exact e2
          have g4 : (mq == nq2) = true := by simp; exact e3
          go_wp2_with fail
          go_ret
          exact ⟨rfl, HW.out.ext hB9⟩
        · have e3 : nq2 ≤ 100 := by have := HRG.out; omega
          have g1 : (nq2 == -1) = false := by simp; omega
          have g2 : decide (0 ≤ nq2) = true := by rw [decide_eq_true_eq]; omega
          have g3 : decide (nq2 ≤ (km : Int)) = false := by rw [decide_eq_false_iff_not]; omega
          have g4 : decide ((km : Int) < nq2) = true := by rw [decide_eq_true_eq]; exact e1
          have g5 : IntKind.i64.wrap (nq2 + 1) = nq2 + 1 := by rw [IntKind.wrap_i64]; omega
          have g6 : (mq == nq2 + 1) = true := by simp; exact e4
          go_wp2_with fail
          go_ret
          exact ⟨rfl, HW.out.ext hB9⟩
end Go.Proofs.YtdobcfekjmobhaaGreatDoor
