/- The law FnProgType: the walk. -/
import Derived.Test.YtgakjhaepdigpaaGreatDoorDwPQ
import Derived.Test.YtgakjhaepdigpaaGreatDoorZn4
import Derived.Test.YtgakjhaepdigpaaGreatDoorRunI
import Derived.Test.YtgakjhaepdigpaaGreatDoorImSs
import Derived.Test.YtgakjhaepdigpaaGreatDoorZm11
import Derived.Deep.RegionLaw
import Derived.Deep.RegionHeld3
import Derived.Test.YtgakjhaepdigpaaGreatDoorStOk
namespace Go.Proofs.YtgakjhaepdigpaaGreatDoor
set_option maxRecDepth 100000
set_option linter.unusedSimpArgs false
set_option linter.unusedVariables false
open Go.RowKit
attribute [local go_sem] bs_toList bs_get bs_size

theorem DrS.smsF {lo : Nat} {w w' : World} {u : Value} {l : List Sm} (h : DrS lo w u l) (hb : Below w.heap.size w w') : SmS w' w'.heap.size u l := (h.sms.keep hb (Nat.le_refl _)).more hb.size
theorem type_facts (l : List Sm) : (progOkB l = false ∧ prTyp l = -2 ∧ prRun l = ([], false)) ∨ (progOkB l = true ∧ prTyp l = -1 ∧ prRun l = ((prRun l).1, true) ∧ 1 ≤ l.length) ∨
    ∃ k : Nat, progOkB l = true ∧ prTyp l = k ∧ k < l.length ∧ (0 < k → prTyp (l.take k) = -1) := by
  cases h : progOkB l with
  | false => exact .inl ⟨rfl, prTyp_bad h, prRun_bad h⟩
  | true =>
    right
    rcases prTyp_range h with h1 | ⟨h1, h2⟩
    · exact .inl ⟨rfl, h1, by rw [← prRun_of_prTyp h h1], (progOkB_iff.1 h).2.1⟩
    · obtain ⟨k, hk⟩ := Int.eq_ofNat_of_zero_le h1
      have hk2 : prTyp l = (k : Int) := hk
      exact .inr ⟨k, rfl, hk2, by omega, fun h0 => prTyp_take h hk2 h0⟩
end Go.Proofs.YtgakjhaepdigpaaGreatDoor


/- The law FnStmtBent: the walk. -/
namespace Go.Proofs.YtgakjhaepdigpaaGreatDoor
set_option maxRecDepth 100000
set_option linter.unusedSimpArgs false
set_option linter.unusedVariables false
open Go.RowKit
attribute [local go_sem] bs_toList bs_get bs_size

theorem DrV.ext {lo : Nat} {w w' : World} {v : Value} {s : Sm} (h : DrV lo w v s) (hb : Below w.heap.size w w') : DrV lo w' v s :=
  h.grown (r := none) ⟨hb.os, hb.tape, hb.output, hb.size, fun k hk _ => hb.block k hk⟩ (fun q e => by cases e)
theorem DrV.smvF {lo : Nat} {w w' : World} {v : Value} {s : Sm} (h : DrV lo w v s) (hb : Below w.heap.size w w') : SmV w' w'.heap.size v s := (h.ext hb).smv
theorem bent_let {k : Int} {ty : Bytes} {a b : Ex} : smOkB ⟨k, [108, 101, 116], ty, a, b⟩ = false := smOkB_of_form (formSB_let ⟨k, [], ty, a, b⟩)
theorem bent_text {k : Int} {nm : Bytes} {a b : Ex} : smOkB ⟨k, nm, [116, 101, 120, 116], a, b⟩ = false := smOkB_of_form (formSB_text (s := ⟨k, nm, [], a, b⟩) (by decide) (by decide))
theorem bent_kind {nm ty : Bytes} {a b : Ex} : smOkB ⟨4, nm, ty, a, b⟩ = false := smOkB_of_form (formSB_kind (s := ⟨0, nm, ty, a, b⟩) (by omega))
theorem bent_then {k : Int} {nm ty : Bytes} {a : Ex} : smOkB ⟨k, nm, ty, a, .mk 1 (-1) [] []⟩ = false := sm_then_neg ⟨k, nm, ty, a, a⟩
end Go.Proofs.YtgakjhaepdigpaaGreatDoor


/- Statements' texts that are drawn, one in two torn: the drawers. -/
namespace Go.Proofs.YtgakjhaepdigpaaGreatDoor
set_option maxRecDepth 100000
set_option linter.unusedSimpArgs false
set_option linter.unusedVariables false
open Go.RowKit
attribute [local go_sem] bs_toList bs_get bs_size

set_option maxHeartbeats 1000000 in
theorem drawSt_any (v : Value) (l : List Int) (w : World) (hv : CodeV w v l) : Calls Tryz.prog 17 #[v] w fun e w' => ∃ (u : Value) (s : Sm), e = .returned u ∧ DrV w.heap.size w' u s ∧ Below w.heap.size w w' := by
  have OP := Lib.hid (fun (w' : World) (h : Below w.heap.size w w') => l12Open_any v l w' ⟨(hv.1.below h (Nat.le_refl _)).more h.size, hv.2⟩)
  obtain ⟨A, c, rfl, hc, hm⟩ := hv.1.val
  clear hv
  go_enter Tryz.func17, Tryz.ntmps17
  go_upto_region 1 with fail
  generalize hW : World.alloc w _ = W1
  have hbW : Below w.heap.size w W1 := by rw [← hW]; (repeat (first | with_reducible assumption | with_reducible exact Below.refl _ _ | with_reducible refine Below.setCell ?_ (by first | omega | (simp; done) | (simp; omega)) _ | with_reducible refine Below.alloc ?_ (by first | omega | (simp; done) | (simp; omega)) _ | with_reducible refine below_drewN ?_ _ | with_reducible refine Below.drew ?_))
  have hB1 : Blk W1 w.heap.size 26 zS := by rw [← hW]; exact Blk.new _ _ _
  clear hW
  go_wp2_with fail
  refine (OP.out _ hbW).mono ?_
  rintro r w1 ⟨rfl, hR, hb1⟩
  go_wp2_with fail
  refine (l5Bent_any _ _ _ hR (by omega)).mono ?_
  rintro r w2 ⟨u, s, p2, rfl, hV, hNN, hR2, hp2, hg2⟩
  have hz := hb1.size
  have hr1 := hR.lt
  have hlt := hB1.lt
  have hB2 := blk_gr (hB1.below hb1 hlt) hg2 (by omega)
  have hb02 : Below w.heap.size w w2 := (hbW.ext hb1).trans ((below_of_grown hg2 (Nat.le_refl _) hr1).mono (by have := hbW.size; omega))
  obtain ⟨k, nm, ty, k1, n1, s1, A1, m1, cp1, k2, n2, s2, A2, m2, cp2, x1, x2, rfl, rfl, hX1, hX2, hl1, hl2⟩ := (hV.less (lo' := w.heap.size + 1) (by omega)).form
  have z0 := (hB2).frozen 0; have z1 := (hB2).frozen 1; have z2 := (hB2).frozen 2; have z3 := (hB2).frozen 3; have z4 := (hB2).frozen 4; have z5 := (hB2).frozen 5; have z6 := (hB2).frozen 6; have z7 := (hB2).frozen 7; have z8 := (hB2).frozen 8; have z9 := (hB2).frozen 9; have z10 := (hB2).frozen 10
  have b0 := (hB2).cell 0; have b1 := (hB2).cell 1; have b2 := (hB2).cell 2; have b3 := (hB2).cell 3; have b4 := (hB2).cell 4; have b5 := (hB2).cell 5; have b6 := (hB2).cell 6; have b7 := (hB2).cell 7; have b8 := (hB2).cell 8; have b9 := (hB2).cell 9; have b10 := (hB2).cell 10
  simp [zS] at b0 b1 b2 b3 b4 b5 b6 b7 b8 b9 b10
  have HX := Lib.hid (And.intro hX1 (And.intro hX2 (And.intro hl1 (And.intro hl2 hb02))))
  clear hX1 hX2 hV hB2 hR2 hg2 hR hB1 hb02 hNN
  go_wp2_with fail
  refine bodyPost_ret (v := .agg (cS k nm ty k1 n1 s1 (.slice A1 m1 cp1) k2 n2 s2 (.slice A2 m2 cp2))) (by simp [results, Tryz.results17, go_sem, cS, bs_nil, *]) rfl ?_
  obtain ⟨hX1, hX2, hl1, hl2, hb02⟩ := HX.out
  exact ⟨_, ⟨k, nm, ty, x1, x2⟩, rfl, DrV.of ((hX1.grown (r := some w.heap.size) (by (repeat (first | with_reducible assumption | with_reducible exact grown_rfl _ _ | with_reducible refine grown_st ?_ _ _ | with_reducible refine grown_al ?_ _))) (fun q e => by have := Option.some.inj e; omega)).less (by omega)) ((hX2.grown (r := some w.heap.size) (by (repeat (first | with_reducible assumption | with_reducible exact grown_rfl _ _ | with_reducible refine grown_st ?_ _ _ | with_reducible refine grown_al ?_ _))) (fun q e => by have := Option.some.inj e; omega)).less (by omega)) hl1 hl2, by (repeat (first | with_reducible assumption | with_reducible exact Below.refl _ _ | with_reducible refine Below.setCell ?_ (by first | omega | (simp; done) | (simp; omega)) _ | with_reducible refine Below.alloc ?_ (by first | omega | (simp; done) | (simp; omega)) _ | with_reducible refine below_drewN ?_ _ | with_reducible refine Below.drew ?_ | with_reducible refine Below.trans ?_ (Below.mono hb02 (by first | omega | (simp; done) | (simp; omega)))))⟩
theorem bl_grownX {w w' : World} (h : Below w.heap.size w w') (r : Option Nat) : w.grownBy w' r := ⟨h.os, h.tape, h.output, h.size, fun k hk _ => h.block k hk⟩
def DrewLT (w : World) (e : Ending) (w' : World) : Prop := ∃ s : Bytes, e = .returned (.string (bs s)) ∧ s.length ≤ 100000000 ∧ Below w.heap.size w w'
def DrewLn (rb p : Nat) (w : World) (e : Ending) (w' : World) : Prop := ∃ (s : Bytes) (p' : Nat), e = .returned (.string (bs s)) ∧ s.length ≤ 100000000 ∧ Rd w' rb p' ∧ p' ≤ p + 500 ∧ w.grownBy w' (some rb)
def tornSL : List Bytes := [[], [32], [49], [115, 97, 121, 32], [40], [120], [63], [58]]
def tornSA : Array Value := #[.string ⟨#[]⟩, .string ⟨#[32]⟩, .string ⟨#[49]⟩, .string ⟨#[115, 97, 121, 32]⟩, .string ⟨#[40]⟩, .string ⟨#[120]⟩, .string ⟨#[63]⟩, .string ⟨#[58]⟩]
theorem tornS_of (rb p g : Nat) (w : World) (h : Rd w rb p) (hp : p ≤ 1000000) (hg : g ≠ rb) (hb : Blk w g 9 tornSA) :
    Calls Tryz.prog 110 #[.pointer (some ⟨rb, 0, none⟩), .slice (some ⟨g, 0, none⟩) 8 8] w (PickedS rb p tornSL w) := of_any rb p g tornSL w h hp (by decide) (by decide) hg hb
theorem tornS_len {s : Bytes} (h : s ∈ tornSL) : s.length ≤ 4 := by simp [tornSL] at h; rcases h with rfl | rfl | rfl | rfl | rfl | rfl | rfl | rfl <;> simp
theorem tornS_form (tx s : Bytes) (i j k n : Nat) (h : tx.length ≤ 51200) (hs : s.length ≤ 4) : ∃ x : Bytes, (bs tx).extract i j ++ bs s ++ (bs tx).extract k n = bs x ∧ x.length ≤ 100000000 := by
  rw [bs_ext, bs_ext, bs_append, bs_append]
  refine ⟨_, rfl, ?_⟩
  simp only [List.length_append, List.length_take, List.length_drop]
  omega
set_option maxHeartbeats 2000000 in
theorem l5Torn_any (rb p : Nat) (w : World) (h : Rd w rb p) (hp : p + 500 ≤ 1000000) : Calls Tryz.prog 73 #[.pointer (some ⟨rb, 0, none⟩)] w (DrewLn rb p w) := by
  have hr1 := h.lt
  go_enter Tryz.func73, Tryz.ntmps73
  go_wp2_with fail
  refine (l5Bent_any _ _ _ h (by omega)).mono ?_
  rintro r w2 ⟨u, m, p2, rfl, hV, _, hR2, hp2, hg2⟩
  have TS := Lib.hid (spStmtText_any m _ w2 (hV.less (Nat.zero_le _)).smv)
  have htl : (if smOkB m = true then smText m else []).length ≤ 51200 := by
    split
    · rename_i hk
      rw [smOkB_form, Bool.and_eq_true] at hk
      have := smText_len hk.1
      omega
    · simp
  generalize (if smOkB m = true then smText m else []) = tx at *
  clear hV h
  go_wp2_with fail
  refine TS.out.mono ?_
  rintro r w3 ⟨rfl, hb3⟩
  have hR3 : Rd w3 rb p2 := hR2.grown (bl_grownX hb3 none) (fun q e => by cases e)
  have hbw3 := grown_tr hg2 (bl_grownX hb3 (some rb))
  clear hR2 hg2
  by_cases h0 : tx.length = 0
  · obtain rfl : tx = [] := List.length_eq_zero_iff.1 h0
    go_wp2_with fail
    go_ret
    exact ⟨[], _, rfl, by simp, hR3, by omega, hbw3⟩
  have hne0 : (((tx.length : Nat) : Int) == 0) = false := by rw [beq_eq_false_iff_ne]; omega
  go_wp2_with fail
  refine (pick_any _ _ 2 _ hR3 (by omega) (by omega) (by omega)).mono ?_
  rintro r w4 ⟨k4, rfl, hk4, hk4', hR4, hg4⟩
  have hbw4 := grown_tr hbw3 hg4
  clear hR3 hg4
  by_cases hk0 : k4 = 0
  · subst hk0
    go_wp2_with fail
    go_ret
    exact ⟨tx, _, rfl, by omega, hR4, by omega, hbw4⟩
  have hne4 : (k4 == 0) = false := by rw [beq_eq_false_iff_ne]; exact hk0
  go_wp2_with fail
  refine (pick_any _ _ tx.length _ hR4 (by omega) (by omega) (by omega)).mono ?_
  rintro r w5 ⟨k5, rfl, hk5, hk5', hR5, hg5⟩
  have hbw5 := grown_tr hbw4 hg5
  obtain ⟨k, rfl⟩ := Int.eq_ofNat_of_zero_le hk5
  have hr5 := hR5.lt
  have HX := Lib.hid (And.intro hbw5 hR5)
  clear hR4 hg5 hR5 hbw5 hk5 hbw4 hbw3 hb3 hne4 hk0 hne0
  have hkn : k < tx.length := by omega
  have hkl : k ≤ tx.length := by omega
  have d1 : decide (0 ≤ (k : Int)) = true := by simp
  have d2 : decide ((k : Int) ≤ (tx.length : Int)) = true := by rw [decide_eq_true_eq]; omega
  go_upto_region 5 with fail
  go_region_law
    (first
      | (go_simp; go_at_call 110; refine (tornS_of rb _ w5.heap.size (w5.alloc (.cells tornSA 9)) (HX.out.2.alloc _) (by omega) (by omega) (Blk.new _ _ _)).mono ?_; rintro r w6 ⟨s6, rfl, hs6, hR6, hg6⟩; have h56 : w5.grownBy w6 (some rb) := (by (repeat (first | with_reducible assumption | with_reducible exact grown_rfl _ _ | with_reducible refine grown_al ?_ _ | with_reducible refine grown_sn ?_ (by first | omega | (simp; done) | (simp; omega)) _ _ | with_reducible refine grown_dr ?_ | with_reducible refine grown_tr ?_ hg6))); have hs6l := tornS_len hs6; have hz6 : ¬ 9223372036854775807 < k + s6.length := (by omega))
      | (go_simp; go_at_call 110; refine (tornS_of rb _ w5.heap.size (w5.alloc (.cells tornSA 9)).drew (HX.out.2.alloc _).drew (by omega) (by omega) (Blk.new _ _ _).drew).mono ?_; rintro r w6 ⟨s6, rfl, hs6, hR6, hg6⟩; have h56 : w5.grownBy w6 (some rb) := (by (repeat (first | with_reducible assumption | with_reducible exact grown_rfl _ _ | with_reducible refine grown_al ?_ _ | with_reducible refine grown_sn ?_ (by first | omega | (simp; done) | (simp; omega)) _ _ | with_reducible refine grown_dr ?_ | with_reducible refine grown_tr ?_ hg6))); have hs6l := tornS_len hs6; have hz6 : ¬ 9223372036854775807 < k + s6.length := (by omega))
      | (go_simp; go_at_call 110; refine (tornS_of rb _ w5.heap.size (w5.drew.alloc (.cells tornSA 9)) (HX.out.2.drew.alloc _) (by omega) (by omega) (Blk.new _ _ _)).mono ?_; rintro r w6 ⟨s6, rfl, hs6, hR6, hg6⟩; have h56 : w5.grownBy w6 (some rb) := (by (repeat (first | with_reducible assumption | with_reducible exact grown_rfl _ _ | with_reducible refine grown_al ?_ _ | with_reducible refine grown_sn ?_ (by first | omega | (simp; done) | (simp; omega)) _ _ | with_reducible refine grown_dr ?_ | with_reducible refine grown_tr ?_ hg6))); have hs6l := tornS_len hs6; have hz6 : ¬ 9223372036854775807 < k + s6.length := (by omega))
      | (go_simp; go_at_call 109; refine (pick_any rb _ 2 w6 hR6 (by omega) (by omega) (by omega)).mono ?_; rintro r w7 ⟨k7, rfl, hk7, hk7', hR7, hg7⟩; obtain ⟨j, rfl⟩ := Int.eq_ofNat_of_zero_le hk7; have e1 : IntKind.i64.wrap ((k : Int) + (j : Int)) = ((k + j : Nat) : Int) := (by rw [IntKind.wrap_i64] <;> omega); have e2 : decide (((k + j : Nat) : Int) ≤ (tx.length : Int)) = true := (by rw [decide_eq_true_eq]; omega); have e4 : k + j ≤ tx.length := (by omega); have e3 : decide ((0 : Int) ≤ ((k + j : Nat) : Int)) = true := (by rw [decide_eq_true_eq]; omega); have hz7 : ¬ 9223372036854775807 < k + s6.length + (tx.length - (k + j)) := (by omega); have e5 : (0 : Int) ≤ (k : Int) + (j : Int) := (by omega); have e6 : (k : Int) + (j : Int) ≤ (tx.length : Int) := (by omega); have e7 : ((k : Int) + (j : Int)).toNat = k + j := (by omega); have HH := Lib.hid (And.intro hR7 (grown_tr h56 hg7)); clear hs6 hR6 hg6 h56 hR7 hg7)
      | fail)
  all_goals
    obtain ⟨x, hx, hxl⟩ := tornS_form tx s6 0 k (k + j) tx.length htl hs6l
    rw [hx]
    go_wp2_with fail
    go_ret
    exact ⟨x, _, rfl, hxl, HH.out.1, by omega, grown_tr HX.out.1 HH.out.2⟩
theorem drawStR_any (v : Value) (l : List Int) (w : World) (hv : CodeV w v l) : Calls Tryz.prog 23 #[v] w (DrewLT w) := by
  have OP := Lib.hid (l12Open_any v l w hv)
  obtain ⟨A, c, rfl, hc, hm⟩ := hv.1.val
  clear hv
  go_enter Tryz.func23, Tryz.ntmps23
  go_wp2_with fail
  refine OP.out.mono ?_
  rintro r w1 ⟨rfl, hR, hb1⟩
  go_wp2_with fail
  refine (l5Torn_any _ _ _ hR (by omega)).mono ?_
  rintro r w2 ⟨s, p2, rfl, hs, hR2, hp2, hg2⟩
  have hr1 := hR.lt
  have hz := hb1.size
  have HX := Lib.hid (hb1.trans (below_of_grown hg2 (Nat.le_refl _) hr1))
  clear hR2 hg2 hb1 hR
  go_wp2_with fail
  go_ret
  exact ⟨s, rfl, hs, HX.out⟩
end Go.Proofs.YtgakjhaepdigpaaGreatDoor
