
/- The law FnStmtSame: the walk. -/
import Derived.Test.YtppefinpekhbeaaGreatDoorDwM
import Derived.Test.YtppefinpekhbeaaGreatDoorPsS
namespace Go.Proofs.YtppefinpekhbeaaGreatDoor
set_option maxRecDepth 100000
set_option linter.unusedSimpArgs false
set_option linter.unusedVariables false
open Go.RowKit
attribute [local go_sem] bs_toList bs_get bs_size

theorem smText_sm {t : SE} (h : t.form) : smText t.sm = t.text := by
  show joinL (smWords t.sm) = joinL t.words
  rw [smWords_se h]
/-- lines that are ok are one just if their texts are -/
theorem smText_same {a b : Sm} (ha : smOkB a = true) (hb : smOkB b = true) : (smText a == smText b) = decide (a = b) := by
  obtain ⟨s, rfl, hs⟩ := smOkB_iff.1 ha
  obtain ⟨t, rfl, ht⟩ := smOkB_iff.1 hb
  rw [smText_sm hs.1, smText_sm ht.1]
  by_cases h : s.sm = t.sm
  · rw [decide_eq_true h]
    have : s = t := SE.sm_inj h
    subst this
    simp
  · rw [decide_eq_false h, beq_eq_false_iff_ne]
    exact fun e => h (by rw [text_inj hs.1 ht.1 e])
theorem cS_cells {w : World} {b : Nat} {k : Int} {nm ty : Bytes} {k1 n1 : Int} {s1 : Bytes} {v1 : Value} {k2 n2 : Int} {s2 : Bytes} {v2 : Value} (h : Blk w b 27 (cS k nm ty k1 n1 s1 v1 k2 n2 s2 v2)) :
    (∀ y : Later w.heap.size w, y.w'.cell? ⟨b, 0, none⟩ = some (.int .i64 k)) ∧ (∀ y : Later w.heap.size w, y.w'.cell? ⟨b, 1, none⟩ = some (.string (bs nm))) ∧ (∀ y : Later w.heap.size w, y.w'.cell? ⟨b, 2, none⟩ = some (.string (bs ty))) ∧ (∀ y : Later w.heap.size w, y.w'.cell? ⟨b, 3, none⟩ = some (.int .i64 k1)) ∧ (∀ y : Later w.heap.size w, y.w'.cell? ⟨b, 4, none⟩ = some (.int .i64 n1)) ∧ (∀ y : Later w.heap.size w, y.w'.cell? ⟨b, 5, none⟩ = some (.string (bs s1))) ∧ (∀ y : Later w.heap.size w, y.w'.cell? ⟨b, 6, none⟩ = some v1) ∧ (∀ y : Later w.heap.size w, y.w'.cell? ⟨b, 7, none⟩ = some (.int .i64 k2)) ∧ (∀ y : Later w.heap.size w, y.w'.cell? ⟨b, 8, none⟩ = some (.int .i64 n2)) ∧ (∀ y : Later w.heap.size w, y.w'.cell? ⟨b, 9, none⟩ = some (.string (bs s2))) ∧ (∀ y : Later w.heap.size w, y.w'.cell? ⟨b, 10, none⟩ = some v2) := by
  have k : ∀ (i : Nat) (v : Value), (cS k nm ty k1 n1 s1 v1 k2 n2 s2 v2)[i]? = some v → ∀ y : Later w.heap.size w, y.w'.cell? ⟨b, i, none⟩ = some v := fun i v hv y => ((h.below y.ok h.lt).cell i).trans hv
  exact ⟨k 0 _ rfl, k 1 _ rfl, k 2 _ rfl, k 3 _ rfl, k 4 _ rfl, k 5 _ rfl, k 6 _ rfl, k 7 _ rfl, k 8 _ rfl, k 9 _ rfl, k 10 _ rfl⟩
set_option maxHeartbeats 4000000 in
theorem lawSSame (W : World) (v v2 : Value) (cl cl2 : List Int) (hv : CodeV W v cl) (hv2 : CodeV W v2 cl2) (hE : Env W) : Calls Tryz.prog 3 #[v, v2] W fun e w' => e = .returned (.bool true) ∧ Below W.heap.size W w' := by
  have DR := Lib.hid (drawSS_any v cl W hv)
  have DN := Lib.hid (fun (w' : World) (h : Below W.heap.size W w') => drawN_any v2 cl2 w' (hv2.later h))
  obtain ⟨A, c, rfl, hc, hm⟩ := hv.1.val
  obtain ⟨A2, c2, rfl, hc2, hm2⟩ := hv2.1.val
  clear hv hv2
  obtain ⟨b1, hb1⟩ : ∃ b, decide ((1048576 : Int) < ((cl.length : Nat) : Int)) = b := ⟨_, rfl⟩
  obtain ⟨b2, hb2⟩ : ∃ b, decide ((1048576 : Int) < ((cl2.length : Nat) : Int)) = b := ⟨_, rfl⟩
  cases b1
  rotate_left
  · go_enter Tryz.func3, Tryz.ntmps3
    go_wp2_with fail
    go_ret
    exact ⟨rfl, Below.refl _ _⟩
  cases b2
  rotate_left
  · go_enter Tryz.func3, Tryz.ntmps3
    go_wp2_with fail
    go_ret
    exact ⟨rfl, Below.refl _ _⟩
  go_enter Tryz.func3, Tryz.ntmps3
  go_wp2_with fail
  refine DR.out.mono ?_
  rintro r w1 ⟨ua, ub, sa, sb, rfl, hVa, hVb, hbw1⟩
  have hVa := hVa.less (Nat.zero_le _)
  have hVb := hVb.less (Nat.zero_le _)
  obtain ⟨k, nm, ty, k1, n1, s1, A1, m1, cp1, k2, n2, s2, A3, m2, cp2, x1, x2, rfl, rfl, hXa1, hXa2, hla1, hla2⟩ := hVa.form
  obtain ⟨k', nm', ty', k1', n1', s1', A1', m1', cp1', k2', n2', s2', A3', m2', cp2', x1', x2', rfl, rfl, hXb1, hXb2, hlb1, hlb2⟩ := hVb.form
  clear hXa1 hXa2 hla1 hla2 hXb1 hXb2 hlb1 hlb2 hb1 hb2
  have HVA := Lib.hid (And.intro hVa hVb)
  clear hVa hVb
  go_upto_region 4 with fail
  generalize hW3 : World.alloc (World.alloc w1 _) _ = w3
  have hb13 : Below w1.heap.size w1 w3 := by rw [← hW3]; (repeat (first | with_reducible assumption | with_reducible exact Below.refl _ _ | with_reducible refine Below.setCell ?_ (by first | omega | (simp; done) | (simp; omega)) _ | with_reducible refine Below.alloc ?_ (by first | omega | (simp; done) | (simp; omega)) _ | with_reducible refine below_drewN ?_ _ | with_reducible refine Below.drew ?_))
  have hB5 : Blk w3 w1.heap.size 27 (cS k nm ty k1 n1 s1 (.slice A1 m1 cp1) k2 n2 s2 (.slice A3 m2 cp2)) := by rw [← hW3]; exact (Blk.new _ _ _).alloc _
  have hB6 : Blk w3 (w1.heap.size + 1) 27 (cS k' nm' ty' k1' n1' s1' (.slice A1' m1' cp1') k2' n2' s2' (.slice A3' m2' cp2')) := by rw [← hW3]; exact Blk.new' (by simp)
  clear hW3
  go_wp2_with fail
  refine (DN.out _ (hbw1.ext hb13)).mono ?_
  rintro r w4 ⟨uc, sc, rfl, hVc, hb34⟩
  have hVc := hVc.less (Nat.zero_le _)
  obtain ⟨j, mm, tt, j1, o1, t1, D1, e1, f1, j2, o2, t2, D2, e2, f2, z1, z2, rfl, rfl, hXc1, hXc2, hlc1, hlc2⟩ := hVc.form
  clear hXc1 hXc2 hlc1 hlc2
  have hB5 := hB5.below hb34 hB5.lt
  have hB6 := hB6.below hb34 hB6.lt
  have hb14 := hb13.ext hb34
  go_upto_region 5 with fail
  generalize hWB : World.alloc w4 _ = wB
  have hb4B : Below w4.heap.size w4 wB := by rw [← hWB]; (repeat (first | with_reducible assumption | with_reducible exact Below.refl _ _ | with_reducible refine Below.setCell ?_ (by first | omega | (simp; done) | (simp; omega)) _ | with_reducible refine Below.alloc ?_ (by first | omega | (simp; done) | (simp; omega)) _ | with_reducible refine below_drewN ?_ _ | with_reducible refine Below.drew ?_))
  have hB7 : Blk wB w4.heap.size 27 (cS j mm tt j1 o1 t1 (.slice D1 e1 f1) j2 o2 t2 (.slice D2 e2 f2)) := by rw [← hWB]; exact Blk.new _ _ _
  have hB5 := hB5.below hb4B hB5.lt
  have hB6 := hB6.below hb4B hB6.lt
  have hb1B := hb14.ext hb4B
  clear hWB
  have hbWB := hbw1.ext hb1B
  have VA : ∀ w' : World, Below wB.heap.size wB w' → SmV w' w'.heap.size (.agg #[.int .i64 k, .string (bs nm), .string (bs ty), .int .i64 k1, .int .i64 n1, .string (bs s1), .slice A1 m1 cp1, .int .i64 k2, .int .i64 n2, .string (bs s2), .slice A3 m2 cp2]) ⟨k, nm, ty, x1, x2⟩ := fun w' h => HVA.out.1.smvF (hb1B.ext h)
  have VB : ∀ w' : World, Below wB.heap.size wB w' → SmV w' w'.heap.size (.agg #[.int .i64 k', .string (bs nm'), .string (bs ty'), .int .i64 k1', .int .i64 n1', .string (bs s1'), .slice A1' m1' cp1', .int .i64 k2', .int .i64 n2', .string (bs s2'), .slice A3' m2' cp2']) ⟨k', nm', ty', x1', x2'⟩ := fun w' h => HVA.out.2.smvF (hb1B.ext h)
  have VC : ∀ w' : World, Below wB.heap.size wB w' → SmV w' w'.heap.size (.agg #[.int .i64 j, .string (bs mm), .string (bs tt), .int .i64 j1, .int .i64 o1, .string (bs t1), .slice D1 e1 f1, .int .i64 j2, .int .i64 o2, .string (bs t2), .slice D2 e2 f2]) ⟨j, mm, tt, z1, z2⟩ := fun w' h => hVc.smvF (hb4B.ext h)
  have SI1 := Lib.hid (fun (y : Later wB.heap.size wB) => imStmtSame_any _ _ _ _ y.w' (VA _ y.ok) (VB _ y.ok))
  have SP1 := Lib.hid (fun (y : Later wB.heap.size wB) => spStmtSame_any _ _ _ _ y.w' (VA _ y.ok) (VB _ y.ok))
  have SI2 := Lib.hid (fun (y : Later wB.heap.size wB) => imStmtSame_any _ _ _ _ y.w' (VA _ y.ok) (VC _ y.ok))
  have SI3 := Lib.hid (fun (y : Later wB.heap.size wB) => imStmtSame_any _ _ _ _ y.w' (VC _ y.ok) (VA _ y.ok))
  have OA := Lib.hid (fun (y : Later wB.heap.size wB) => spStmtOk_any _ _ y.w' (VA _ y.ok))
  have OB := Lib.hid (fun (y : Later wB.heap.size wB) => spStmtOk_any _ _ y.w' (VB _ y.ok))
  have OC := Lib.hid (fun (y : Later wB.heap.size wB) => spStmtOk_any _ _ y.w' (VC _ y.ok))
  have TA := Lib.hid (fun (y : Later wB.heap.size wB) => imStmtText_any _ _ y.w' (VA _ y.ok) (hE.ext (hbWB.ext y.ok)))
  have TB := Lib.hid (fun (y : Later wB.heap.size wB) => imStmtText_any _ _ y.w' (VB _ y.ok) (hE.ext (hbWB.ext y.ok)))
  have TC := Lib.hid (fun (y : Later wB.heap.size wB) => imStmtText_any _ _ y.w' (VC _ y.ok) (hE.ext (hbWB.ext y.ok)))
  have hsym : decide ((⟨j, mm, tt, z1, z2⟩ : Sm) = ⟨k, nm, ty, x1, x2⟩) = decide ((⟨k, nm, ty, x1, x2⟩ : Sm) = ⟨j, mm, tt, z1, z2⟩) := by
    by_cases h : (⟨k, nm, ty, x1, x2⟩ : Sm) = ⟨j, mm, tt, z1, z2⟩
    · rw [decide_eq_true h, decide_eq_true h.symm]
    · rw [decide_eq_false h, decide_eq_false (fun e => h e.symm)]
  rw [hsym] at SI3
  have HAB := Lib.hid (fun (ha : smOkB ⟨k, nm, ty, x1, x2⟩ = true) (hb : smOkB ⟨k', nm', ty', x1', x2'⟩ = true) => smText_same ha hb)
  have HAC := Lib.hid (fun (ha : smOkB ⟨k, nm, ty, x1, x2⟩ = true) (hb : smOkB ⟨j, mm, tt, z1, z2⟩ = true) => smText_same ha hb)
  clear hsym VA VB VC hVc HVA
  generalize decide ((⟨k, nm, ty, x1, x2⟩ : Sm) = ⟨k', nm', ty', x1', x2'⟩) = dab at *
  generalize decide ((⟨k, nm, ty, x1, x2⟩ : Sm) = ⟨j, mm, tt, z1, z2⟩) = dac at *
  generalize smOkB ⟨k, nm, ty, x1, x2⟩ = oa at *
  generalize smOkB ⟨k', nm', ty', x1', x2'⟩ = ob at *
  generalize smOkB ⟨j, mm, tt, z1, z2⟩ = oc at *
  generalize smText ⟨k, nm, ty, x1, x2⟩ = ta at *
  generalize smText ⟨k', nm', ty', x1', x2'⟩ = tb at *
  generalize smText ⟨j, mm, tt, z1, z2⟩ = tc at *
  have hdd1 : (dab != dab) = false := by simp
  have hdd2 : (dac != dac) = false := by simp
  obtain ⟨a0, a1, a2, a3, a4, a5, a6, a7, a8, a9, a10⟩ := cS_cells hB5
  obtain ⟨b0, b1, b2, b3, b4, b5, b6, b7, b8, b9, b10⟩ := cS_cells hB6
  obtain ⟨c0, c1, c2', c3, c4, c5, c6, c7, c8, c9, c10⟩ := cS_cells hB7
  clear hB5 hB6 hB7
  refine wp_region_later (Below.refl wB.heap.size wB) (by kernel_rfl) (by kernel_rfl) ?_
  repeat (go_big_quiet_step ((first
    | (go_at_call 10; first | with_reducible exact later_call2 SI1.out | with_reducible exact later_call2 SI2.out | with_reducible exact later_call2 SI3.out)
    | (go_at_call 11; with_reducible exact later_call2 SP1.out))))
  refine wpQuiet_nil ?_
  rintro _ ⟨y, rfl⟩
  have hy := y.ok
  have a0' := a0 y; have a1' := a1 y; have a2' := a2 y; have a3' := a3 y; have a4' := a4 y; have a5' := a5 y; have a6' := a6 y; have a7' := a7 y; have a8' := a8 y; have a9' := a9 y; have a10' := a10 y
  go_wp2_with fail
  refine (OA.out y).mono ?_
  rintro r wc ⟨rfl, hbc⟩
  have hBc := hy.ext hbc
  clear a0' a1' a2' a3' a4' a5' a6' a7' a8' a9' a10'
  cases oa
  · go_wp2_with fail
    go_ret
    exact ⟨rfl, hbWB.ext hBc⟩
  have b0' := b0 ⟨wc, hBc⟩; have b1' := b1 ⟨wc, hBc⟩; have b2' := b2 ⟨wc, hBc⟩; have b3' := b3 ⟨wc, hBc⟩; have b4' := b4 ⟨wc, hBc⟩; have b5' := b5 ⟨wc, hBc⟩; have b6' := b6 ⟨wc, hBc⟩; have b7' := b7 ⟨wc, hBc⟩; have b8' := b8 ⟨wc, hBc⟩; have b9' := b9 ⟨wc, hBc⟩; have b10' := b10 ⟨wc, hBc⟩
  go_wp2_with fail
  refine (OB.out ⟨wc, hBc⟩).mono ?_
  rintro r wd ⟨rfl, hbd⟩
  have hBd := hBc.ext hbd
  clear b0' b1' b2' b3' b4' b5' b6' b7' b8' b9' b10'
  cases ob
  · go_wp2_with fail
    go_ret
    exact ⟨rfl, hbWB.ext hBd⟩
  have c0' := c0 ⟨wd, hBd⟩; have c1' := c1 ⟨wd, hBd⟩; have c2'' := c2' ⟨wd, hBd⟩; have c3' := c3 ⟨wd, hBd⟩; have c4' := c4 ⟨wd, hBd⟩; have c5' := c5 ⟨wd, hBd⟩; have c6' := c6 ⟨wd, hBd⟩; have c7' := c7 ⟨wd, hBd⟩; have c8' := c8 ⟨wd, hBd⟩; have c9' := c9 ⟨wd, hBd⟩; have c10' := c10 ⟨wd, hBd⟩
  go_wp2_with fail
  refine (OC.out ⟨wd, hBd⟩).mono ?_
  rintro r we ⟨rfl, hbe⟩
  have hBe := hBd.ext hbe
  clear c0' c1' c2'' c3' c4' c5' c6' c7' c8' c9' c10'
  cases oc
  · go_wp2_with fail
    go_ret
    exact ⟨rfl, hbWB.ext hBe⟩
  have hab := HAB.out (by trivial) (by trivial)
  have hac := HAC.out (by trivial) (by trivial)
  simp only [if_true] at TA TB TC
  clear SI3 SP1 OA OB OC HAB HAC
  go_wp2_with fail
  refine wp_region_later hBe (by kernel_rfl) (by kernel_rfl) ?_
  repeat (go_big_quiet_step ((first
    | (go_at_call 10; first | with_reducible exact later_call2 SI1.out | with_reducible exact later_call2 SI2.out)
    | (go_at_call 13; first | with_reducible exact later_call2 TA.out | with_reducible exact later_call2 TB.out | with_reducible exact later_call2 TC.out))))
  refine wpQuiet_nil ?_
  rintro _ ⟨z, rfl⟩
  have hz := z.ok
  go_wp2_with fail
  go_ret
  exact ⟨rfl, hbWB.ext hz⟩
end Go.Proofs.YtppefinpekhbeaaGreatDoor
