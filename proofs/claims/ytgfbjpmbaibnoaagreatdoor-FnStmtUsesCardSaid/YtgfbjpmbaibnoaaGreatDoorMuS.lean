
/- The law FnStmtUses: the walk. -/
import Derived.Test.YtgfbjpmbaibnoaaGreatDoorDwM
import Derived.Test.YtgfbjpmbaibnoaaGreatDoorUseP
import Derived.Test.YtgfbjpmbaibnoaaGreatDoorPutW
import Derived.Test.YtgfbjpmbaibnoaaGreatDoorNmI
import Derived.Deep.RegionLaw
namespace Go.Proofs.YtgfbjpmbaibnoaaGreatDoor
set_option maxRecDepth 100000
set_option linter.unusedSimpArgs false
set_option linter.unusedVariables false
open Go.RowKit
attribute [local go_sem] bs_toList bs_get bs_size

theorem cS_at {w : World} {b : Nat} {k : Int} {nm ty : Bytes} {k1 n1 : Int} {s1 : Bytes} {v1 : Value} {k2 n2 : Int} {s2 : Bytes} {v2 : Value} (h : Blk w b 27 (cS k nm ty k1 n1 s1 v1 k2 n2 s2 v2)) :
    w.cell? ⟨b, 0, none⟩ = some (.int .i64 k) ∧ w.cell? ⟨b, 1, none⟩ = some (.string (bs nm)) ∧ w.cell? ⟨b, 2, none⟩ = some (.string (bs ty)) ∧ w.cell? ⟨b, 3, none⟩ = some (.int .i64 k1) ∧ w.cell? ⟨b, 4, none⟩ = some (.int .i64 n1) ∧ w.cell? ⟨b, 5, none⟩ = some (.string (bs s1)) ∧ w.cell? ⟨b, 6, none⟩ = some v1 ∧ w.cell? ⟨b, 7, none⟩ = some (.int .i64 k2) ∧ w.cell? ⟨b, 8, none⟩ = some (.int .i64 n2) ∧ w.cell? ⟨b, 9, none⟩ = some (.string (bs s2)) ∧ w.cell? ⟨b, 10, none⟩ = some v2 :=
  ⟨(h.cell 0).trans rfl, (h.cell 1).trans rfl, (h.cell 2).trans rfl, (h.cell 3).trans rfl, (h.cell 4).trans rfl, (h.cell 5).trans rfl, (h.cell 6).trans rfl, (h.cell 7).trans rfl, (h.cell 8).trans rfl, (h.cell 9).trans rfl, (h.cell 10).trans rfl⟩
theorem smv_of {w : World} {k k1 n1 k2 n2 : Int} {nm ty s1 s2 : Bytes} {v1 v2 : Value} {a b : Ex} (h1 : ExV w w.heap.size (.agg #[.int .i64 k1, .int .i64 n1, .string (bs s1), v1]) a) (h2 : ExV w w.heap.size (.agg #[.int .i64 k2, .int .i64 n2, .string (bs s2), v2]) b) (hn : nm.length ≤ 9223372036854775807) (ht : ty.length ≤ 9223372036854775807) :
    SmV w w.heap.size (.agg #[.int .i64 k, .string (bs nm), .string (bs ty), .int .i64 k1, .int .i64 n1, .string (bs s1), v1, .int .i64 k2, .int .i64 n2, .string (bs s2), v2]) ⟨k, nm, ty, a, b⟩ := by
  obtain ⟨kv, he, hs, hk⟩ := h1
  obtain ⟨kv', he', hs', hk'⟩ := h2
  simp at he he'
  obtain ⟨rfl, rfl, hss, rfl⟩ := he
  obtain ⟨rfl, rfl, hss', rfl⟩ := he'
  have e1 := bs_inj hss
  have e2 := bs_inj hss'
  subst e1 e2
  exact ⟨⟨k, nm, ty, a.kind, a.n, a.s, v1, b.kind, b.n, b.s, v2⟩, rfl, rfl, rfl, rfl, rfl, rfl, rfl, rfl, rfl, rfl, by rw [bs_size]; exact hn, by rw [bs_size]; exact ht, hs, hs', hk, hk'⟩
set_option maxRecDepth 100000 in
set_option maxHeartbeats 4000000 in
theorem lawSUses (W : World) (v : Value) (cl : List Int) (hv : CodeV W v cl) (hE : Env W) : Calls Tryz.prog 3 #[v] W fun e w' => e = .returned (.bool true) ∧ Below W.heap.size W w' := by
  have DR := Lib.hid (drawN_nw v cl W hv)
  obtain ⟨A, c, rfl, hc, hm⟩ := hv.1.val
  clear hv
  obtain ⟨b1, hb1⟩ : ∃ b, decide ((1048576 : Int) < ((cl.length : Nat) : Int)) = b := ⟨_, rfl⟩
  cases b1
  rotate_left
  · go_enter Tryz.func3, Tryz.ntmps3
    go_wp2_with fail
    go_ret
    exact ⟨rfl, Below.refl _ _⟩
  go_enter Tryz.func3, Tryz.ntmps3
  go_wp2_with fail
  refine DR.out.mono ?_
  rintro r w1 ⟨u, s, rfl, hV, hbw1, hN1, hN2⟩
  have hV := hV.less (Nat.zero_le _)
  have hform := hV.form
  have hMV := hV.smv
  have hrn := fun (h : smOkB s = true) (e : E) (he : s.ex = e.ex) => sm_ren h hN1 hN2 he
  have hex := sm_ex (s := s)
  have hth := sm_th (s := s)
  have hnl := smNm_len s
  have hnj := smNm_text s
  obtain ⟨nl, hnle⟩ : ∃ nl, nl = smNm s := ⟨_, rfl⟩
  obtain ⟨ok, hoke⟩ : ∃ ok, ok = smOkB s := ⟨_, rfl⟩
  rw [← hnle] at hnl hnj
  have HSM := Lib.hid (fun (w' : World) (h : Below w1.heap.size w1 w') => hMV.ext h)
  obtain ⟨k, nm, ty, k1, n1, s1, A1, m1, cp1, k2, n2, s2, A2, m2, cp2, xa, xb, rfl, rfl, hX1, hX2, hla, hlb⟩ := hform
  have HXA := Lib.hid (fun (w' : World) (h : Below w1.heap.size w1 w') => hX1.exv.ext h)
  have HXB := Lib.hid (fun (w' : World) (h : Below w1.heap.size w1 w') => hX2.exv.ext h)
  have HLN := Lib.hid (And.intro hla hlb)
  clear hV hMV DR hb1 hN1 hN2 hX1 hX2 hla hlb
  simp only at hrn hex hth
  have HNL := Lib.hid hnle
  have HOK := Lib.hid hoke
  have HRN := Lib.hid hrn
  have HEX := Lib.hid (And.intro hex hth)
  clear hnle hoke hrn hex hth
  have HJ := Lib.hid (show (joinL nl).length ≤ 100000000 by omega)
  clear hnj
  go_upto_region 4 with fail
  obtain ⟨w3, hW3⟩ : ∃ w3, w3 = w1.alloc (.cells (cS k nm ty k1 n1 s1 (.slice A1 m1 cp1) k2 n2 s2 (.slice A2 m2 cp2)) 27) := ⟨_, rfl⟩
  have hb13 : Below w1.heap.size w1 w3 := by rw [hW3]; (repeat (first | with_reducible assumption | with_reducible exact Below.refl _ _ | with_reducible refine Below.setCell ?_ (by first | omega | (simp; done) | (simp; omega)) _ | with_reducible refine Below.alloc ?_ (by first | omega | (simp; done) | (simp; omega)) _ | with_reducible refine below_drewN ?_ _ | with_reducible refine Below.drew ?_))
  have hB3 : Blk w3 w1.heap.size 27 (cS k nm ty k1 n1 s1 (.slice A1 m1 cp1) k2 n2 s2 (.slice A2 m2 cp2)) := by rw [hW3]; exact Blk.new _ _ _
  unfold cS at hW3
  rw [← hW3]
  have hbw3 := hbw1.ext hb13
  have IM3 := Lib.hid (imStmtNames_any _ _ w3 (HSM.out w3 hb13) (hE.ext hbw3))
  rw [← HNL.out] at IM3
  have HE := Lib.hid (fun (w' : World) (h : Below w3.heap.size w3 w') => hE.ext (hbw3.ext h))
  clear hW3 hE
  obtain ⟨y0, y1, y2, y3, y4, y5, y6, y7, y8, y9, y10⟩ := cS_at hB3
  go_wp2_with fail
  refine IM3.out.mono ?_
  rintro r w4 ⟨u4, rfl, hF4, hb34⟩
  have HF4 := Lib.hid (fun (w' : World) (h : Below w4.heap.size w4 w') => ((hF4.sl.ext h : SlB w' w'.heap.size u4 nl)))
  obtain ⟨A4, c4, rfl, hc4, hm4⟩ := hF4.sl.val
  clear hF4 IM3 y0 y1 y2 y3 y4 y5 y6 y7 y8 y9 y10
  have hB4 := hB3.below hb34 hB3.lt
  have hlt4 := hB4.lt
  have T1 := Lib.hid (fun (w' : World) (h : Below w4.heap.size w4 w') => imTokText_any nl _ w' (HF4.out w' h) HJ.out (by omega))
  have SP := Lib.hid (fun (w' : World) (h : Below w4.heap.size w4 w') => spStmtNames_any _ _ w' (HSM.out w' ((hb13.ext hb34).ext h)))
  have SO := Lib.hid (fun (w' : World) (h : Below w4.heap.size w4 w') => spStmtOk_any _ _ w' (HSM.out w' ((hb13.ext hb34).ext h)))
  rw [← HNL.out] at SP
  rw [← HOK.out] at SO
  have KB := Lib.hid (fun (w' : World) (h : Below w4.heap.size w4 w') => cS_at (hB4.below h hlt4))
  have hne : (joinL nl != joinL nl) = false := by simp
  have hee : (joinL nl == joinL nl) = true := by simp
  have hbw4 := hbw3.ext hb34
  obtain ⟨y0, y1, y2, y3, y4, y5, y6, y7, y8, y9, y10⟩ := KB.out w4 (Below.refl _ _)
  go_upto_region 5 with fail
  cases ok
  · first
      | (go_region_law
      (first
        | (go_simp; go_at_call 15; refine (T1.out _ (by (repeat (first | with_reducible assumption | with_reducible exact Below.refl _ _ | with_reducible refine Below.setCell ?_ (by first | omega | (simp; done) | (simp; omega)) _ | with_reducible refine Below.alloc ?_ (by first | omega | (simp; done) | (simp; omega)) _ | with_reducible refine below_drewN ?_ _ | with_reducible refine Below.drew ?_)))).mono ?_; rintro r wa ⟨rfl, hba⟩; have hza := hba.size; (try simp at hza); obtain ⟨y0, y1, y2, y3, y4, y5, y6, y7, y8, y9, y10⟩ := KB.out wa (by (repeat (first | with_reducible assumption | with_reducible exact Below.refl _ _ | with_reducible refine Below.setCell ?_ (by first | omega | (simp; done) | (simp; omega)) _ | with_reducible refine Below.alloc ?_ (by first | omega | (simp; done) | (simp; omega)) _ | with_reducible refine below_drewN ?_ _ | with_reducible refine Below.drew ?_ | with_reducible refine Below.trans ?_ (Below.mono hba (by first | omega | (simp; done) | (simp; omega)))))))
        | (go_simp; go_at_call 17; refine (SP.out _ (by (repeat (first | with_reducible assumption | with_reducible exact Below.refl _ _ | with_reducible refine Below.setCell ?_ (by first | omega | (simp; done) | (simp; omega)) _ | with_reducible refine Below.alloc ?_ (by first | omega | (simp; done) | (simp; omega)) _ | with_reducible refine below_drewN ?_ _ | with_reducible refine Below.drew ?_ | with_reducible refine Below.trans ?_ (Below.mono hba (by first | omega | (simp; done) | (simp; omega))))))).mono ?_; rintro r wb ⟨u6, rfl, hG6, hbb⟩; have hzb := hbb.size; (try simp at hzb); obtain ⟨z0, z1, z2, z3, z4, z5, z6, z7, z8, z9, z10⟩ := KB.out wb (by (repeat (first | with_reducible assumption | with_reducible exact Below.refl _ _ | with_reducible refine Below.setCell ?_ (by first | omega | (simp; done) | (simp; omega)) _ | with_reducible refine Below.alloc ?_ (by first | omega | (simp; done) | (simp; omega)) _ | with_reducible refine below_drewN ?_ _ | with_reducible refine Below.drew ?_ | with_reducible refine Below.trans ?_ (Below.mono hbb (by first | omega | (simp; done) | (simp; omega))) | with_reducible refine Below.trans ?_ (Below.mono hba (by first | omega | (simp; done) | (simp; omega)))))); have hS6 : SlB wb wb.heap.size u6 nl := hG6.sl (fun _ => rfl); have HS6 := Lib.hid (fun (w' : World) (h : Below wb.heap.size wb w') => (hS6.ext h : SlB w' w'.heap.size u6 nl)); obtain ⟨A6, c6, rfl, _, _⟩ := hS6.val; clear hS6 hG6)
        | (go_simp; go_at_call 16; refine (spTokText_any nl _ _ (HS6.out _ (by (repeat (first | with_reducible assumption | with_reducible exact Below.refl _ _ | with_reducible refine Below.setCell ?_ (by first | omega | (simp; done) | (simp; omega)) _ | with_reducible refine Below.alloc ?_ (by first | omega | (simp; done) | (simp; omega)) _ | with_reducible refine below_drewN ?_ _ | with_reducible refine Below.drew ?_)))) HJ.out).mono ?_; rintro r _ ⟨rfl, rfl⟩)
        | (go_simp; go_at_call 18; refine (SO.out _ (by (repeat (first | with_reducible assumption | with_reducible exact Below.refl _ _ | with_reducible refine Below.setCell ?_ (by first | omega | (simp; done) | (simp; omega)) _ | with_reducible refine Below.alloc ?_ (by first | omega | (simp; done) | (simp; omega)) _ | with_reducible refine below_drewN ?_ _ | with_reducible refine Below.drew ?_ | with_reducible refine Below.trans ?_ (Below.mono hbb (by first | omega | (simp; done) | (simp; omega))) | with_reducible refine Below.trans ?_ (Below.mono hba (by first | omega | (simp; done) | (simp; omega))))))).mono ?_; rintro r wd ⟨rfl, hbd⟩; have hzd := hbd.size; (try simp at hzd); obtain ⟨t0, t1, t2, t3, t4, t5, t6, t7, t8, t9, t10⟩ := KB.out wd (by (repeat (first | with_reducible assumption | with_reducible exact Below.refl _ _ | with_reducible refine Below.setCell ?_ (by first | omega | (simp; done) | (simp; omega)) _ | with_reducible refine Below.alloc ?_ (by first | omega | (simp; done) | (simp; omega)) _ | with_reducible refine below_drewN ?_ _ | with_reducible refine Below.drew ?_ | with_reducible refine Below.trans ?_ (Below.mono hbd (by first | omega | (simp; done) | (simp; omega))) | with_reducible refine Below.trans ?_ (Below.mono hbb (by first | omega | (simp; done) | (simp; omega))) | with_reducible refine Below.trans ?_ (Below.mono hba (by first | omega | (simp; done) | (simp; omega)))))))
        | fail))
      | fail
    all_goals
      have hbX : Below w4.heap.size w4 wd := by (repeat (first | with_reducible assumption | with_reducible exact Below.refl _ _ | with_reducible refine Below.setCell ?_ (by first | omega | (simp; done) | (simp; omega)) _ | with_reducible refine Below.alloc ?_ (by first | omega | (simp; done) | (simp; omega)) _ | with_reducible refine below_drewN ?_ _ | with_reducible refine Below.drew ?_ | with_reducible refine Below.trans ?_ (Below.mono hbd (by first | omega | (simp; done) | (simp; omega))) | with_reducible refine Below.trans ?_ (Below.mono hbb (by first | omega | (simp; done) | (simp; omega))) | with_reducible refine Below.trans ?_ (Below.mono hba (by first | omega | (simp; done) | (simp; omega)))))
      have hzX := hbX.size
      clear hbd hbb hba HS6
      obtain ⟨y0, y1, y2, y3, y4, y5, y6, y7, y8, y9, y10⟩ := KB.out wd hbX
      go_upto_region 6 with fail
      first
        | (go_region_law
          (first
            | (go_simp; go_at_call 15; refine (T1.out _ (by (repeat (first | with_reducible assumption | with_reducible exact Below.refl _ _ | with_reducible refine Below.setCell ?_ (by first | omega | (simp; done) | (simp; omega)) _ | with_reducible refine Below.alloc ?_ (by first | omega | (simp; done) | (simp; omega)) _ | with_reducible refine below_drewN ?_ _ | with_reducible refine Below.drew ?_ | with_reducible refine Below.trans ?_ (Below.mono hbX (by first | omega | (simp; done) | (simp; omega))))))).mono ?_; rintro r we ⟨rfl, hbe⟩; have hze := hbe.size; (try simp at hze); obtain ⟨y0, y1, y2, y3, y4, y5, y6, y7, y8, y9, y10⟩ := KB.out we (by (repeat (first | with_reducible assumption | with_reducible exact Below.refl _ _ | with_reducible refine Below.setCell ?_ (by first | omega | (simp; done) | (simp; omega)) _ | with_reducible refine Below.alloc ?_ (by first | omega | (simp; done) | (simp; omega)) _ | with_reducible refine below_drewN ?_ _ | with_reducible refine Below.drew ?_ | with_reducible refine Below.trans ?_ (Below.mono hbe (by first | omega | (simp; done) | (simp; omega))) | with_reducible refine Below.trans ?_ (Below.mono hbX (by first | omega | (simp; done) | (simp; omega)))))))
            | (go_simp; go_at_call 17; refine (SP.out _ (by (repeat (first | with_reducible assumption | with_reducible exact Below.refl _ _ | with_reducible refine Below.setCell ?_ (by first | omega | (simp; done) | (simp; omega)) _ | with_reducible refine Below.alloc ?_ (by first | omega | (simp; done) | (simp; omega)) _ | with_reducible refine below_drewN ?_ _ | with_reducible refine Below.drew ?_ | with_reducible refine Below.trans ?_ (Below.mono hbe (by first | omega | (simp; done) | (simp; omega))) | with_reducible refine Below.trans ?_ (Below.mono hbX (by first | omega | (simp; done) | (simp; omega))))))).mono ?_; rintro r wf ⟨u7, rfl, hG7, hbf⟩; have hzf := hbf.size; (try simp at hzf); have hS7 : SlB wf wf.heap.size u7 nl := hG7.sl (fun _ => rfl); have HS7 := Lib.hid (fun (w' : World) (h : Below wf.heap.size wf w') => (hS7.ext h : SlB w' w'.heap.size u7 nl)); obtain ⟨A7, c7, rfl, _, _⟩ := hS7.val; clear hS7 hG7)
            | (go_simp; go_at_call 16; refine (spTokText_any nl _ _ (HS7.out _ (by (repeat (first | with_reducible assumption | with_reducible exact Below.refl _ _ | with_reducible refine Below.setCell ?_ (by first | omega | (simp; done) | (simp; omega)) _ | with_reducible refine Below.alloc ?_ (by first | omega | (simp; done) | (simp; omega)) _ | with_reducible refine below_drewN ?_ _ | with_reducible refine Below.drew ?_)))) HJ.out).mono ?_; rintro r _ ⟨rfl, rfl⟩)
            | fail))
        | fail
      all_goals
        go_wp2_with fail
        go_ret
        exact ⟨rfl, hbw4.ext (by (repeat (first | with_reducible assumption | with_reducible exact Below.refl _ _ | with_reducible refine Below.setCell ?_ (by first | omega | (simp; done) | (simp; omega)) _ | with_reducible refine Below.alloc ?_ (by first | omega | (simp; done) | (simp; omega)) _ | with_reducible refine below_drewN ?_ _ | with_reducible refine Below.drew ?_ | with_reducible refine Below.trans ?_ (Below.mono hbf (by first | omega | (simp; done) | (simp; omega))) | with_reducible refine Below.trans ?_ (Below.mono hbe (by first | omega | (simp; done) | (simp; omega))) | with_reducible refine Below.trans ?_ (Below.mono hbX (by first | omega | (simp; done) | (simp; omega))))))⟩
  by_cases hk0 : k = 0
  · subst hk0
    first
      | (go_region_law
      (first
        | (go_simp; go_at_call 15; refine (T1.out _ (by (repeat (first | with_reducible assumption | with_reducible exact Below.refl _ _ | with_reducible refine Below.setCell ?_ (by first | omega | (simp; done) | (simp; omega)) _ | with_reducible refine Below.alloc ?_ (by first | omega | (simp; done) | (simp; omega)) _ | with_reducible refine below_drewN ?_ _ | with_reducible refine Below.drew ?_)))).mono ?_; rintro r wa ⟨rfl, hba⟩; have hza := hba.size; (try simp at hza); obtain ⟨y0, y1, y2, y3, y4, y5, y6, y7, y8, y9, y10⟩ := KB.out wa (by (repeat (first | with_reducible assumption | with_reducible exact Below.refl _ _ | with_reducible refine Below.setCell ?_ (by first | omega | (simp; done) | (simp; omega)) _ | with_reducible refine Below.alloc ?_ (by first | omega | (simp; done) | (simp; omega)) _ | with_reducible refine below_drewN ?_ _ | with_reducible refine Below.drew ?_ | with_reducible refine Below.trans ?_ (Below.mono hba (by first | omega | (simp; done) | (simp; omega)))))))
        | (go_simp; go_at_call 17; refine (SP.out _ (by (repeat (first | with_reducible assumption | with_reducible exact Below.refl _ _ | with_reducible refine Below.setCell ?_ (by first | omega | (simp; done) | (simp; omega)) _ | with_reducible refine Below.alloc ?_ (by first | omega | (simp; done) | (simp; omega)) _ | with_reducible refine below_drewN ?_ _ | with_reducible refine Below.drew ?_ | with_reducible refine Below.trans ?_ (Below.mono hba (by first | omega | (simp; done) | (simp; omega))))))).mono ?_; rintro r wb ⟨u6, rfl, hG6, hbb⟩; have hzb := hbb.size; (try simp at hzb); obtain ⟨z0, z1, z2, z3, z4, z5, z6, z7, z8, z9, z10⟩ := KB.out wb (by (repeat (first | with_reducible assumption | with_reducible exact Below.refl _ _ | with_reducible refine Below.setCell ?_ (by first | omega | (simp; done) | (simp; omega)) _ | with_reducible refine Below.alloc ?_ (by first | omega | (simp; done) | (simp; omega)) _ | with_reducible refine below_drewN ?_ _ | with_reducible refine Below.drew ?_ | with_reducible refine Below.trans ?_ (Below.mono hbb (by first | omega | (simp; done) | (simp; omega))) | with_reducible refine Below.trans ?_ (Below.mono hba (by first | omega | (simp; done) | (simp; omega)))))); have hS6 : SlB wb wb.heap.size u6 nl := hG6.sl (fun _ => rfl); have HS6 := Lib.hid (fun (w' : World) (h : Below wb.heap.size wb w') => (hS6.ext h : SlB w' w'.heap.size u6 nl)); obtain ⟨A6, c6, rfl, _, _⟩ := hS6.val; clear hS6 hG6)
        | (go_simp; go_at_call 16; refine (spTokText_any nl _ _ (HS6.out _ (by (repeat (first | with_reducible assumption | with_reducible exact Below.refl _ _ | with_reducible refine Below.setCell ?_ (by first | omega | (simp; done) | (simp; omega)) _ | with_reducible refine Below.alloc ?_ (by first | omega | (simp; done) | (simp; omega)) _ | with_reducible refine below_drewN ?_ _ | with_reducible refine Below.drew ?_)))) HJ.out).mono ?_; rintro r _ ⟨rfl, rfl⟩)
        | (go_simp; go_at_call 18; refine (SO.out _ (by (repeat (first | with_reducible assumption | with_reducible exact Below.refl _ _ | with_reducible refine Below.setCell ?_ (by first | omega | (simp; done) | (simp; omega)) _ | with_reducible refine Below.alloc ?_ (by first | omega | (simp; done) | (simp; omega)) _ | with_reducible refine below_drewN ?_ _ | with_reducible refine Below.drew ?_ | with_reducible refine Below.trans ?_ (Below.mono hbb (by first | omega | (simp; done) | (simp; omega))) | with_reducible refine Below.trans ?_ (Below.mono hba (by first | omega | (simp; done) | (simp; omega))))))).mono ?_; rintro r wd ⟨rfl, hbd⟩; have hzd := hbd.size; (try simp at hzd); obtain ⟨t0, t1, t2, t3, t4, t5, t6, t7, t8, t9, t10⟩ := KB.out wd (by (repeat (first | with_reducible assumption | with_reducible exact Below.refl _ _ | with_reducible refine Below.setCell ?_ (by first | omega | (simp; done) | (simp; omega)) _ | with_reducible refine Below.alloc ?_ (by first | omega | (simp; done) | (simp; omega)) _ | with_reducible refine below_drewN ?_ _ | with_reducible refine Below.drew ?_ | with_reducible refine Below.trans ?_ (Below.mono hbd (by first | omega | (simp; done) | (simp; omega))) | with_reducible refine Below.trans ?_ (Below.mono hbb (by first | omega | (simp; done) | (simp; omega))) | with_reducible refine Below.trans ?_ (Below.mono hba (by first | omega | (simp; done) | (simp; omega)))))))
        | fail))
      | fail
    all_goals
      have hbX : Below w4.heap.size w4 wd := by (repeat (first | with_reducible assumption | with_reducible exact Below.refl _ _ | with_reducible refine Below.setCell ?_ (by first | omega | (simp; done) | (simp; omega)) _ | with_reducible refine Below.alloc ?_ (by first | omega | (simp; done) | (simp; omega)) _ | with_reducible refine below_drewN ?_ _ | with_reducible refine Below.drew ?_ | with_reducible refine Below.trans ?_ (Below.mono hbd (by first | omega | (simp; done) | (simp; omega))) | with_reducible refine Below.trans ?_ (Below.mono hbb (by first | omega | (simp; done) | (simp; omega))) | with_reducible refine Below.trans ?_ (Below.mono hba (by first | omega | (simp; done) | (simp; omega)))))
      have hzX := hbX.size
      clear hbd hbb hba HS6
      obtain ⟨y0, y1, y2, y3, y4, y5, y6, y7, y8, y9, y10⟩ := KB.out wd hbX
      go_upto_region 6 with fail
      first
        | (go_region_law
          (first
            | (go_simp; go_at_call 15; refine (T1.out _ (by (repeat (first | with_reducible assumption | with_reducible exact Below.refl _ _ | with_reducible refine Below.setCell ?_ (by first | omega | (simp; done) | (simp; omega)) _ | with_reducible refine Below.alloc ?_ (by first | omega | (simp; done) | (simp; omega)) _ | with_reducible refine below_drewN ?_ _ | with_reducible refine Below.drew ?_ | with_reducible refine Below.trans ?_ (Below.mono hbX (by first | omega | (simp; done) | (simp; omega))))))).mono ?_; rintro r we ⟨rfl, hbe⟩; have hze := hbe.size; (try simp at hze); obtain ⟨y0, y1, y2, y3, y4, y5, y6, y7, y8, y9, y10⟩ := KB.out we (by (repeat (first | with_reducible assumption | with_reducible exact Below.refl _ _ | with_reducible refine Below.setCell ?_ (by first | omega | (simp; done) | (simp; omega)) _ | with_reducible refine Below.alloc ?_ (by first | omega | (simp; done) | (simp; omega)) _ | with_reducible refine below_drewN ?_ _ | with_reducible refine Below.drew ?_ | with_reducible refine Below.trans ?_ (Below.mono hbe (by first | omega | (simp; done) | (simp; omega))) | with_reducible refine Below.trans ?_ (Below.mono hbX (by first | omega | (simp; done) | (simp; omega)))))))
            | (go_simp; go_at_call 17; refine (SP.out _ (by (repeat (first | with_reducible assumption | with_reducible exact Below.refl _ _ | with_reducible refine Below.setCell ?_ (by first | omega | (simp; done) | (simp; omega)) _ | with_reducible refine Below.alloc ?_ (by first | omega | (simp; done) | (simp; omega)) _ | with_reducible refine below_drewN ?_ _ | with_reducible refine Below.drew ?_ | with_reducible refine Below.trans ?_ (Below.mono hbe (by first | omega | (simp; done) | (simp; omega))) | with_reducible refine Below.trans ?_ (Below.mono hbX (by first | omega | (simp; done) | (simp; omega))))))).mono ?_; rintro r wf ⟨u7, rfl, hG7, hbf⟩; have hzf := hbf.size; (try simp at hzf); have hS7 : SlB wf wf.heap.size u7 nl := hG7.sl (fun _ => rfl); have HS7 := Lib.hid (fun (w' : World) (h : Below wf.heap.size wf w') => (hS7.ext h : SlB w' w'.heap.size u7 nl)); obtain ⟨A7, c7, rfl, _, _⟩ := hS7.val; clear hS7 hG7)
            | (go_simp; go_at_call 16; refine (spTokText_any nl _ _ (HS7.out _ (by (repeat (first | with_reducible assumption | with_reducible exact Below.refl _ _ | with_reducible refine Below.setCell ?_ (by first | omega | (simp; done) | (simp; omega)) _ | with_reducible refine Below.alloc ?_ (by first | omega | (simp; done) | (simp; omega)) _ | with_reducible refine below_drewN ?_ _ | with_reducible refine Below.drew ?_)))) HJ.out).mono ?_; rintro r _ ⟨rfl, rfl⟩)
            | fail))
        | fail
      all_goals
        go_wp2_with fail
        go_ret
        exact ⟨rfl, hbw4.ext (by (repeat (first | with_reducible assumption | with_reducible exact Below.refl _ _ | with_reducible refine Below.setCell ?_ (by first | omega | (simp; done) | (simp; omega)) _ | with_reducible refine Below.alloc ?_ (by first | omega | (simp; done) | (simp; omega)) _ | with_reducible refine below_drewN ?_ _ | with_reducible refine Below.drew ?_ | with_reducible refine Below.trans ?_ (Below.mono hbf (by first | omega | (simp; done) | (simp; omega))) | with_reducible refine Below.trans ?_ (Below.mono hbe (by first | omega | (simp; done) | (simp; omega))) | with_reducible refine Below.trans ?_ (Below.mono hbX (by first | omega | (simp; done) | (simp; omega))))))⟩
  have d0 : (k == 0) = false := by simpa using hk0
  first
    | (go_region_law
    (first
      | (go_simp; go_at_call 15; refine (T1.out _ (by (repeat (first | with_reducible assumption | with_reducible exact Below.refl _ _ | with_reducible refine Below.setCell ?_ (by first | omega | (simp; done) | (simp; omega)) _ | with_reducible refine Below.alloc ?_ (by first | omega | (simp; done) | (simp; omega)) _ | with_reducible refine below_drewN ?_ _ | with_reducible refine Below.drew ?_)))).mono ?_; rintro r wa ⟨rfl, hba⟩; have hza := hba.size; (try simp at hza); obtain ⟨y0, y1, y2, y3, y4, y5, y6, y7, y8, y9, y10⟩ := KB.out wa (by (repeat (first | with_reducible assumption | with_reducible exact Below.refl _ _ | with_reducible refine Below.setCell ?_ (by first | omega | (simp; done) | (simp; omega)) _ | with_reducible refine Below.alloc ?_ (by first | omega | (simp; done) | (simp; omega)) _ | with_reducible refine below_drewN ?_ _ | with_reducible refine Below.drew ?_ | with_reducible refine Below.trans ?_ (Below.mono hba (by first | omega | (simp; done) | (simp; omega)))))))
      | (go_simp; go_at_call 17; refine (SP.out _ (by (repeat (first | with_reducible assumption | with_reducible exact Below.refl _ _ | with_reducible refine Below.setCell ?_ (by first | omega | (simp; done) | (simp; omega)) _ | with_reducible refine Below.alloc ?_ (by first | omega | (simp; done) | (simp; omega)) _ | with_reducible refine below_drewN ?_ _ | with_reducible refine Below.drew ?_ | with_reducible refine Below.trans ?_ (Below.mono hba (by first | omega | (simp; done) | (simp; omega))))))).mono ?_; rintro r wb ⟨u6, rfl, hG6, hbb⟩; have hzb := hbb.size; (try simp at hzb); obtain ⟨z0, z1, z2, z3, z4, z5, z6, z7, z8, z9, z10⟩ := KB.out wb (by (repeat (first | with_reducible assumption | with_reducible exact Below.refl _ _ | with_reducible refine Below.setCell ?_ (by first | omega | (simp; done) | (simp; omega)) _ | with_reducible refine Below.alloc ?_ (by first | omega | (simp; done) | (simp; omega)) _ | with_reducible refine below_drewN ?_ _ | with_reducible refine Below.drew ?_ | with_reducible refine Below.trans ?_ (Below.mono hbb (by first | omega | (simp; done) | (simp; omega))) | with_reducible refine Below.trans ?_ (Below.mono hba (by first | omega | (simp; done) | (simp; omega)))))); have hS6 : SlB wb wb.heap.size u6 nl := hG6.sl (fun _ => rfl); have HS6 := Lib.hid (fun (w' : World) (h : Below wb.heap.size wb w') => (hS6.ext h : SlB w' w'.heap.size u6 nl)); obtain ⟨A6, c6, rfl, _, _⟩ := hS6.val; clear hS6 hG6)
      | (go_simp; go_at_call 16; refine (spTokText_any nl _ _ (HS6.out _ (by (repeat (first | with_reducible assumption | with_reducible exact Below.refl _ _ | with_reducible refine Below.setCell ?_ (by first | omega | (simp; done) | (simp; omega)) _ | with_reducible refine Below.alloc ?_ (by first | omega | (simp; done) | (simp; omega)) _ | with_reducible refine below_drewN ?_ _ | with_reducible refine Below.drew ?_)))) HJ.out).mono ?_; rintro r _ ⟨rfl, rfl⟩)
      | (go_simp; go_at_call 18; refine (SO.out _ (by (repeat (first | with_reducible assumption | with_reducible exact Below.refl _ _ | with_reducible refine Below.setCell ?_ (by first | omega | (simp; done) | (simp; omega)) _ | with_reducible refine Below.alloc ?_ (by first | omega | (simp; done) | (simp; omega)) _ | with_reducible refine below_drewN ?_ _ | with_reducible refine Below.drew ?_ | with_reducible refine Below.trans ?_ (Below.mono hbb (by first | omega | (simp; done) | (simp; omega))) | with_reducible refine Below.trans ?_ (Below.mono hba (by first | omega | (simp; done) | (simp; omega))))))).mono ?_; rintro r wd ⟨rfl, hbd⟩; have hzd := hbd.size; (try simp at hzd); obtain ⟨t0, t1, t2, t3, t4, t5, t6, t7, t8, t9, t10⟩ := KB.out wd (by (repeat (first | with_reducible assumption | with_reducible exact Below.refl _ _ | with_reducible refine Below.setCell ?_ (by first | omega | (simp; done) | (simp; omega)) _ | with_reducible refine Below.alloc ?_ (by first | omega | (simp; done) | (simp; omega)) _ | with_reducible refine below_drewN ?_ _ | with_reducible refine Below.drew ?_ | with_reducible refine Below.trans ?_ (Below.mono hbd (by first | omega | (simp; done) | (simp; omega))) | with_reducible refine Below.trans ?_ (Below.mono hbb (by first | omega | (simp; done) | (simp; omega))) | with_reducible refine Below.trans ?_ (Below.mono hba (by first | omega | (simp; done) | (simp; omega)))))))
      | fail))
    | fail
  all_goals
    have hbX : Below w4.heap.size w4 wd := by (repeat (first | with_reducible assumption | with_reducible exact Below.refl _ _ | with_reducible refine Below.setCell ?_ (by first | omega | (simp; done) | (simp; omega)) _ | with_reducible refine Below.alloc ?_ (by first | omega | (simp; done) | (simp; omega)) _ | with_reducible refine below_drewN ?_ _ | with_reducible refine Below.drew ?_ | with_reducible refine Below.trans ?_ (Below.mono hbd (by first | omega | (simp; done) | (simp; omega))) | with_reducible refine Below.trans ?_ (Below.mono hbb (by first | omega | (simp; done) | (simp; omega))) | with_reducible refine Below.trans ?_ (Below.mono hba (by first | omega | (simp; done) | (simp; omega)))))
    have hzX := hbX.size
    clear hbd hbb hba HS6 y0 y1 y2 y3 y4 y5 y6 y7 y8 y9 y10 z0 z1 z2 z3 z4 z5 z6 z7 z8 z9 z10
    obtain ⟨t0, t1, t2, t3, t4, t5, t6, t7, t8, t9, t10⟩ := KB.out wd hbX
    have hb14 := hb13.ext hb34
    have hb1d := hb14.ext hbX
    have hbwd := hbw4.ext hbX
    obtain ⟨e, he⟩ := HEX.out.1 HOK.out.symm hk0
    have HRE := Lib.hid (HRN.out HOK.out.symm e he)
    have HTH := Lib.hid (HEX.out.2 HOK.out.symm)
    subst he
    have hB5' := hB4.below hbX hlt4
    clear T1 SP SO KB HEX HRN HSM
    go_upto_region 8 with fail
    generalize hW5 : World.alloc wd _ = w5
    have hbd5 : Below wd.heap.size wd w5 := by rw [← hW5]; (repeat (first | with_reducible assumption | with_reducible exact Below.refl _ _ | with_reducible refine Below.setCell ?_ (by first | omega | (simp; done) | (simp; omega)) _ | with_reducible refine Below.alloc ?_ (by first | omega | (simp; done) | (simp; omega)) _ | with_reducible refine below_drewN ?_ _ | with_reducible refine Below.drew ?_))
    have hB5 : Blk w5 wd.heap.size 27 (cS k nm ty k1 n1 s1 (.slice A1 m1 cp1) k2 n2 s2 (.slice A2 m2 cp2)) := by rw [← hW5]; exact Blk.new _ _ _
    have hB3 := hB5'.below hbd5 hB5'.lt
    have hz5 := hB5.lt
    have hzz := hB5'.lt
    clear hW5 hB5' hB4 t0 t1 t2 t3 t4 t5 t6 t7 t8 t9 t10
    have hb15 := hb1d.ext hbd5
    have PW := Lib.hid (wePutW_any e _ w5 (HXA.out w5 hb15))
    obtain ⟨ye, hye⟩ : ∃ ye, ye = (putW e).ex := ⟨_, rfl⟩
    rw [show E.put [120] (.nam [119]) e = putW e from rfl, ← hye] at PW
    rw [← hye] at HRE
    have HYE := Lib.hid hye
    clear hye
    obtain ⟨y0, y1, y2, y3, y4, y5, y6, y7, y8, y9, y10⟩ := cS_at hB3
    go_wp2_with fail
    refine PW.out.mono ?_
    rintro r w6 ⟨v6, rfl, hD6, hb56⟩
    have hB3 := hB3.below hb56 hB3.lt
    have hB5 := hB5.below hb56 hB5.lt
    have HD6 := Lib.hid hD6
    obtain ⟨k6, n6, s6, A6', c6', l6, _, rfl, hs6, hc6', hm6, hK6⟩ := hD6.form
    have z3 := hB5.frozen 3; have z4 := hB5.frozen 4; have z5 := hB5.frozen 5; have z6 := hB5.frozen 6
    have c3 := hB5.cell 3; have c4' := hB5.cell 4; have c5 := hB5.cell 5; have c6 := hB5.cell 6
    simp [cS] at c3 c4' c5 c6
    have hB7 := (((hB5.set_ 3 (.int .i64 k6)).set_ 4 (.int .i64 n6)).set_ 5 (.string (bs s6))).set_ 6 (.slice A6' l6.length c6')
    have hne53 : w1.heap.size ≠ wd.heap.size := by omega
    have hB37 := (((hB3.far (p := ⟨wd.heap.size, 3, none⟩) hne53 (.int .i64 k6)).far (p := ⟨wd.heap.size, 4, none⟩) hne53 (.int .i64 n6)).far (p := ⟨wd.heap.size, 5, none⟩) hne53 (.string (bs s6))).far (p := ⟨wd.heap.size, 6, none⟩) hne53 (.slice A6' l6.length c6')
    have hg67 : w6.grownBy ((((w6.setCell ⟨wd.heap.size, 3, none⟩ (.int .i64 k6)).setCell ⟨wd.heap.size, 4, none⟩ (.int .i64 n6)).setCell ⟨wd.heap.size, 5, none⟩ (.string (bs s6))).setCell ⟨wd.heap.size, 6, none⟩ (.slice A6' l6.length c6')) (some wd.heap.size) := by (repeat (first | with_reducible assumption | with_reducible exact grown_rfl _ _ | with_reducible refine grown_st ?_ _ _ | with_reducible refine grown_al ?_ _))
    clear hK6 hD6 hB3 hB5 PW y0 y1 y2 y3 y4 y5 y6 y7 y8 y9 y10
    go_upto_region 9 with fail
    generalize hW7 : World.setCell (World.setCell _ _ _) _ _ = w7 at *
    have hD7 := HD6.out.grown hg67 (fun q e => by have := Option.some.inj e; omega)
    have hb67 := below_of_grown hg67 (B := wd.heap.size) (Nat.le_refl _) (by have := hb56.size; omega)
    have hbd7 : Below wd.heap.size wd w7 := (hbd5.trans (hb56.mono (by omega))).trans hb67
    have hb17 := hb1d.ext hbd7
    have HY7 := Lib.hid hD7.exv
    have HD6b := Lib.hid hD7
    have hB7 : Blk w7 wd.heap.size 27 (cS k nm ty k6 n6 s6 (.slice A6' l6.length c6') k2 n2 s2 (.slice A2 m2 cp2)) := hB7
    obtain ⟨y0, _, _, _, _, _, _, y7, y8, y9, y10⟩ := cS_at hB37
    clear hW7 z3 z4 z5 z6 c3 c4' c5 c6 hg67 HD6 hD7 hb67
    by_cases hk3 : k = 3
    rotate_left
    · have d3 : (k == 3) = false := by simpa using hk3
      have IM7 := Lib.hid (imStmtNames_any _ _ w7 (smv_of (k := k) HY7.out (HXB.out w7 hb17) HLN.out.1 HLN.out.2) (HE.out w7 ((hb34.ext hbX).ext hbd7)))
      rw [HRE.out.1 hk3, ← HNL.out] at IM7
      obtain ⟨x0, x1, x2, x3, x4, x5, x6, x7, x8, x9, x10⟩ := cS_at hB7
      clear hB7 hB37
      have hbw7 := hbwd.ext hbd7
      have hb47 := hbX.ext hbd7
      obtain ⟨ml, hml⟩ : ∃ ml, ml = nl.map ren := ⟨_, rfl⟩
      rw [← hml] at IM7
      have HML := Lib.hid (And.intro hml (show ml.length = nl.length by rw [hml, List.length_map]))
      clear hml
      go_wp2_with fail
      refine (IM7).out.mono ?_
      rintro r w8 ⟨u8, rfl, hF8, hb78⟩
      have hb48 := (hb47).ext hb78
      have hbw8 := (hbw7).ext hb78
      have HS8 := Lib.hid (And.intro (HF4.out w8 hb48) hF8.sl)
      obtain ⟨A8, c8, rfl, hc8, hm8⟩ := hF8.sl.val
      have hnn : (((ml.length : Nat) : Int) != ((nl.length : Nat) : Int)) = false := by simp [HML.out.2]
      clear hF8 IM7
      go_wp2_with fail
      go_loopg [7] nl.length (fun q i wr => ∃ j : Nat, q = nl.length - j ∧ j ≤ nl.length ∧ i = .int .i64 j ∧ Below w8.heap.size w8 wr)
      case atStart => exact ⟨0, by omega, by omega, rfl, Below.refl _ _⟩
      case round =>
        obtain ⟨j, hk, hj, rfl, hbl⟩ := hrel
        have HK := Lib.hid hk
        clear hk
        by_cases hlt : j < nl.length
        · have hdl : decide (((j : Nat) : Int) < ((nl.length : Nat) : Int)) = true := by rw [decide_eq_true_eq]; omega
          have hlt2 : j < ml.length := by have := HML.out.2; omega
          obtain ⟨q2, p2, x, hA4, hq2, hgx, fx⟩ := str_at HS8.out.1 hlt
          obtain ⟨q3, p3, y, hA8, hq3, hgy, fy⟩ := str_at HS8.out.2 hlt2
          have hyx : y = ren x := by
            rw [HML.out.1, List.getElem?_map, hgx] at hgy
            exact (Option.some.inj hgy).symm
          have gx := fx ⟨wr, hbl⟩
          have gy := fy ⟨wr, hbl⟩
          subst hA4 hA8
          clear fx fy hgx hgy
          by_cases hx : x = [120]
          · subst hx
            obtain rfl : y = [119] := hyx
            go_wp2_with fail
            go_roundg (nl.length - (j + 1))
            case measure => have := HK.out; omega
            case rel => exact ⟨j + 1, rfl, by omega, by go_num, hbl⟩
          · replace hyx : y = x := by rw [hyx]; unfold ren; rw [if_neg hx]
            have hd : (x == [120]) = false := by simpa using hx
            have hdy : (x != x) = false := by simp
            subst hyx
            clear hx
            go_wp2_with fail
            go_roundg (nl.length - (j + 1))
            case measure => have := HK.out; omega
            case rel => exact ⟨j + 1, rfl, by omega, by go_num, hbl⟩
        · have hdl : decide (((j : Nat) : Int) < ((nl.length : Nat) : Int)) = false := by rw [decide_eq_false_iff_not]; omega
          go_upto_region 23 with fail
          generalize hW9 : World.alloc wr _ = w9
          have hb89 : Below wr.heap.size wr w9 := by rw [← hW9]; (repeat (first | with_reducible assumption | with_reducible exact Below.refl _ _ | with_reducible refine Below.setCell ?_ (by first | omega | (simp; done) | (simp; omega)) _ | with_reducible refine Below.alloc ?_ (by first | omega | (simp; done) | (simp; omega)) _ | with_reducible refine below_drewN ?_ _ | with_reducible refine Below.drew ?_))
          have hB9 : Blk w9 wr.heap.size 27 (cS 1 [113] [105, 110, 116] 1 1 [] (.slice none 0 0) 0 0 [] (.slice none 0 0)) := by rw [← hW9]; exact Blk.new _ _ _
          clear hW9
          have hb49 := (hb48.ext hbl).ext hb89
          have hbw9 := (hbw8.ext hbl).ext hb89
          have hE0 : ExS w9 w9.heap.size (.slice none 0 0) [] := by obtain ⟨_, h, _⟩ := DrK.nil 0 w9; exact h.exs
          have IM9 := Lib.hid (imStmtNames_any ⟨1, [113], [105, 110, 116], (E.num 1).ex, Ex.none⟩ _ w9 (smv_of (k := 1) (nm := [113]) (ty := [105, 110, 116]) ⟨_, rfl, by simp [E.ex, Ex.s], hE0⟩ ⟨_, rfl, by simp [Ex.none, Ex.s], hE0⟩ (by simp) (by simp)) (HE.out w9 (hb34.ext hb49)))
          rw [smNm_one] at IM9
          simp only [E.ex, Ex.none, Ex.kind, Ex.n, Ex.s] at IM9
          obtain ⟨x0, x1, x2, x3, x4, x5, x6, x7, x8, x9, x10⟩ := cS_at hB9
          clear hB9 hE0
          go_wp2_with fail
          refine IM9.out.mono ?_
          rintro r w10 ⟨u10, rfl, hF10, hb10⟩
          obtain ⟨A10, c10, rfl, hc10, hm10⟩ := hF10.sl.val
          simp only [List.length_nil]
          clear hF10 IM9
          go_wp2_with fail
          go_ret
          exact ⟨rfl, hbw9.ext hb10⟩
    · subst hk3
      obtain ⟨f, hf⟩ := HTH.out rfl
      subst hf
      have PW2 := Lib.hid (wePutW_any f _ w7 (HXB.out w7 hb17))
      obtain ⟨yf, hyf⟩ : ∃ yf, yf = (putW f).ex := ⟨_, rfl⟩
      rw [show E.put [120] (.nam [119]) f = putW f from rfl, ← hyf] at PW2
      have HRF := Lib.hid (HRE.out.2 f rfl rfl)
      rw [← hyf] at HRF
      have HYF := Lib.hid hyf
      clear hyf
      go_wp2_with fail
      refine PW2.out.mono ?_
      rintro r wa2 ⟨va, rfl, hDa, hb7a⟩
      have hBa := hB7.below hb7a hB7.lt
      have HDa := Lib.hid hDa
      have HYa := Lib.hid (HY7.out.ext hb7a)
      obtain ⟨k9, n9, s9, A9', c9', l9, _, rfl, hs9, hc9', hm9, hK9⟩ := hDa.form
      have z7 := hBa.frozen 7; have z8 := hBa.frozen 8; have z9 := hBa.frozen 9; have z10 := hBa.frozen 10
      have e7 := hBa.cell 7; have e8 := hBa.cell 8; have e9 := hBa.cell 9; have e10 := hBa.cell 10
      simp [cS] at e7 e8 e9 e10
      have hBb := (((hBa.set_ 7 (.int .i64 k9)).set_ 8 (.int .i64 n9)).set_ 9 (.string (bs s9))).set_ 10 (.slice A9' l9.length c9')
      have hgab : wa2.grownBy ((((wa2.setCell ⟨wd.heap.size, 7, none⟩ (.int .i64 k9)).setCell ⟨wd.heap.size, 8, none⟩ (.int .i64 n9)).setCell ⟨wd.heap.size, 9, none⟩ (.string (bs s9))).setCell ⟨wd.heap.size, 10, none⟩ (.slice A9' l9.length c9')) (some wd.heap.size) := by (repeat (first | with_reducible assumption | with_reducible exact grown_rfl _ _ | with_reducible refine grown_st ?_ _ _ | with_reducible refine grown_al ?_ _))
      have hzb7 := hb7a.size
      have hzd7 := hB7.lt
      clear hK9 hDa hBa hB7 hB37 PW2 y0 y7 y8 y9 y10
      go_upto_region 11 with fail
      generalize hWb : World.setCell (World.setCell _ _ _) _ _ = wb2 at *
      have hDb := HDa.out.grown hgab (fun q e => by have := Option.some.inj e; omega)
      have hbab := below_of_grown hgab (B := wd.heap.size) (Nat.le_refl _) (by omega)
      have hbdb : Below wd.heap.size wd wb2 := (hbd7.trans (hb7a.mono (by omega))).trans hbab
      have hYb : ExV wb2 wb2.heap.size (.agg #[.int .i64 k6, .int .i64 n6, .string (bs s6), .slice A6' l6.length c6']) ye := ((HD6b.out.ext hb7a).grown hgab (fun q e => by have := Option.some.inj e; omega)).exv
      have IMb := Lib.hid (imStmtNames_any _ _ wb2 (smv_of (k := 3) hYb hDb.exv HLN.out.1 HLN.out.2) (HE.out wb2 ((hb34.ext hbX).ext hbdb)))
      rw [HRF.out, ← HNL.out] at IMb
      obtain ⟨x0, x1, x2, x3, x4, x5, x6, x7, x8, x9, x10⟩ := cS_at hBb
      have hbwb := hbwd.ext hbdb
      have hb4b := hbX.ext hbdb
      clear hBb hWb z7 z8 z9 z10 e7 e8 e9 e10 hgab HDa hDb hbab hYb
      obtain ⟨ml, hml⟩ : ∃ ml, ml = nl.map ren := ⟨_, rfl⟩
      rw [← hml] at IMb
      have HML := Lib.hid (And.intro hml (show ml.length = nl.length by rw [hml, List.length_map]))
      clear hml
      go_wp2_with fail
      refine (IMb).out.mono ?_
      rintro r w8 ⟨u8, rfl, hF8, hb78⟩
      have hb48 := (hb4b).ext hb78
      have hbw8 := (hbwb).ext hb78
      have HS8 := Lib.hid (And.intro (HF4.out w8 hb48) hF8.sl)
      obtain ⟨A8, c8, rfl, hc8, hm8⟩ := hF8.sl.val
      have hnn : (((ml.length : Nat) : Int) != ((nl.length : Nat) : Int)) = false := by simp [HML.out.2]
      clear hF8 IMb
      go_wp2_with fail
      go_loopg [7] nl.length (fun q i wr => ∃ j : Nat, q = nl.length - j ∧ j ≤ nl.length ∧ i = .int .i64 j ∧ Below w8.heap.size w8 wr)
      case atStart => exact ⟨0, by omega, by omega, rfl, Below.refl _ _⟩
      case round =>
        obtain ⟨j, hk, hj, rfl, hbl⟩ := hrel
        have HK := Lib.hid hk
        clear hk
        by_cases hlt : j < nl.length
        · have hdl : decide (((j : Nat) : Int) < ((nl.length : Nat) : Int)) = true := by rw [decide_eq_true_eq]; omega
          have hlt2 : j < ml.length := by have := HML.out.2; omega
          obtain ⟨q2, p2, x, hA4, hq2, hgx, fx⟩ := str_at HS8.out.1 hlt
          obtain ⟨q3, p3, y, hA8, hq3, hgy, fy⟩ := str_at HS8.out.2 hlt2
          have hyx : y = ren x := by
            rw [HML.out.1, List.getElem?_map, hgx] at hgy
            exact (Option.some.inj hgy).symm
          have gx := fx ⟨wr, hbl⟩
          have gy := fy ⟨wr, hbl⟩
          subst hA4 hA8
          clear fx fy hgx hgy
          by_cases hx : x = [120]
          · subst hx
            obtain rfl : y = [119] := hyx
            go_wp2_with fail
            go_roundg (nl.length - (j + 1))
            case measure => have := HK.out; omega
            case rel => exact ⟨j + 1, rfl, by omega, by go_num, hbl⟩
          · replace hyx : y = x := by rw [hyx]; unfold ren; rw [if_neg hx]
            have hd : (x == [120]) = false := by simpa using hx
            have hdy : (x != x) = false := by simp
            subst hyx
            clear hx
            go_wp2_with fail
            go_roundg (nl.length - (j + 1))
            case measure => have := HK.out; omega
            case rel => exact ⟨j + 1, rfl, by omega, by go_num, hbl⟩
        · have hdl : decide (((j : Nat) : Int) < ((nl.length : Nat) : Int)) = false := by rw [decide_eq_false_iff_not]; omega
          go_upto_region 23 with fail
          generalize hW9 : World.alloc wr _ = w9
          have hb89 : Below wr.heap.size wr w9 := by rw [← hW9]; (repeat (first | with_reducible assumption | with_reducible exact Below.refl _ _ | with_reducible refine Below.setCell ?_ (by first | omega | (simp; done) | (simp; omega)) _ | with_reducible refine Below.alloc ?_ (by first | omega | (simp; done) | (simp; omega)) _ | with_reducible refine below_drewN ?_ _ | with_reducible refine Below.drew ?_))
          have hB9 : Blk w9 wr.heap.size 27 (cS 1 [113] [105, 110, 116] 1 1 [] (.slice none 0 0) 0 0 [] (.slice none 0 0)) := by rw [← hW9]; exact Blk.new _ _ _
          clear hW9
          have hb49 := (hb48.ext hbl).ext hb89
          have hbw9 := (hbw8.ext hbl).ext hb89
          have hE0 : ExS w9 w9.heap.size (.slice none 0 0) [] := by obtain ⟨_, h, _⟩ := DrK.nil 0 w9; exact h.exs
          have IM9 := Lib.hid (imStmtNames_any ⟨1, [113], [105, 110, 116], (E.num 1).ex, Ex.none⟩ _ w9 (smv_of (k := 1) (nm := [113]) (ty := [105, 110, 116]) ⟨_, rfl, by simp [E.ex, Ex.s], hE0⟩ ⟨_, rfl, by simp [Ex.none, Ex.s], hE0⟩ (by simp) (by simp)) (HE.out w9 (hb34.ext hb49)))
          rw [smNm_one] at IM9
          simp only [E.ex, Ex.none, Ex.kind, Ex.n, Ex.s] at IM9
          obtain ⟨x0, x1, x2, x3, x4, x5, x6, x7, x8, x9, x10⟩ := cS_at hB9
          clear hB9 hE0
          go_wp2_with fail
          refine IM9.out.mono ?_
          rintro r w10 ⟨u10, rfl, hF10, hb10⟩
          obtain ⟨A10, c10, rfl, hc10, hm10⟩ := hF10.sl.val
          simp only [List.length_nil]
          clear hF10 IM9
          go_wp2_with fail
          go_ret
          exact ⟨rfl, hbw9.ext hb10⟩
end Go.Proofs.YtgfbjpmbaibnoaaGreatDoor
