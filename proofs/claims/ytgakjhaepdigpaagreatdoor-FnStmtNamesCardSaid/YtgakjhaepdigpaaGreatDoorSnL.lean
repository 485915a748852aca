
/- The law FnStmtNames: the walk. -/
import Derived.Test.YtgakjhaepdigpaaGreatDoorSnP
import Derived.Test.YtgakjhaepdigpaaGreatDoorEwG
import Derived.Test.YtgakjhaepdigpaaGreatDoorNmI
import Derived.Test.YtgakjhaepdigpaaGreatDoorSnD
import Derived.Test.YtgakjhaepdigpaaGreatDoorTli
import Derived.Test.YtgakjhaepdigpaaGreatDoorZm9
import Derived.Test.YtgakjhaepdigpaaGreatDoorImSs
namespace Go.Proofs.YtgakjhaepdigpaaGreatDoor
set_option maxRecDepth 100000
set_option linter.unusedSimpArgs false
set_option linter.unusedVariables false
open Go.RowKit
attribute [local go_sem] bs_toList bs_get bs_size cS

theorem uses_short : ∀ (e : E) (l : List Bytes), e.ok → (∀ x ∈ l, x.length ≤ 8) → ∀ x ∈ usesL l e, x.length ≤ 8
  | .num _, l, _, h => h
  | .nam s, l, he, h => by
    intro x hx
    simp only [usesL, addN] at hx
    split at hx
    · exact h x hx
    · rw [List.mem_append, List.mem_singleton] at hx
      rcases hx with hx | rfl
      · exact h x hx
      · exact (nameB_short he).2
  | .two _ a b, l, he, h => uses_short b _ he.2 (uses_short a l he.1 h)
  | .cast _ a, l, he, h => uses_short a l he h
theorem smNm_join (s : Sm) : (joinL (smNm s)).length ≤ 100000000 := by
  have h1 : ∀ x ∈ smNm s, x.length ≤ 8 := by
    unfold smNm
    split
    · next h =>
      obtain ⟨t, rfl, ht⟩ := smOkB_iff.1 h
      have hf := ht.1
      cases t with
      | none => simp only [SE.sm]; rw [usX_none, usX_none]; simp
      | slet nm ty e => simp only [SE.sm]; rw [usX_none, usX_ex]; exact uses_short e [] hf.2.1 (by simp)
      | say e => simp only [SE.sm]; rw [usX_none, usX_ex]; exact uses_short e [] hf.1 (by simp)
      | when a b => simp only [SE.sm]; rw [usX_ex, usX_ex]; exact uses_short b _ hf.2.1 (uses_short a [] hf.1.1 (by simp))
    · simp
  have h2 := joinL_le 8 _ h1
  have h3 := smNm_len s
  omega
theorem slb_one {W : World} {B b o n c i : Nat} {x : Bytes} (hb : b < B) (hi : i < n) (hc : n ≤ c) (hm : c ≤ 9223372036854775807) (hx : W.cell? ⟨b, o + i, none⟩ = some (.string (bs x))) : SlB W B (.slice (some ⟨b, o + i, none⟩) 1 (c - i)) [x] :=
  ⟨_, _, rfl, by simp only [List.length_singleton]; omega, by unfold maxLen; omega, fun _ => ⟨b, o + i, rfl, hb, fun j s hs k y hy => by
    have hj : j = 0 := by have := (List.getElem?_eq_some_iff.1 hs).1; simpa using this
    subst hj
    simp at hs
    subst hs
    have hk : k = 0 := by have := (List.getElem?_eq_some_iff.1 hy).1; simpa [strRow] using this
    subst hk
    simp [strRow] at hy
    subst hy
    simpa using hx⟩⟩
theorem app_none {ops : Array Oper} {o : Oper} {a : Act} {Q : Exit → Act → World → Prop} {w : World} {K : Act → World → Prop} {E : Prop} (hgd : o.guard = none) (s x : Operand) (ho : o.op = .call { callee := .builtin .append, args := #[s, x], argTypes := #[45, 45] })
    (A : Option Addr) (n c : Nat) (hs : a.eval s = .slice A n c) (hn : n ≤ c) (hc : c ≤ maxLen) (hx : a.eval x = .slice none 0 0)
    (h : K (a.put o.dst (.slice A n c)) w) :
    if Region.wanted o (yielded ops a.tmps) = true then Oper.wp Tryz.prog o a w K Q else E := by
  have hw : Region.wanted o (yielded ops a.tmps) = true := by unfold Region.wanted; rw [hgd]
  rw [if_pos hw]
  obtain ⟨i0, z, b, hi, hz0, hz1, hz2, hb, hzs⟩ := rtStr.info
  have hrun := run_append_nothing (P := Tryz.prog) w 45 45 o.type 9 i0 rtStr.und hi A n c hn (.slice none 0 0) (by rw [hz1]; exact _root_.Go.Src.ofNil w rtStr.und 0)
  unfold Oper.wp
  simp [execOp, ho, resolve, invoke, builtin, hs, hx, hrun, Result.andThen]
  exact h
theorem cS_now2 {w : World} {b : Nat} {k : Int} {nm ty : Bytes} {k1 n1 : Int} {s1 : Bytes} {v1 : Value} {k2 n2 : Int} {s2 : Bytes} {v2 : Value} (h : Blk w b 26 (cS k nm ty k1 n1 s1 v1 k2 n2 s2 v2)) :
    w.cell? ⟨b, 0, none⟩ = some (.int .i64 k) ∧ w.cell? ⟨b, 1, none⟩ = some (.string (bs nm)) ∧ w.cell? ⟨b, 2, none⟩ = some (.string (bs ty)) ∧ w.cell? ⟨b, 3, none⟩ = some (.int .i64 k1) ∧ w.cell? ⟨b, 4, none⟩ = some (.int .i64 n1) ∧ w.cell? ⟨b, 5, none⟩ = some (.string (bs s1)) ∧ w.cell? ⟨b, 6, none⟩ = some v1 ∧ w.cell? ⟨b, 7, none⟩ = some (.int .i64 k2) ∧ w.cell? ⟨b, 8, none⟩ = some (.int .i64 n2) ∧ w.cell? ⟨b, 9, none⟩ = some (.string (bs s2)) ∧ w.cell? ⟨b, 10, none⟩ = some v2 :=
  ⟨h.cell 0, h.cell 1, h.cell 2, h.cell 3, h.cell 4, h.cell 5, h.cell 6, h.cell 7, h.cell 8, h.cell 9, h.cell 10⟩
theorem line_tok2 {s : Sm} (h : smOkB s = true) : (smText s).length ≤ 116 ∧ ∃ l, tokL 0 (smText s) = some l := by
  obtain ⟨t, rfl, ht⟩ := smOkB_iff.1 h
  rw [smText_se ht.1]
  exact ⟨ht.2, _, tok_join t.words 0 (SE.words_kind' t ht.1)⟩
theorem take_mem {l : List Bytes} {k : Nat} {y x : Bytes} (h : l[k]? = some y) : decide (x ∈ l.take (k + 1)) = (decide (x ∈ l.take k) || (y == x)) := by
  rw [List.take_add_one, h]
  by_cases e : y = x
  · subst e
    simp
  · have e1 : (y == x) = false := by simpa using e
    rw [e1, Bool.or_false]
    congr 1
    simp only [Option.toList_some, List.mem_append, List.mem_singleton, eq_iff_iff]
    exact ⟨fun h => h.resolve_right (fun q => e q.symm), .inl⟩
set_option maxHeartbeats 8000000 in
theorem lawSNames (W : World) (v : Value) (cl : List Int) (hv : CodeV W v cl) (hE : EnvA W) : Calls Tryz.prog 6 #[v] W fun e w' => e = .returned (.bool true) ∧ Below W.heap.size W w' := by
  have DR := Lib.hid (drawN_any v cl W hv)
  obtain ⟨A, c, rfl, hc, hm⟩ := hv.1.val
  clear hv
  obtain ⟨big, hb1⟩ : ∃ b, decide ((1048576 : Int) < ((cl.length : Nat) : Int)) = b := ⟨_, rfl⟩
  cases big
  rotate_left
  · clear hE
    go_enter Tryz.func6, Tryz.ntmps6
    go_wp2_with fail
    go_ret
    exact ⟨rfl, Below.refl _ _⟩
  have HE := Lib.hid hE
  clear hE
  go_enter Tryz.func6, Tryz.ntmps6
  go_wp2_with fail
  refine DR.out.mono ?_
  rintro r w1 ⟨u, s, rfl, hV, hbw1⟩
  have hV := hV.less (Nat.zero_le _)
  obtain ⟨k, nm, ty, k1, n1, s1, A1, m1, cp1, k2, n2, s2, A2, m2, cp2, x1, x2, rfl, rfl, hXa, hXb, hla1, hla2⟩ := id hV.form
  have HV := Lib.hid hV
  clear hV
  go_upto_region 4 with fail
  generalize hW3 : World.alloc _ _ = W3
  have hB3 : Blk W3 w1.heap.size 26 (cS k nm ty k1 n1 s1 (.slice A1 m1 cp1) k2 n2 s2 (.slice A2 m2 cp2)) := by rw [← hW3]; exact Blk.new _ _ _
  have hb3 : Below w1.heap.size w1 W3 := by rw [← hW3]; (repeat (first | with_reducible assumption | with_reducible exact Below.refl _ _ | with_reducible refine Below.setCell ?_ (by first | omega | (simp; done) | (simp; omega)) _ | with_reducible refine Below.alloc ?_ (by first | omega | (simp; done) | (simp; omega)) _ | with_reducible refine below_drewN ?_ _ | with_reducible refine Below.drew ?_))
  clear hW3
  have hbW3 := hbw1.ext hb3
  have hz3 := hB3.lt
  have CE := Lib.hid (fun (w' : World) (h : Below W3.heap.size W3 w') => cS_now2 (hB3.below h hz3))
  have VA : ∀ w' : World, Below W3.heap.size W3 w' → SmV w' w'.heap.size (.agg #[.int .i64 k, .string (bs nm), .string (bs ty), .int .i64 k1, .int .i64 n1, .string (bs s1), .slice A1 m1 cp1, .int .i64 k2, .int .i64 n2, .string (bs s2), .slice A2 m2 cp2]) ⟨k, nm, ty, x1, x2⟩ := fun w' h => HV.out.smvF (hb3.ext h)
  have NI := Lib.hid (imStmtNames_any _ _ W3 (VA W3 (Below.refl _ _)) (HE.out.ext hbW3).env)
  have NS := Lib.hid (fun (w' : World) (h : Below W3.heap.size W3 w') => spStmtNames_any _ _ w' (VA w' h))
  have TI := Lib.hid (fun (w' : World) (h : Below W3.heap.size W3 w') => imStmtText_any _ _ w' (VA w' h) (HE.out.ext (hbW3.ext h)).env)
  have OK := Lib.hid (fun (w' : World) (h : Below W3.heap.size W3 w') => spStmtOk_any _ _ w' (VA w' h))
  have TL := Lib.hid (fun (t : Bytes) (ht : t.length ≤ 100000000) (w' : World) (h : Below W3.heap.size W3 w') => imTokLine_any t w' ht (HE.out.ext (hbW3.ext h)))
  have EX1 := Lib.hid (fun (w' : World) (h : Below W3.heap.size W3 w') => imEWG_any x1 _ w' ((hXa.ext (hb3.ext h)).exv) (HE.out.ext (hbW3.ext h)).env)
  have EX2 := Lib.hid (fun (w' : World) (h : Below W3.heap.size W3 w') => imEWG_any x2 _ w' ((hXb.ext (hb3.ext h)).exv) (HE.out.ext (hbW3.ext h)).env)
  have EX2n := Lib.hid (fun (hx : exOkB x2 = false) (w' : World) (h : Below W3.heap.size W3 w') => imEWno_any x2 _ w' hx ((hXb.ext (hb3.ext h)).exv) (HE.out.ext (hbW3.ext h)).env)
  have hnj := smNm_join ⟨k, nm, ty, x1, x2⟩
  have hnl := smNm_len ⟨k, nm, ty, x1, x2⟩
  have HN0 := Lib.hid (show smOkB ⟨k, nm, ty, x1, x2⟩ = false → smNm ⟨k, nm, ty, x1, x2⟩ = [] from fun h => by unfold smNm; rw [h]; rfl)
  clear hXa hXb VA HV
  obtain ⟨nl, hnle⟩ : ∃ nl, nl = smNm ⟨k, nm, ty, x1, x2⟩ := ⟨_, rfl⟩
  rw [← hnle] at NI NS hnj hnl HN0
  have HNL := Lib.hid hnle
  clear hnle
  have hte : (joinL nl != joinL nl) = false := by simp
  obtain ⟨y0, y1, y2, y3, y4, y5, y6, y7, y8, y9, y10⟩ := (CE.out W3 (Below.refl _ _))
  go_wp2_with fail
  refine NI.out.mono ?_
  rintro r w4 ⟨u4, rfl, hF4, hb34⟩
  have hS4 := hF4.sl
  obtain ⟨A4, c4, rfl, hc4, hm4⟩ := hS4.val
  clear y0 y1 y2 y3 y4 y5 y6 y7 y8 y9 y10 NI hF4
  obtain ⟨y0, y1, y2, y3, y4, y5, y6, y7, y8, y9, y10⟩ := (CE.out w4 hb34)
  go_wp2_with fail
  refine (NS.out w4 hb34).mono ?_
  rintro r w5 ⟨u5, rfl, hG5, hb5⟩
  have hb35 := hb34.ext hb5
  have hS5 := hG5.sl (fun _ => rfl)
  obtain ⟨A5, c5, rfl, hc5, hm5⟩ := hG5.val
  have hS45 : SlB w5 w5.heap.size (.slice A4 nl.length c4) nl := (hS4.below hb5 (Nat.le_refl _)).more hb5.size
  have T1 := Lib.hid (imTokText_any nl _ w5 hS45 hnj (by omega))
  have T2 := Lib.hid (fun (w' : World) (h : Below w5.heap.size w5 w') => spTokText_any nl _ w' ((hS5.below h (Nat.le_refl _)).more h.size) hnj)
  have HS4 := Lib.hid hS45
  clear y0 y1 y2 y3 y4 y5 y6 y7 y8 y9 y10 NS hG5 hS5 hS4 hS45
  go_wp2_with fail
  refine T1.out.mono ?_
  rintro r w6 ⟨rfl, hb6⟩
  go_wp2_with fail
  refine (T2.out w6 hb6).mono ?_
  rintro r _ ⟨rfl, rfl⟩
  have hb36 := hb35.ext hb6
  have O1 := Lib.hid (OK.out _ hb36)
  clear T1 T2 OK
  obtain ⟨y0, y1, y2, y3, y4, y5, y6, y7, y8, y9, y10⟩ := (CE.out w6 hb36)
  cases hok : smOkB ⟨k, nm, ty, x1, x2⟩
  · rw [hok] at O1
    have hn0 := HN0.out hok
    subst hn0
    go_wp2_with fail
    refine O1.out.mono ?_
    rintro r w7 ⟨rfl, hb7⟩
    go_wp2_with fail
    go_ret
    exact ⟨rfl, hbW3.ext (hb36.ext hb7)⟩
  rw [hok] at O1
  have HOK := Lib.hid hok
  obtain ⟨htl, l0, hl0⟩ := line_tok2 hok
  have htx : (if smOkB ⟨k, nm, ty, x1, x2⟩ = true then smText ⟨k, nm, ty, x1, x2⟩ else []) = smText ⟨k, nm, ty, x1, x2⟩ := if_pos hok
  rw [htx] at TI
  generalize smText ⟨k, nm, ty, x1, x2⟩ = tx at *
  clear hok htx hte hnj HN0
  go_wp2_with fail
  refine O1.out.mono ?_
  rintro r w7 ⟨rfl, hb7⟩
  have hb37 := hb36.ext hb7
  have HS4' := Lib.hid (fun (w' : World) (h : Below w7.heap.size w7 w') => ((HS4.out.below hb6 (Nat.le_refl _)).more hb6.size : SlB w6 w6.heap.size (.slice A4 nl.length c4) nl))
  have HN4 := Lib.hid (show SlB w7 w7.heap.size (.slice A4 nl.length c4) nl from (((HS4.out.below hb6 (Nat.le_refl _)).more hb6.size).below hb7 (Nat.le_refl _)).more hb7.size)
  clear y0 y1 y2 y3 y4 y5 y6 y7 y8 y9 y10 O1 HS4 HS4' hb35 hb36
  have tok1 : True := trivial
  have hz7 := hb37.size
  have KEEP := Lib.hid (show ∀ w' : World, Below w7.heap.size w7 w' → (w'.cell? ⟨w1.heap.size, 3, none⟩ = some (.int .i64 k1) ∧ w'.cell? ⟨w1.heap.size, 4, none⟩ = some (.int .i64 n1) ∧ w'.cell? ⟨w1.heap.size, 5, none⟩ = some (.string (bs s1)) ∧ w'.cell? ⟨w1.heap.size, 6, none⟩ = some (.slice A1 m1 cp1) ∧ w'.cell? ⟨w1.heap.size, 7, none⟩ = some (.int .i64 k2) ∧ w'.cell? ⟨w1.heap.size, 8, none⟩ = some (.int .i64 n2) ∧ w'.cell? ⟨w1.heap.size, 9, none⟩ = some (.string (bs s2)) ∧ w'.cell? ⟨w1.heap.size, 10, none⟩ = some (.slice A2 m2 cp2)) from fun w' h => by
    obtain ⟨_, _, _, y3, y4, y5, y6, y7, y8, y9, y10⟩ := CE.out w' (hb37.ext h)
    exact ⟨y3, y4, y5, y6, y7, y8, y9, y10⟩)
  obtain ⟨y3, y4, y5, y6, y7, y8, y9, y10⟩ := KEEP.out w7 (Below.refl _ _)
  by_cases hx2 : exOkB x2 = true
  · have hpos : 0 < (exW x2).length := by
      obtain ⟨e, rfl, he⟩ := E.ok_iff.1 hx2
      rw [exW_yes he]
      exact E.words_pos e 1
    have hle1 := exW_len x1
    have hle2 := exW_len x2
    obtain ⟨L, hL0⟩ : ∃ L, exW x1 ++ exW x2 = L := ⟨_, rfl⟩
    clear hx2 EX2n
    go_upto_region 10 with fail
    go_region_held3 (fun w' => w'.cell? ⟨w1.heap.size, 3, none⟩ = some (.int .i64 k1) ∧ w'.cell? ⟨w1.heap.size, 4, none⟩ = some (.int .i64 n1) ∧ w'.cell? ⟨w1.heap.size, 5, none⟩ = some (.string (bs s1)) ∧ w'.cell? ⟨w1.heap.size, 6, none⟩ = some (.slice A1 m1 cp1) ∧ w'.cell? ⟨w1.heap.size, 7, none⟩ = some (.int .i64 k2) ∧ w'.cell? ⟨w1.heap.size, 8, none⟩ = some (.int .i64 n2) ∧ w'.cell? ⟨w1.heap.size, 9, none⟩ = some (.string (bs s2)) ∧ w'.cell? ⟨w1.heap.size, 10, none⟩ = some (.slice A2 m2 cp2))
      (first | exact KEEP.out _ (by (repeat (first | with_reducible assumption | with_reducible exact Below.refl _ _ | with_reducible refine Below.setCell ?_ (by first | omega | (simp; done) | (simp; omega)) _ | with_reducible refine Below.alloc ?_ (by first | omega | (simp; done) | (simp; omega)) _ | with_reducible refine below_drewN ?_ _ | with_reducible refine Below.drew ?_ | with_reducible refine Below.trans ?_ (Below.mono hb8 (by first | omega | (simp; done) | (simp; omega))) | with_reducible refine Below.trans ?_ (Below.mono hb9 (by first | omega | (simp; done) | (simp; omega))) | with_reducible refine Below.trans ?_ (Below.mono hb6' (by first | omega | (simp; done) | (simp; omega)))))) | go_keep)
      (first
        | (have tk := tok1; go_at_call 32; refine (EX1.out _ (by (repeat (first | with_reducible assumption | with_reducible exact Below.refl _ _ | with_reducible refine Below.setCell ?_ (by first | omega | (simp; done) | (simp; omega)) _ | with_reducible refine Below.alloc ?_ (by first | omega | (simp; done) | (simp; omega)) _ | with_reducible refine below_drewN ?_ _ | with_reducible refine Below.drew ?_ | with_reducible refine Below.trans ?_ (Below.mono hb37 (by first | omega | (simp; done) | (simp; omega))))))).mono ?_; rintro r w8 ⟨u8, rfl, hG8, hb8⟩; clear tk tok1; have hz8 := hb8.size; (try simp at hz8); obtain ⟨B8, d8, rfl, hcc8, hmm8⟩ := hG8.val)
        | (have tk := hb8; go_at_call 32; refine (EX2.out _ (by (repeat (first | with_reducible assumption | with_reducible exact Below.refl _ _ | with_reducible refine Below.setCell ?_ (by first | omega | (simp; done) | (simp; omega)) _ | with_reducible refine Below.alloc ?_ (by first | omega | (simp; done) | (simp; omega)) _ | with_reducible refine below_drewN ?_ _ | with_reducible refine Below.drew ?_ | with_reducible refine Below.trans ?_ (Below.mono hb8 (by first | omega | (simp; done) | (simp; omega))) | with_reducible refine Below.trans ?_ (Below.mono hb37 (by first | omega | (simp; done) | (simp; omega))))))).mono ?_; rintro r w9 ⟨u9, rfl, hG9, hb9⟩; clear tk; have hz9 := hb9.size; (try simp at hz9); obtain ⟨gg, cap9, rfl, hgl9, hgh9⟩ := hG9.block hpos)
        | (refine aps_step (by rfl) (.tmp 36) (.tmp 39) (by rfl) w7.heap.size (.slice B8 (exW x1).length d8) (exW x1) (by rfl) ?_ ⟨gg, 0, none⟩ cap9 (exW x2) (by rfl) ?_ hpos ?_ ?_ ?_; exact (hG8.less (by first | omega | (simp; done) | (simp only [List.length_cons, List.length_nil, List.length_append]; omega) | (simp; omega))).ext (by (repeat (first | with_reducible assumption | with_reducible exact Below.refl _ _ | with_reducible refine Below.setCell ?_ (by first | omega | (simp; done) | (simp; omega)) _ | with_reducible refine Below.alloc ?_ (by first | omega | (simp; done) | (simp; omega)) _ | with_reducible refine below_drewN ?_ _ | with_reducible refine Below.drew ?_ | with_reducible refine Below.trans ?_ (Below.mono hb9 (by first | omega | (simp; done) | (simp; omega)))))); exact (hG9.ext (by (repeat (first | with_reducible assumption | with_reducible exact Below.refl _ _ | with_reducible refine Below.setCell ?_ (by first | omega | (simp; done) | (simp; omega)) _ | with_reducible refine Below.alloc ?_ (by first | omega | (simp; done) | (simp; omega)) _ | with_reducible refine below_drewN ?_ _ | with_reducible refine Below.drew ?_)))).cells; (first | omega | (simp; done) | (simp only [List.length_cons, List.length_nil, List.length_append]; omega) | (simp; omega)); (first | omega | (simp; done) | (simp only [List.length_cons, List.length_nil, List.length_append]; omega) | (simp; omega)); intro g6 cap6 w6 hG6 hgr6 hat6; have hb6' : Below w7.heap.size w7 w6 := below_app (by (repeat (first | with_reducible assumption | with_reducible exact Below.refl _ _ | with_reducible refine Below.setCell ?_ (by first | omega | (simp; done) | (simp; omega)) _ | with_reducible refine Below.alloc ?_ (by first | omega | (simp; done) | (simp; omega)) _ | with_reducible refine below_drewN ?_ _ | with_reducible refine Below.drew ?_ | with_reducible refine Below.trans ?_ (Below.mono hb9 (by first | omega | (simp; done) | (simp; omega))) | with_reducible refine Below.trans ?_ (Below.mono hb8 (by first | omega | (simp; done) | (simp; omega)))))) hgr6 (fun q hq => by have := (hG8.lt hq).1; simpa using this) (by first | omega | (simp; done) | (simp only [List.length_cons, List.length_nil, List.length_append]; omega) | (simp; omega)))
        | fail)
    all_goals
      have hb7W : Below w7.heap.size w7 w6 := hb6'
      have hb3W := hb37.ext hb7W
      have hv6 := hG6.sl (fun _ => rfl)
      have hlen6 : (exW x1).length + (exW x2).length = L.length := by rw [← hL0]; simp
      rw [hL0, hlen6] at hv6
      rw [hlen6]
      clear hb6' hb37 hb8 hb9 hgr6 hat6 hG6 hG8 hG9 EX1 EX2 KEEP y3 y4 y5 y6 y7 y8 y9 y10 hle1 hle2 hpos
      generalize Value.slice (some ⟨g6, 0, none⟩) L.length cap6 = u6 at *
      generalize w6 = WX at *
      have hLn : L.length ≤ 116 := by rw [← hL0]; have := exW_len x1; have := exW_len x2; simp; omega
      have HL0 := Lib.hid hL0
      obtain ⟨A6, c6, rfl, hc6, hm6⟩ := hv6.val
      clear hL0
      go_wp2_with fail
      go_loopg [7] L.length (fun g p wr => ∃ i : Nat, g = L.length - i ∧ i ≤ L.length ∧ p = .int .i64 i ∧ Below WX.heap.size WX wr)
      case atStart => exact ⟨0, by omega, by omega, rfl, Below.refl _ _⟩
      case round =>
        obtain ⟨i, hk, hi, rfl, hbl⟩ := hrel
        have HK := Lib.hid hk
        clear hk
        have hb3r := hb3W.ext hbl
        by_cases hlt : i < L.length
        · obtain ⟨b, o, x, rfl, hb, hg, hx⟩ := sl_at hv6 hlt
          have x0 := fun q : Later WX.heap.size WX => hx q 0 _ rfl
          simp only [Nat.mul_one, Nat.add_zero] at x0
          have hbr : b < wr.heap.size := Nat.lt_of_lt_of_le hb hbl.size
          have hxl : x.length ≤ 100000000 := by
            have hm := List.mem_of_getElem? hg
            rw [← HL0.out, List.mem_append] at hm
            rcases hm with hm | hm
            · have := exW_short x1 x hm; omega
            · have := exW_short x2 x hm; omega
          have RD := Lib.hid (imExprRead_any [x] _ wr (slb_one (o := o) (n := L.length) (c := c6) hbr hlt hc6 hm6 (x0 ⟨wr, hbl⟩)) (fun s hs => by rw [List.mem_singleton] at hs; subst hs; exact hxl) (HE.out.ext (hbW3.ext hb3r)))
          have TK := Lib.hid (fun (w' : World) (h : Below W3.heap.size W3 w') => imKind_any x w' hxl (HE.out.ext (hbW3.ext h)))
          have HM := Lib.hid (fun (h1 : rdOk [x] = true) (h2 : kindL x = 1) => sn_mem HOK.out (by rw [HL0.out]; exact List.mem_of_getElem? hg) h1 h2)
          unfold RdP at RD
          generalize rdOk [x] = ro at *
          generalize rdX [x] = rx at *
          generalize kindL x = kx at *
          clear hx hg hxl
          have q1 : ((i : Int) ≤ (i : Int) + 1) := by omega
          have q2 : ((i : Int) + 1 ≤ (L.length : Int)) := by omega
          have q3 : ((i : Int) + 1 ≤ (c6 : Int)) := by omega
          have q4 : ¬ c6 = i := by omega
          go_wp2_with fail
          refine RD.out.mono ?_
          rintro r w8 ⟨v8, rfl, hT8, hb8⟩
          have hbl8 := hbl.ext hb8
          obtain ⟨A8, c8, rfl, _⟩ := hT8.form3
          clear hT8 RD hb8 hb3r
          go_upto_region 15 with fail
          generalize hW9 : World.alloc _ _ = W9
          have hb9 : Below w8.heap.size w8 W9 := by rw [← hW9]; (repeat (first | with_reducible assumption | with_reducible exact Below.refl _ _ | with_reducible refine Below.setCell ?_ (by first | omega | (simp; done) | (simp; omega)) _ | with_reducible refine Below.alloc ?_ (by first | omega | (simp; done) | (simp; omega)) _ | with_reducible refine below_drewN ?_ _ | with_reducible refine Below.drew ?_))
          have hbl9 := hbl8.ext hb9
          have hb39 := hb3W.ext hbl9
          clear hW9 hb9 hbl8
          cases ro
          · go_wp2_with fail
            go_roundg (L.length - (i + 1))
            case measure => have := HK.out; omega
            case rel => exact ⟨i + 1, rfl, by omega, by go_num, hbl9⟩
          have x9 := x0 ⟨W9, hbl9⟩
          go_wp2_with fail
          refine (TK.out W9 hb39).mono ?_
          rintro r wa ⟨rfl, hba⟩
          have hbla := hbl9.ext hba
          have hb3a := hb39.ext hba
          clear TK hba hb39 hbl9 x9
          by_cases hk1 : kx = 1
          rotate_left
          · have hkk : ((kx : Int) != 1) = true := by rw [bne_iff_ne]; omega
            go_wp2_with fail
            go_roundg (L.length - (i + 1))
            case measure => have := HK.out; omega
            case rel => exact ⟨i + 1, rfl, by omega, by go_num, hbla⟩
          subst hk1
          have hmem := HM.out (by trivial) (by trivial)
          rw [← HNL.out] at hmem
          have HMM := Lib.hid hmem
          have hNa := (HN4.out.below (hb7W.ext hbla) (Nat.le_refl _)).more (hb7W.ext hbla).size
          clear HM hmem
          go_wp2_with fail
          have hbWa := hbla
          clear hbla
          go_loopg [10, 11] nl.length (fun g sm p wq => ∃ j : Nat, g = nl.length - j ∧ j ≤ nl.length ∧ sm = .bool (decide (x ∈ nl.take j)) ∧ p = .int .i64 j ∧ Below wa.heap.size wa wq)
          case atStart => exact ⟨0, by omega, by omega, by simp, rfl, Below.refl _ _⟩
          case round =>
            obtain ⟨j, hk, hj, rfl, rfl, hbq⟩ := hrel
            have HK2 := Lib.hid hk
            clear hk
            by_cases hlt2 : j < nl.length
            · obtain ⟨b4, o4, y, rfl, hb4, hg4, hx4⟩ := sl_at hNa hlt2
              have z0 := fun q : Later wa.heap.size wa => hx4 q 0 _ rfl
              simp only [Nat.mul_one, Nat.add_zero] at z0
              have xx := fun q : Later wa.heap.size wa => x0 ⟨q.w', hbWa.ext q.ok⟩
              have HT := Lib.hid (take_mem (x := x) hg4)
              generalize decide (x ∈ nl.take j) = bo at *
              clear hx4 hg4 hNa
              go_wp2_with fail
              cases bo
              · refine wp_region_later hbq (by kernel_rfl) (by kernel_rfl) ?_
                repeat (go_big_quiet_step (fail))
                refine wpQuiet_nil ?_
                rintro _ ⟨q, rfl⟩
                have hbq2 := q.ok
                go_wp2_with fail
                go_roundg (nl.length - (j + 1))
                case measure => have := HK2.out; omega
                case rel => exact ⟨j + 1, rfl, by omega, by rw [HT.out]; rfl, by go_num, hbq2⟩
              · refine wp_region_later hbq (by kernel_rfl) (by kernel_rfl) ?_
                repeat (go_big_quiet_step (fail))
                refine wpQuiet_nil ?_
                rintro _ ⟨q, rfl⟩
                have hbq2 := q.ok
                go_wp2_with fail
                go_roundg (nl.length - (j + 1))
                case measure => have := HK2.out; omega
                case rel => exact ⟨j + 1, rfl, by omega, by rw [HT.out]; rfl, by go_num, hbq2⟩
            · obtain rfl : j = nl.length := by omega
              have hd : decide (x ∈ nl.take nl.length) = true := by rw [List.take_length, decide_eq_true HMM.out]
              rw [hd]
              clear hNa hd
              go_wp2_with fail
              go_roundg (L.length - (i + 1))
              case measure => have := HK.out; omega
              case rel => exact ⟨i + 1, rfl, by omega, by go_num, hbWa.ext hbq⟩
        · clear hbl hv6 HN4
          have TLL := Lib.hid (fun (w' : World) (h : Below W3.heap.size W3 w') => TL.out tx (by omega) w' h)
          unfold TlI at TLL
          obtain ⟨y0, y1, y2, y3, y4, y5, y6, y7, y8, y9, y10⟩ := CE.out wr hb3r
          go_wp2_with fail
          refine (TI.out wr hb3r).mono ?_
          rintro r w8 ⟨rfl, hb8⟩
          have hb38 := hb3r.ext hb8
          clear y0 y1 y2 y3 y4 y5 y6 y7 y8 y9 y10
          go_wp2_with fail
          refine (TLL.out w8 hb38).mono ?_
          rintro r w9 ⟨x9, lw, ok9, rfl, hF9, hor, hb9⟩
          obtain rfl : ok9 = true := by
            rcases hor with ⟨rfl, _, h⟩ | ⟨_, _, h | h⟩
            · rfl
            · omega
            · rw [hl0] at h; cases h
          obtain ⟨A9, c9, rfl, _, _⟩ := hF9.sl.val
          have hb39 := hb38.ext hb9
          clear hF9 hor TLL TL hl0
          obtain ⟨y0, y1, y2, y3, y4, y5, y6, y7, y8, y9, y10⟩ := CE.out w9 hb39
          have h120 : ((tx.length : Nat) : Int) ≤ 120 := by omega
          go_wp2_with fail
          refine (TI.out w9 hb39).mono ?_
          rintro r wz ⟨rfl, hbz⟩
          go_wp2_with fail
          go_ret
          exact ⟨ret_bool (by first | rfl | (rw [eq_comm, decide_eq_true_eq]; first | exact h120 | omega)), hbW3.ext (hb39.ext hbz)⟩
  · have hx2 : exOkB x2 = false := by simpa using hx2
    have EX3 := Lib.hid (EX2n.out hx2)
    have hle1 := exW_len x1
    obtain ⟨L, hL0⟩ : ∃ L, exW x1 ++ exW x2 = L := ⟨_, rfl⟩
    have HL1 := Lib.hid (show exW x1 = L by rw [← hL0, exW_no hx2, List.append_nil])
    clear hx2 EX2n EX2
    go_upto_region 10 with fail
    go_region_held3 (fun w' => w'.cell? ⟨w1.heap.size, 3, none⟩ = some (.int .i64 k1) ∧ w'.cell? ⟨w1.heap.size, 4, none⟩ = some (.int .i64 n1) ∧ w'.cell? ⟨w1.heap.size, 5, none⟩ = some (.string (bs s1)) ∧ w'.cell? ⟨w1.heap.size, 6, none⟩ = some (.slice A1 m1 cp1) ∧ w'.cell? ⟨w1.heap.size, 7, none⟩ = some (.int .i64 k2) ∧ w'.cell? ⟨w1.heap.size, 8, none⟩ = some (.int .i64 n2) ∧ w'.cell? ⟨w1.heap.size, 9, none⟩ = some (.string (bs s2)) ∧ w'.cell? ⟨w1.heap.size, 10, none⟩ = some (.slice A2 m2 cp2))
      (first | exact KEEP.out _ (by (repeat (first | with_reducible assumption | with_reducible exact Below.refl _ _ | with_reducible refine Below.setCell ?_ (by first | omega | (simp; done) | (simp; omega)) _ | with_reducible refine Below.alloc ?_ (by first | omega | (simp; done) | (simp; omega)) _ | with_reducible refine below_drewN ?_ _ | with_reducible refine Below.drew ?_ | with_reducible refine Below.trans ?_ (Below.mono hb8 (by first | omega | (simp; done) | (simp; omega))) | with_reducible refine Below.trans ?_ (Below.mono hb9 (by first | omega | (simp; done) | (simp; omega)))))) | go_keep)
      (first
        | (have tk := tok1; go_at_call 32; refine (EX1.out _ (by (repeat (first | with_reducible assumption | with_reducible exact Below.refl _ _ | with_reducible refine Below.setCell ?_ (by first | omega | (simp; done) | (simp; omega)) _ | with_reducible refine Below.alloc ?_ (by first | omega | (simp; done) | (simp; omega)) _ | with_reducible refine below_drewN ?_ _ | with_reducible refine Below.drew ?_ | with_reducible refine Below.trans ?_ (Below.mono hb37 (by first | omega | (simp; done) | (simp; omega))))))).mono ?_; rintro r w8 ⟨u8, rfl, hG8, hb8⟩; clear tk tok1; have hz8 := hb8.size; (try simp at hz8); obtain ⟨B8, d8, rfl, hcc8, hmm8⟩ := hG8.val)
        | (have tk := hb8; go_at_call 32; refine (EX3.out _ (by (repeat (first | with_reducible assumption | with_reducible exact Below.refl _ _ | with_reducible refine Below.setCell ?_ (by first | omega | (simp; done) | (simp; omega)) _ | with_reducible refine Below.alloc ?_ (by first | omega | (simp; done) | (simp; omega)) _ | with_reducible refine below_drewN ?_ _ | with_reducible refine Below.drew ?_ | with_reducible refine Below.trans ?_ (Below.mono hb8 (by first | omega | (simp; done) | (simp; omega))) | with_reducible refine Below.trans ?_ (Below.mono hb37 (by first | omega | (simp; done) | (simp; omega))))))).mono ?_; rintro r w9 ⟨rfl, hb9⟩; clear tk; have hz9 := hb9.size; (try simp at hz9))
        | (refine app_none (by rfl) (.tmp 36) (.tmp 39) (by rfl) B8 (exW x1).length d8 (by rfl) hcc8 (by unfold maxLen; omega) (by rfl) ?_)
        | fail)
    all_goals
      have hb7W : Below w7.heap.size w7 w9 := by (repeat (first | with_reducible assumption | with_reducible exact Below.refl _ _ | with_reducible refine Below.setCell ?_ (by first | omega | (simp; done) | (simp; omega)) _ | with_reducible refine Below.alloc ?_ (by first | omega | (simp; done) | (simp; omega)) _ | with_reducible refine below_drewN ?_ _ | with_reducible refine Below.drew ?_ | with_reducible refine Below.trans ?_ (Below.mono hb9 (by first | omega | (simp; done) | (simp; omega))) | with_reducible refine Below.trans ?_ (Below.mono hb8 (by first | omega | (simp; done) | (simp; omega)))))
      have hb3W := hb37.ext hb7W
      have hv6 := (hG8.ext hb9).sl (fun _ => rfl)
      rw [HL1.out] at hv6
      rw [HL1.out]
      clear hb37 hb8 hb9 hG8 EX1 EX3 KEEP y3 y4 y5 y6 y7 y8 y9 y10 hle1
      generalize Value.slice B8 L.length d8 = u6 at *
      generalize w9 = WX at *
      have hLn : L.length ≤ 116 := by rw [← hL0]; have := exW_len x1; have := exW_len x2; simp; omega
      have HL0 := Lib.hid hL0
      obtain ⟨A6, c6, rfl, hc6, hm6⟩ := hv6.val
      clear hL0
      go_wp2_with fail
      go_loopg [7] L.length (fun g p wr => ∃ i : Nat, g = L.length - i ∧ i ≤ L.length ∧ p = .int .i64 i ∧ Below WX.heap.size WX wr)
      case atStart => exact ⟨0, by omega, by omega, rfl, Below.refl _ _⟩
      case round =>
        obtain ⟨i, hk, hi, rfl, hbl⟩ := hrel
        have HK := Lib.hid hk
        clear hk
        have hb3r := hb3W.ext hbl
        by_cases hlt : i < L.length
        · obtain ⟨b, o, x, rfl, hb, hg, hx⟩ := sl_at hv6 hlt
          have x0 := fun q : Later WX.heap.size WX => hx q 0 _ rfl
          simp only [Nat.mul_one, Nat.add_zero] at x0
          have hbr : b < wr.heap.size := Nat.lt_of_lt_of_le hb hbl.size
          have hxl : x.length ≤ 100000000 := by
            have hm := List.mem_of_getElem? hg
            rw [← HL0.out, List.mem_append] at hm
            rcases hm with hm | hm
            · have := exW_short x1 x hm; omega
            · have := exW_short x2 x hm; omega
          have RD := Lib.hid (imExprRead_any [x] _ wr (slb_one (o := o) (n := L.length) (c := c6) hbr hlt hc6 hm6 (x0 ⟨wr, hbl⟩)) (fun s hs => by rw [List.mem_singleton] at hs; subst hs; exact hxl) (HE.out.ext (hbW3.ext hb3r)))
          have TK := Lib.hid (fun (w' : World) (h : Below W3.heap.size W3 w') => imKind_any x w' hxl (HE.out.ext (hbW3.ext h)))
          have HM := Lib.hid (fun (h1 : rdOk [x] = true) (h2 : kindL x = 1) => sn_mem HOK.out (by rw [HL0.out]; exact List.mem_of_getElem? hg) h1 h2)
          unfold RdP at RD
          generalize rdOk [x] = ro at *
          generalize rdX [x] = rx at *
          generalize kindL x = kx at *
          clear hx hg hxl
          have q1 : ((i : Int) ≤ (i : Int) + 1) := by omega
          have q2 : ((i : Int) + 1 ≤ (L.length : Int)) := by omega
          have q3 : ((i : Int) + 1 ≤ (c6 : Int)) := by omega
          have q4 : ¬ c6 = i := by omega
          go_wp2_with fail
          refine RD.out.mono ?_
          rintro r w8 ⟨v8, rfl, hT8, hb8⟩
          have hbl8 := hbl.ext hb8
          obtain ⟨A8, c8, rfl, _⟩ := hT8.form3
          clear hT8 RD hb8 hb3r
          go_upto_region 15 with fail
          generalize hW9 : World.alloc _ _ = W9
          have hb9 : Below w8.heap.size w8 W9 := by rw [← hW9]; (repeat (first | with_reducible assumption | with_reducible exact Below.refl _ _ | with_reducible refine Below.setCell ?_ (by first | omega | (simp; done) | (simp; omega)) _ | with_reducible refine Below.alloc ?_ (by first | omega | (simp; done) | (simp; omega)) _ | with_reducible refine below_drewN ?_ _ | with_reducible refine Below.drew ?_))
          have hbl9 := hbl8.ext hb9
          have hb39 := hb3W.ext hbl9
          clear hW9 hb9 hbl8
          cases ro
          · go_wp2_with fail
            go_roundg (L.length - (i + 1))
            case measure => have := HK.out; omega
            case rel => exact ⟨i + 1, rfl, by omega, by go_num, hbl9⟩
          have x9 := x0 ⟨W9, hbl9⟩
          go_wp2_with fail
          refine (TK.out W9 hb39).mono ?_
          rintro r wa ⟨rfl, hba⟩
          have hbla := hbl9.ext hba
          have hb3a := hb39.ext hba
          clear TK hba hb39 hbl9 x9
          by_cases hk1 : kx = 1
          rotate_left
          · have hkk : ((kx : Int) != 1) = true := by rw [bne_iff_ne]; omega
            go_wp2_with fail
            go_roundg (L.length - (i + 1))
            case measure => have := HK.out; omega
            case rel => exact ⟨i + 1, rfl, by omega, by go_num, hbla⟩
          subst hk1
          have hmem := HM.out (by trivial) (by trivial)
          rw [← HNL.out] at hmem
          have HMM := Lib.hid hmem
          have hNa := (HN4.out.below (hb7W.ext hbla) (Nat.le_refl _)).more (hb7W.ext hbla).size
          clear HM hmem
          go_wp2_with fail
          have hbWa := hbla
          clear hbla
          go_loopg [10, 11] nl.length (fun g sm p wq => ∃ j : Nat, g = nl.length - j ∧ j ≤ nl.length ∧ sm = .bool (decide (x ∈ nl.take j)) ∧ p = .int .i64 j ∧ Below wa.heap.size wa wq)
          case atStart => exact ⟨0, by omega, by omega, by simp, rfl, Below.refl _ _⟩
          case round =>
            obtain ⟨j, hk, hj, rfl, rfl, hbq⟩ := hrel
            have HK2 := Lib.hid hk
            clear hk
            by_cases hlt2 : j < nl.length
            · obtain ⟨b4, o4, y, rfl, hb4, hg4, hx4⟩ := sl_at hNa hlt2
              have z0 := fun q : Later wa.heap.size wa => hx4 q 0 _ rfl
              simp only [Nat.mul_one, Nat.add_zero] at z0
              have xx := fun q : Later wa.heap.size wa => x0 ⟨q.w', hbWa.ext q.ok⟩
              have HT := Lib.hid (take_mem (x := x) hg4)
              generalize decide (x ∈ nl.take j) = bo at *
              clear hx4 hg4 hNa
              go_wp2_with fail
              cases bo
              · refine wp_region_later hbq (by kernel_rfl) (by kernel_rfl) ?_
                repeat (go_big_quiet_step (fail))
                refine wpQuiet_nil ?_
                rintro _ ⟨q, rfl⟩
                have hbq2 := q.ok
                go_wp2_with fail
                go_roundg (nl.length - (j + 1))
                case measure => have := HK2.out; omega
                case rel => exact ⟨j + 1, rfl, by omega, by rw [HT.out]; rfl, by go_num, hbq2⟩
              · refine wp_region_later hbq (by kernel_rfl) (by kernel_rfl) ?_
                repeat (go_big_quiet_step (fail))
                refine wpQuiet_nil ?_
                rintro _ ⟨q, rfl⟩
                have hbq2 := q.ok
                go_wp2_with fail
                go_roundg (nl.length - (j + 1))
                case measure => have := HK2.out; omega
                case rel => exact ⟨j + 1, rfl, by omega, by rw [HT.out]; rfl, by go_num, hbq2⟩
            · obtain rfl : j = nl.length := by omega
              have hd : decide (x ∈ nl.take nl.length) = true := by rw [List.take_length, decide_eq_true HMM.out]
              rw [hd]
              clear hNa hd
              go_wp2_with fail
              go_roundg (L.length - (i + 1))
              case measure => have := HK.out; omega
              case rel => exact ⟨i + 1, rfl, by omega, by go_num, hbWa.ext hbq⟩
        · clear hbl hv6 HN4
          have TLL := Lib.hid (fun (w' : World) (h : Below W3.heap.size W3 w') => TL.out tx (by omega) w' h)
          unfold TlI at TLL
          obtain ⟨y0, y1, y2, y3, y4, y5, y6, y7, y8, y9, y10⟩ := CE.out wr hb3r
          go_wp2_with fail
          refine (TI.out wr hb3r).mono ?_
          rintro r w8 ⟨rfl, hb8⟩
          have hb38 := hb3r.ext hb8
          clear y0 y1 y2 y3 y4 y5 y6 y7 y8 y9 y10
          go_wp2_with fail
          refine (TLL.out w8 hb38).mono ?_
          rintro r w9 ⟨x9, lw, ok9, rfl, hF9, hor, hb9⟩
          obtain rfl : ok9 = true := by
            rcases hor with ⟨rfl, _, h⟩ | ⟨_, _, h | h⟩
            · rfl
            · omega
            · rw [hl0] at h; cases h
          obtain ⟨A9, c9, rfl, _, _⟩ := hF9.sl.val
          have hb39 := hb38.ext hb9
          clear hF9 hor TLL TL hl0
          obtain ⟨y0, y1, y2, y3, y4, y5, y6, y7, y8, y9, y10⟩ := CE.out w9 hb39
          have h120 : ((tx.length : Nat) : Int) ≤ 120 := by omega
          go_wp2_with fail
          refine (TI.out w9 hb39).mono ?_
          rintro r wz ⟨rfl, hbz⟩
          go_wp2_with fail
          go_ret
          exact ⟨ret_bool (by first | rfl | (rw [eq_comm, decide_eq_true_eq]; first | exact h120 | omega)), hbW3.ext (hb39.ext hbz)⟩
end Go.Proofs.YtgakjhaepdigpaaGreatDoor
