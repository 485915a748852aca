/- A drawn list that is copied, with lines behind it. -/
import Derived.Test.YtgakjhaepdigpaaGreatDoorDwPQ
import Derived.Test.YtgakjhaepdigpaaGreatDoorPg1
import Derived.Test.YtgakjhaepdigpaaGreatDoorRunI
import Derived.Test.YtgakjhaepdigpaaGreatDoorZm18
import Derived.Test.YtgakjhaepdigpaaGreatDoorVal
namespace Go.Proofs.YtgakjhaepdigpaaGreatDoor
set_option maxRecDepth 100000
set_option linter.unusedSimpArgs false
set_option linter.unusedVariables false
open Go.RowKit
attribute [local go_sem] bs_toList bs_get bs_size

/-! ### a list copied, with lines behind -/
section
variable {ops : Array Oper} {rest : List Oper} {o : Oper} {a : Act} {Q : Exit → Act → World → Prop} {w : World}
theorem app_copyF {K : Act → World → Prop} {E : Prop} (hgd : o.guard = none) (s x : Operand) (ho : o.op = .call { callee := .builtin .append, args := #[s, x], argTypes := #[65, 65] })
    (B g0 : Nat) (hs : a.eval s = .slice (some ⟨g0, 0, none⟩) 0 0) (hv : GtF B w (.slice (some ⟨g0, 0, none⟩) 0 0) []) (fl : List FS) (n : Nat) (hn : fl.length = n) (hone : ∀ f ∈ fl, ∀ u ∈ fsRow f, u.oneCell' = true) (gp cp : Nat) (hx : a.eval x = .slice (some ⟨gp, 0, none⟩) n cp)
    (hc : ∀ (j : Nat) (u : Value), (fl.flatMap fsRow)[j]? = some u → w.cell? ((⟨gp, 0, none⟩ : Addr).add j) = some u) (hm : 0 < n) (hl : n ≤ 1000) (hB : B ≤ w.heap.size)
    (h : ∀ g cap w', GtF B w' (.slice (some ⟨g, 0, none⟩) n cap) fl → w.grownBy w' (some g0) → (some g0 = some g ∨ g = w.heap.size) → K (a.put o.dst (.slice (some ⟨g, 0, none⟩) n cap)) w') :
    if Region.wanted o (yielded ops a.tmps) = true then Oper.wp Tryz.prog o a w K Q else E := by
  subst hn
  refine app_step1 (row := fsRow) (k := 11) (t := 26) (tS := 65) (l2 := fl) (fun _ => rfl) (by decide) Tryz.underlying65 infoSt (by decide) rfl hgd s x ho B _ [] hs hv ⟨gp, 0, none⟩ cp hone hx hc hm (by simp; omega) hB ?_
  intro g cap w' h1 h2 h3
  have e : ([] : List FS).length + fl.length = fl.length := by simp
  rw [e] at h1 ⊢
  exact h g cap w' (by simpa using h1) h2 h3
theorem app_stepL {K : Act → World → Prop} {E : Prop} (hgd : o.guard = none) (s x : Operand) (ho : o.op = .call { callee := .builtin .append, args := #[s, x], argTypes := #[65, 65] })
    (B : Nat) (g5 n cap5 : Nat) (l : List FS) (hs : a.eval s = .slice (some ⟨g5, 0, none⟩) n cap5) (hv : GtF B w (.slice (some ⟨g5, 0, none⟩) n cap5) l) (hn : l.length = n) (l2 : List FS) (n2 : Nat) (hn2 : l2.length = n2) (hone : ∀ f ∈ l2, ∀ u ∈ fsRow f, u.oneCell' = true) (g0 c0 : Nat) (hx : a.eval x = .slice (some ⟨g0, 0, none⟩) n2 c0)
    (hc : ∀ (j : Nat) (u : Value), (l2.flatMap fsRow)[j]? = some u → w.cell? ((⟨g0, 0, none⟩ : Addr).add j) = some u) (hm : 0 < n2) (hl : n + n2 ≤ 1000000) (hB : B ≤ w.heap.size)
    (h : ∀ g cap w', GtF B w' (.slice (some ⟨g, 0, none⟩) (n + n2) cap) (l ++ l2) → w.grownBy w' (some g5) → (some g5 = some g ∨ g = w.heap.size) → K (a.put o.dst (.slice (some ⟨g, 0, none⟩) (n + n2) cap)) w') :
    if Region.wanted o (yielded ops a.tmps) = true then Oper.wp Tryz.prog o a w K Q else E := by
  subst hn hn2
  exact app_step1 (row := fsRow) (k := 11) (t := 26) (tS := 65) (l2 := l2) (fun _ => rfl) (by decide) Tryz.underlying65 infoSt (by decide) rfl hgd s x ho B _ l hs hv ⟨g0, 0, none⟩ c0 hone hx hc hm hl hB h
end
theorem DrS.both {lo : Nat} {w : World} {u : Value} {fl fl2 : List FS} {l l2 : List Sm} (hG : GtF lo w u (fl ++ fl2)) (h2 : fl.length = l.length) (h3 : ∀ (i : Nat) (f : FS) (s : Sm), fl[i]? = some f → l[i]? = some s → DrF lo w f s) (g2 : fl2.length = l2.length) (h4 : ∀ (i : Nat) (f : FS) (s : Sm), fl2[i]? = some f → l2[i]? = some s → DrF lo w f s) : DrS lo w u (l ++ l2) := by
  refine ⟨fl ++ fl2, hG, by rw [List.length_append, List.length_append, h2, g2], fun i f s hf hs => ?_⟩
  by_cases hi : i < fl.length
  · rw [List.getElem?_append_left hi] at hf
    rw [List.getElem?_append_left (by omega)] at hs
    exact h3 i f s hf hs
  · rw [List.getElem?_append_right (by omega)] at hf
    rw [List.getElem?_append_right (by omega)] at hs
    exact h4 _ f s hf (by rw [h2]; exact hs)
theorem DrF.ext {lo : Nat} {w w' : World} {f : FS} {s : Sm} (h : DrF lo w f s) (hb : Below w.heap.size w w') : DrF lo w' f s :=
  h.grown (r := none) ⟨hb.os, hb.tape, hb.output, hb.size, fun k hk _ => hb.block k hk⟩ (fun q e => by cases e)
theorem Blk.newc {w : World} {n : Nat} {t : TypeId} {cs cs' : Array Value} (h : w.heap.size = n) (e : cs = cs') : Blk (w.alloc (.cells cs t)) n t cs' := by subst h e; exact Blk.new w t cs
theorem gt_empty' {B n : Nat} (w w' : World) (hn : w.heap.size = n) (hB : B ≤ n) (hb : Below (n + 1) (w.alloc (.cells #[] 26)) w') : GtF B w' (.slice (some ⟨n, 0, none⟩) 0 0) [] := by
  subst hn; exact gt_empty fsRow 11 26 w w' hB hb
/-- a drawn list that is not empty: where it lies -/
theorem DrS.at {lo : Nat} {w : World} {u : Value} {l : List Sm} (h : DrS lo w u l) (h0 : 0 < l.length) : ∃ (gp cp : Nat) (fl : List FS), u = .slice (some ⟨gp, 0, none⟩) l.length cp ∧ l.length ≤ cp ∧ cp ≤ 9223372036854775807 ∧ gp < w.heap.size ∧ fl.length = l.length ∧ (∀ f ∈ fl, ∀ x ∈ fsRow f, x.oneCell' = true) ∧ ∀ w', Below w.heap.size w w' → (∀ (j : Nat) (x : Value), (fl.flatMap fsRow)[j]? = some x → w'.cell? ((⟨gp, 0, none⟩ : Addr).add j) = some x) ∧ ∀ (i : Nat) (f : FS) (s : Sm), fl[i]? = some f → l[i]? = some s → DrF lo w' f s := by
  obtain ⟨fl, h1, h2, h3⟩ := h
  obtain ⟨gp, cp, rfl, hlo, hlt, hc⟩ := h1.src (by omega)
  obtain ⟨A, c, e, hc1, hm1⟩ := h1.val
  obtain ⟨rfl, rfl⟩ : some (⟨gp, 0, none⟩ : Addr) = A ∧ cp = c := by injection e; exact ⟨‹_›, ‹_›⟩
  refine ⟨gp, cp, fl, by rw [h2], by omega, hm1, hlt, h2, fs_all h2 h3, fun w' hb => ⟨?_, fun i f s a b => (h3 i f s a b).ext hb⟩⟩
  exact (h1.ext hb).cells
end Go.Proofs.YtgakjhaepdigpaaGreatDoor


/- A drawn list that is copied, with lines behind it: where the order is the text's. -/
namespace Go.Proofs.YtgakjhaepdigpaaGreatDoor
set_option maxRecDepth 100000
set_option linter.unusedSimpArgs false
set_option linter.unusedVariables false
open Go.RowKit
attribute [local go_sem] bs_toList bs_get bs_size

section
variable {ops : Array Oper} {rest : List Oper} {o : Oper} {a : Act} {Q : Exit → Act → World → Prop} {w : World}
theorem app_plainL (hgd : o.guard = none) (s x : Operand) (ho : o.op = .call { callee := .builtin .append, args := #[s, x], argTypes := #[65, 65] })
    (B : Nat) (g5 n cap5 : Nat) (l : List FS) (hs : a.eval s = .slice (some ⟨g5, 0, none⟩) n cap5) (hv : GtF B w (.slice (some ⟨g5, 0, none⟩) n cap5) l) (hn : l.length = n) (l2 : List FS) (n2 : Nat) (hn2 : l2.length = n2) (hone : ∀ f ∈ l2, ∀ u ∈ fsRow f, u.oneCell' = true) (g0 c0 : Nat) (hx : a.eval x = .slice (some ⟨g0, 0, none⟩) n2 c0)
    (hc : ∀ (j : Nat) (u : Value), (l2.flatMap fsRow)[j]? = some u → w.cell? ((⟨g0, 0, none⟩ : Addr).add j) = some u) (hm : 0 < n2) (hl : n + n2 ≤ 1000000) (hB : B ≤ w.heap.size)
    (h : ∀ g cap w', GtF B w' (.slice (some ⟨g, 0, none⟩) (n + n2) cap) (l ++ l2) → w.grownBy w' (some g5) → (some g5 = some g ∨ g = w.heap.size) → wpList Tryz.prog ops Q rest (a.put o.dst (.slice (some ⟨g, 0, none⟩) (n + n2) cap)) w') : wpList Tryz.prog ops Q (o :: rest) a w := by
  subst hn hn2
  exact app_plain1 (row := fsRow) (k := 11) (t := 26) (tS := 65) (l2 := l2) (fun _ => rfl) (by decide) Tryz.underlying65 infoSt (by decide) rfl hgd s x ho B _ l hs hv ⟨g0, 0, none⟩ c0 hone hx hc hm hl hB h
theorem app_copyP (hgd : o.guard = none) (s x : Operand) (ho : o.op = .call { callee := .builtin .append, args := #[s, x], argTypes := #[65, 65] })
    (B g0 : Nat) (hs : a.eval s = .slice (some ⟨g0, 0, none⟩) 0 0) (hv : GtF B w (.slice (some ⟨g0, 0, none⟩) 0 0) []) (fl : List FS) (n : Nat) (hn : fl.length = n) (hone : ∀ f ∈ fl, ∀ u ∈ fsRow f, u.oneCell' = true) (gp cp : Nat) (hx : a.eval x = .slice (some ⟨gp, 0, none⟩) n cp)
    (hc : ∀ (j : Nat) (u : Value), (fl.flatMap fsRow)[j]? = some u → w.cell? ((⟨gp, 0, none⟩ : Addr).add j) = some u) (hm : 0 < n) (hl : n ≤ 1000) (hB : B ≤ w.heap.size)
    (h : ∀ g cap w', GtF B w' (.slice (some ⟨g, 0, none⟩) n cap) fl → w.grownBy w' (some g0) → (some g0 = some g ∨ g = w.heap.size) → wpList Tryz.prog ops Q rest (a.put o.dst (.slice (some ⟨g, 0, none⟩) n cap)) w') : wpList Tryz.prog ops Q (o :: rest) a w := by
  subst hn
  refine app_plain1 (row := fsRow) (k := 11) (t := 26) (tS := 65) (l2 := fl) (fun _ => rfl) (by decide) Tryz.underlying65 infoSt (by decide) rfl hgd s x ho B _ [] hs hv ⟨gp, 0, none⟩ cp hone hx hc hm (by simp; omega) hB ?_
  intro g cap w' h1 h2 h3
  have e : ([] : List FS).length + fl.length = fl.length := by simp
  rw [e] at h1 ⊢
  exact h g cap w' (by simpa using h1) h2 h3
end
/-- a row of lines laid at once -/
theorem gt_laid {w w' : World} {n m : Nat} (l : List FS) (hn : w.heap.size = n) (hm : l.length = m) (h0 : 0 < m) (hm2 : m ≤ 1000) (hb : Below (n + 1) (w.alloc (.cells (l.flatMap fsRow).toArray 26)) w') : GtF n w' (.slice (some ⟨n, 0, none⟩) m m) l := by
  subst hn hm
  have h1 : Blk w' w.heap.size 26 (l.flatMap fsRow).toArray := (Blk.new w 26 (l.flatMap fsRow).toArray).below hb (Nat.lt_succ_self _)
  exact Gt.built (w' := w) l h0 (fun _ => rfl) (by omega) h1 (Nat.le_refl _)
end Go.Proofs.YtgakjhaepdigpaaGreatDoor


/- The law FnProgCat: the walk. -/
namespace Go.Proofs.YtgakjhaepdigpaaGreatDoor
set_option maxRecDepth 100000
set_option linter.unusedSimpArgs false
set_option linter.unusedVariables false
open Go.RowKit
attribute [local go_sem] bs_toList bs_get bs_size cS

theorem DrS.smsC {lo : Nat} {w w' : World} {u : Value} {l : List Sm} (h : DrS lo w u l) (hb : Below w.heap.size w w') : SmS w' w'.heap.size u l := (h.sms.keep hb (Nat.le_refl _)).more hb.size
theorem cat_bad {l m : List Sm} (hl : progOkB l = true) (hm : progOkB m = true) (h : progOkB (l ++ m) = false) : 16 < l.length + m.length := by
  rcases Nat.lt_or_ge 16 (l.length + m.length) with h1 | h1
  · exact h1
  · exfalso
    have h2 := all_ok hl
    have h3 := all_ok hm
    have h4 : 1 ≤ l.length := (progOkB_iff.1 hl).2.1
    have h5 : progOkB (l ++ m) = true := by
      simp only [progOkB, Bool.and_eq_true, List.all_eq_true, decide_eq_true_eq, List.length_append]
      refine ⟨⟨fun x hx => ?_, by omega⟩, h1⟩
      rw [List.mem_append] at hx
      rcases hx with hx | hx
      · exact h2 x hx
      · exact h3 x hx
    rw [h5] at h
    cases h
set_option maxHeartbeats 4000000 in
theorem lawPCat (W : World) (v v2 : Value) (cl cl2 : List Int) (hv : CodeV W v cl) (hv2 : CodeV W v2 cl2) (hM : MaxM W) (hE : EnvA W) : Calls Tryz.prog 11 #[v, v2] W fun e w' => e = .returned (.bool true) ∧ Below W.heap.size W w' := by
  have DR := Lib.hid (drawPT_any v cl W hv)
  have DL := Lib.hid (fun (w' : World) (h : Below W.heap.size W w') => drawPT_any v2 cl2 w' ⟨(hv2.1.below h (Nat.le_refl _)).more h.size, hv2.2⟩)
  unfold DrewL at DR DL
  obtain ⟨A, c, rfl, hc, hm⟩ := hv.1.val
  obtain ⟨A2, c2, rfl, hc2, hm2⟩ := hv2.1.val
  clear hv hv2
  obtain ⟨b1, hb1⟩ : ∃ b, decide ((1048576 : Int) < ((cl.length : Nat) : Int)) = b := ⟨_, rfl⟩
  obtain ⟨b2, hb2⟩ : ∃ b, decide ((1048576 : Int) < ((cl2.length : Nat) : Int)) = b := ⟨_, rfl⟩
  cases b1
  rotate_left
  · go_enter Tryz.func11, Tryz.ntmps11
    go_wp2_with fail
    go_ret
    exact ⟨rfl, Below.refl _ _⟩
  cases b2
  rotate_left
  · go_enter Tryz.func11, Tryz.ntmps11
    go_wp2_with fail
    go_ret
    exact ⟨rfl, Below.refl _ _⟩
  have HE := Lib.hid (And.intro hM hE)
  clear hE hM
  go_enter Tryz.func11, Tryz.ntmps11
  go_wp2_with fail
  refine DR.out.mono ?_
  rintro r w0 ⟨u, l, rfl, hS0, _, hl, hbw0⟩
  obtain ⟨A1, c1, rfl, hc1, hm1⟩ := hS0.val
  go_wp2_with fail
  refine (DL.out _ hbw0).mono ?_
  rintro r w1 ⟨u2, m, rfl, hS2, _, hl2, hb01⟩
  obtain ⟨A3, c3, rfl, hc3, hm3⟩ := hS2.val
  obtain ⟨fl0, q1, q2, q3⟩ := hS0
  have hS1 : DrS W.heap.size w1 (.slice A1 l.length c1) l := ⟨fl0, q1.ext hb01, q2, fun i f s a b => (q3 i f s a b).ext hb01⟩
  have hbw := hbw0.ext hb01
  have hz01 := hbw0.size
  have hS2' : DrS W.heap.size w1 (.slice A3 m.length c3) m := by
    obtain ⟨f2, p1, p2, p3⟩ := hS2
    exact ⟨f2, p1.less hz01, p2, fun i f s a b => (p3 i f s a b).less hz01⟩
  have TI := Lib.hid (fun (w' : World) (h : Below w1.heap.size w1 w') => imProgText_any l _ w' (hS1.smsC h) (HE.out.2.ext (hbw.ext h)).env)
  have TI2 := Lib.hid (fun (w' : World) (h : Below w1.heap.size w1 w') => imProgText_any m _ w' (hS2'.smsC h) (HE.out.2.ext (hbw.ext h)).env)
  have TS := Lib.hid (fun (w' : World) (h : Below w1.heap.size w1 w') => spProgText_any l _ w' (hS1.smsC h))
  have SO := Lib.hid (fun (w' : World) (h : Below w1.heap.size w1 w') => spProgOk_any l _ w' (hS1.smsC h))
  have SO2 := Lib.hid (fun (w' : World) (h : Below w1.heap.size w1 w') => spProgOk_any m _ w' (hS2'.smsC h))
  have IR := Lib.hid (fun (w' : World) (h : Below w1.heap.size w1 w') => imProgRun_any l _ w' (hS1.smsC h) (HE.out.2.ext (hbw.ext h)).env)
  have RD := Lib.hid (fun (t : Bytes) (ht : t.length ≤ 100000000) (w' : World) (h : Below w1.heap.size w1 w') => imProgRead_any t w' ht (HE.out.1.ext (hbw.ext h)) (HE.out.2.ext (hbw.ext h)))
  have hx1 := prTxt_len l
  have hx2 := prTxt_len m
  have FC := Lib.hid (fun (ha : progOkB l = true) (hb : progOkB m = true) => rdP_cat ha hb)
  have FB := Lib.hid (fun (ha : progOkB l = true) (hb : progOkB m = true) => cat_bad ha hb)
  have FL := Lib.hid (fun (ha : progOkB l = true) => And.intro (progOkB_iff.1 ha).2.1 (progOkB_iff.1 ha).2.2)
  have FL2 := Lib.hid (fun (ha : progOkB m = true) => And.intro (progOkB_iff.1 ha).2.1 (progOkB_iff.1 ha).2.2)
  have HW := Lib.hid hbw
  have HSS := Lib.hid (And.intro hS1 hS2')
  clear hS1 hS2 hS2' q1 q3 hbw0 hb01 hbw hb1 hb2 DR DL
  generalize prTxt l = tx at *
  generalize prTxt m = ty at *
  have hte : (tx != tx) = false := by simp
  have hte2 : (tx == tx) = true := by simp
  go_wp2_with fail
  refine (TI.out _ (Below.refl _ _)).mono ?_
  rintro r w2 ⟨rfl, hB2⟩
  go_wp2_with fail
  refine (TS.out _ hB2).mono ?_
  rintro r w3 ⟨rfl, hb3⟩
  have hB3 := hB2.ext hb3
  have S1 := Lib.hid (SO.out _ hB3)
  clear SO TI
  cases ho1 : progOkB l
  · rw [ho1] at S1
    go_wp2_with fail
    refine S1.out.mono ?_
    rintro r w4 ⟨rfl, hb4⟩
    go_wp2_with fail
    refine (TS.out _ (hB3.ext hb4)).mono ?_
    rintro r w5 ⟨rfl, hb5⟩
    go_wp2_with fail
    go_ret
    exact ⟨rfl, HW.out.ext ((hB3.ext hb4).ext hb5)⟩
  rw [ho1] at S1
  go_wp2_with fail
  refine S1.out.mono ?_
  rintro r w4 ⟨rfl, hb4⟩
  have hB4 := hB3.ext hb4
  have S2 := Lib.hid (SO2.out _ hB4)
  clear SO2 S1
  cases ho2 : progOkB m
  · rw [ho2] at S2
    go_wp2_with fail
    refine S2.out.mono ?_
    rintro r w5 ⟨rfl, hb5⟩
    go_wp2_with fail
    refine (TS.out _ (hB4.ext hb5)).mono ?_
    rintro r w6 ⟨rfl, hb6⟩
    go_wp2_with fail
    go_ret
    exact ⟨rfl, HW.out.ext ((hB4.ext hb5).ext hb6)⟩
  rw [ho2] at S2
  have FC := Lib.hid (FC.out ho1 ho2)
  have FB := Lib.hid (FB.out ho1 ho2)
  obtain ⟨hl1, hl16⟩ := FL.out ho1
  obtain ⟨hm1', hm16⟩ := FL2.out ho2
  have hl0 : 0 < l.length := hl1
  have hm0 : 0 < m.length := hm1'
  obtain ⟨gp, cp, fl, hup, _, _, hgp, hfl, hone, HP⟩ := HSS.out.1.at hl0
  obtain ⟨rfl, rfl⟩ : A1 = some ⟨gp, 0, none⟩ ∧ c1 = cp := by injection hup; exact ⟨‹_›, ‹_›⟩
  have HPP := Lib.hid (And.intro hfl (And.intro hone HP))
  obtain ⟨gq, cq, fm, huq, _, _, hgq, hfm, honem, HQ⟩ := HSS.out.2.at hm0
  obtain ⟨rfl, rfl⟩ : A3 = some ⟨gq, 0, none⟩ ∧ c3 = cq := by injection huq; exact ⟨‹_›, ‹_›⟩
  have HQQ := Lib.hid (And.intro hfm (And.intro honem HQ))
  clear hup hfl hone HP huq hfm honem HQ HSS TS FL FL2 ho1 ho2
  go_wp2_with fail
  refine S2.out.mono ?_
  rintro r w5 ⟨rfl, hb5⟩
  have hB5 := hB4.ext hb5
  have hWb : W.heap.size ≤ w5.heap.size := Nat.le_trans HW.out.size hB5.size
  clear S2
  go_wp2_with (first
    | (at_builtin; refine app_copyP (by rfl) (.tmp 48) (.tmp 49) (by rfl) w5.heap.size w5.heap.size (by rfl) ?_ fl l.length HPP.out.1 HPP.out.2.1 gp c1 (by rfl) ?_ hl0 ?_ ?_ ?_; exact gt_empty' w5 _ rfl (Nat.le_refl _) (by (repeat (first | with_reducible assumption | with_reducible exact Below.refl _ _ | with_reducible refine Below.setCell ?_ (by first | omega | (simp; done) | (simp; omega)) _ | with_reducible refine Below.alloc ?_ (by first | omega | (simp; done) | (simp; omega)) _ | with_reducible refine below_drewN ?_ _ | with_reducible refine Below.drew ?_))); exact (HPP.out.2.2 _ (hB5.ext (by (repeat (first | with_reducible assumption | with_reducible exact Below.refl _ _ | with_reducible refine Below.setCell ?_ (by first | omega | (simp; done) | (simp; omega)) _ | with_reducible refine Below.alloc ?_ (by first | omega | (simp; done) | (simp; omega)) _ | with_reducible refine below_drewN ?_ _ | with_reducible refine Below.drew ?_))))).1; (first | omega | (simp; done) | (simp only [List.length_cons, List.length_nil, List.length_append]; omega) | (simp; omega)); (simp only [World.size_alloc]; omega); intro g6 cap6 w6 hG6 hgr6 hat6; have hg6 := hG6.lt (b := g6) rfl; have hz6 := hgr6.size; (try simp at hz6); have hb56 : Below w5.heap.size w5 w6 := (by (repeat (first | with_reducible assumption | with_reducible exact Below.refl _ _ | with_reducible refine Below.setCell ?_ (by first | omega | (simp; done) | (simp; omega)) _ | with_reducible refine Below.alloc ?_ (by first | omega | (simp; done) | (simp; omega)) _ | with_reducible refine below_drewN ?_ _ | with_reducible refine Below.drew ?_ | with_reducible refine below_app ?_ hgr6 (by intro q hq; simp [Value.ownBlock] at hq; omega) (by first | omega | (simp; done) | (simp; omega))))))
    | (at_builtin; refine app_plainL (by rfl) (.tmp 50) (.tmp 51) (by rfl) w5.heap.size g6 l.length cap6 fl (by rfl) ?_ HPP.out.1 fm m.length HQQ.out.1 HQQ.out.2.1 gq c3 (by rfl) ?_ hm0 (by omega) ?_ ?_; exact hG6.ext (by (repeat (first | with_reducible assumption | with_reducible exact Below.refl _ _ | with_reducible refine Below.setCell ?_ (by first | omega | (simp; done) | (simp; omega)) _ | with_reducible refine Below.alloc ?_ (by first | omega | (simp; done) | (simp; omega)) _ | with_reducible refine below_drewN ?_ _ | with_reducible refine Below.drew ?_))); exact (HQQ.out.2.2 _ ((hB5.ext hb56).ext (by (repeat (first | with_reducible assumption | with_reducible exact Below.refl _ _ | with_reducible refine Below.setCell ?_ (by first | omega | (simp; done) | (simp; omega)) _ | with_reducible refine Below.alloc ?_ (by first | omega | (simp; done) | (simp; omega)) _ | with_reducible refine below_drewN ?_ _ | with_reducible refine Below.drew ?_))))).1; (first | omega | (simp only [World.size_alloc]; omega)); intro g7 cap7 w7 hG7 hgr7 hat7; have hb57 : Below w5.heap.size w5 w7 := (by (repeat (first | with_reducible assumption | with_reducible exact Below.refl _ _ | with_reducible refine Below.setCell ?_ (by first | omega | (simp; done) | (simp; omega)) _ | with_reducible refine Below.alloc ?_ (by first | omega | (simp; done) | (simp; omega)) _ | with_reducible refine below_drewN ?_ _ | with_reducible refine Below.drew ?_ | with_reducible refine Below.trans ?_ (Below.mono hb56 (by first | omega | (simp; done) | (simp; omega))) | with_reducible refine below_app ?_ hgr7 (by intro q hq; simp [Value.ownBlock] at hq; omega) (by first | omega | (simp; done) | (simp; omega))))); have hz7 := hb57.size; have HA := Lib.hid (And.intro hG7 hb57); clear hG6 hgr6 hat6 hG7 hgr7 hat7 hg6 hz6 hb57 hb56)
    | fail)
  have hB7 := hB5.ext HA.out.2
  have DA : DrS W.heap.size w7 (.slice (some ⟨g7, 0, none⟩) (l.length + m.length) cap7) (l ++ m) := DrS.both (HA.out.1.less hWb) HPP.out.1 (HPP.out.2.2 _ hB7).2 HQQ.out.1 (HQQ.out.2.2 _ hB7).2
  have IO := Lib.hid (fun (w' : World) (h : Below w7.heap.size w7 w') => imProgOk_any _ _ w' (DA.smsC h) (HE.out.2.ext (HW.out.ext (hB7.ext h))).env)
  have IR2 := Lib.hid (fun (w' : World) (h : Below w7.heap.size w7 w') => imProgRun_any _ _ w' (DA.smsC h) (HE.out.2.ext (HW.out.ext (hB7.ext h))).env)
  have FT := Lib.hid (fun h : progOkB (l ++ m) = true => prRun_take (k := l.length) h hl1)
  rw [List.take_left] at FT
  have e1 : bs tx ++ ⟨#[10]⟩ = bs (tx ++ [10]) := (bs_append _ _).symm
  have e2 : bs (tx ++ [10]) ++ bs ty = bs (tx ++ 10 :: ty) := by rw [bs_append]; simp
  have z1 : ¬ 9223372036854775807 < tx.length + 1 := by omega
  have z2 : ¬ 9223372036854775807 < tx.length + 1 + ty.length := by omega
  have R1 := Lib.hid (fun (w' : World) (h : Below w1.heap.size w1 w') => RD.out (tx ++ 10 :: ty) (by simp; omega) w' h)
  unfold RpA at R1
  rw [FC.out] at R1
  clear DA RD FC hl1 hm1'
  generalize progOkB (l ++ m) = ob at *
  generalize prRun l = pr at *
  generalize prRun (l ++ m) = pr2 at *
  obtain ⟨xs, fine⟩ := pr
  obtain ⟨ys, fin2⟩ := pr2
  have hoo : (ob != ob) = false := by cases ob <;> rfl
  go_wp2_with fail
  refine (TI2.out _ hB7).mono ?_
  rintro r w8 ⟨rfl, hb8⟩
  have hB8 := hB7.ext hb8
  clear TI2
  go_wp2_with fail
  refine (R1.out _ hB8).mono ?_
  rintro r w9 ⟨u9, rfl, hP9, hb9⟩
  obtain ⟨A9, n9, c9, rfl⟩ := hP9.slv
  have hB9 := hB8.ext hb9
  have hb79 := hb8.ext hb9
  clear hP9 R1 e1 e2 z1 z2
  go_wp2_with fail
  refine (IO.out _ hb79).mono ?_
  rintro r wa ⟨rfl, hba⟩
  have hBa := hB9.ext hba
  have hb7a := hb79.ext hba
  clear IO
  cases ob
  · have h16 := FB.out rfl
    go_wp2_with fail
    go_ret
    exact ⟨ret_bool (by rw [decide_eq_true_eq]; omega), HW.out.ext hBa⟩
  obtain ⟨t, h1, h2, h3⟩ := FT.out rfl
  have h1' : ys = xs ++ t := h1
  have h3' : fine = false → t = [] := h3
  have HOUT := Lib.hid (And.intro h1' h3')
  have hln : ¬ (ys.length < xs.length) := by rw [h1', List.length_append]; omega
  have hlen : decide (((ys.length : Nat) : Int) < ((xs.length : Nat) : Int)) = false := by rw [decide_eq_false_iff_not]; omega
  clear h1 h2 h3 h1' h3' FT FB
  go_wp2_with fail
  refine (IR.out _ hBa).mono ?_
  rintro r wb ⟨ob1, rfl, hFb, hbb⟩
  obtain ⟨Xb, xb, rfl, hxcb, hxmb⟩ := hFb.sl.val
  have HFb := Lib.hid hFb
  have hBb := hBa.ext hbb
  have hb7b := hb7a.ext hbb
  clear hFb IR
  go_wp2_with fail
  refine (IR2.out _ hb7b).mono ?_
  rintro r wc ⟨oc1, rfl, hFc, hbc⟩
  obtain ⟨Xc, xc, rfl, hxcc, hxmc⟩ := hFc.sl.val
  have HO1 := Lib.hid ((HFb.out.ext hbc).sl)
  have HO2 := Lib.hid hFc.sl
  have hBc := hBb.ext hbc
  clear hFc HFb IR2
  go_wp2_with fail
  go_loopg [15] xs.length (fun k p wr => ∃ j : Nat, k = xs.length - j ∧ j ≤ xs.length ∧ p = .int .i64 j ∧ Below wc.heap.size wc wr)
  case atStart => exact ⟨0, by omega, by omega, rfl, Below.refl _ _⟩
  case round =>
    obtain ⟨j, hk, hj, rfl, hbl⟩ := hrel
    have HK := Lib.hid hk
    clear hk
    by_cases hlt : j < xs.length
    · have hdl : decide (((j : Nat) : Int) < ((xs.length : Nat) : Int)) = true := by rw [decide_eq_true_eq]; omega
      have hly : j < ys.length := by omega
      obtain ⟨q2, p2, x, rfl, hq2, hgx, fx⟩ := num_at HO1.out hlt
      obtain ⟨q3, p3, y, rfl, hq3, hgy, fy⟩ := num_at HO2.out hly
      obtain rfl : x = y := by
        rw [HOUT.out.1, List.getElem?_append_left hlt, hgx] at hgy
        exact Option.some.inj hgy
      have gx := fx ⟨wr, hbl⟩
      have gy := fy ⟨wr, hbl⟩
      clear fx fy hgx hgy
      go_wp2_with fail
      go_quiet (fail)
      go_wp2_with fail
      go_roundg (xs.length - (j + 1))
      case measure => have := HK.out; omega
      case rel => exact ⟨j + 1, rfl, by omega, by go_num, below_drewN hbl _⟩
    · have hdl : decide (((j : Nat) : Int) < ((xs.length : Nat) : Int)) = false := by rw [decide_eq_false_iff_not]; omega
      have hBr := hBc.ext hbl
      cases fine
      · have ht := HOUT.out.2 rfl
        have hlq : ys.length = xs.length := by rw [HOUT.out.1, ht, List.append_nil]
        have hq : (((ys.length : Nat) : Int) == ((xs.length : Nat) : Int)) = true := by rw [hlq]; simp
        have HLQ := Lib.hid hlq
        clear hlq ht
        go_wp2_with fail
        go_ret
        exact ⟨by first | rfl | (rw [HLQ.out]; simp) | simp [HLQ.out], HW.out.ext hBr⟩
      · go_wp2_with fail
        go_ret
        exact ⟨rfl, HW.out.ext hBr⟩
end Go.Proofs.YtgakjhaepdigpaaGreatDoor
