/- What is drawn to be reckoned. -/
import Derived.Test.YtgakjhaepdigpaaGreatDoorDw
import Derived.Test.YtgakjhaepdigpaaGreatDoorZm10
import Derived.Deep.CutBlock
namespace Go.Proofs.YtgakjhaepdigpaaGreatDoor
set_option maxRecDepth 100000
set_option linter.unusedSimpArgs false
set_option linter.unusedVariables false
open Go.RowKit
attribute [local go_sem] bs_toList bs_get bs_size

/-- so many places of a code are read at most -/
def cst : Nat → Nat
  | 0 => 4
  | d + 1 => 2 * cst d + 8
theorem cst_ge : ∀ d, 4 ≤ cst d
  | 0 => Nat.le_refl _
  | d + 1 => by have := cst_ge d; simp only [cst]; omega
def DrewE (rb p q : Nat) (w : World) (e : Ending) (w' : World) : Prop := ∃ (v : Value) (x : Ex) (p' : Nat), e = .returned v ∧ DrE w.heap.size w' v x ∧ Rd w' rb p' ∧ p' ≤ p + q ∧ w.grownBy w' (some rb)
/-- no part is called w -/
inductive NoW : Ex → Prop
  | mk (k n : Int) (s : Bytes) (l : List Ex) (h : s ≠ [119]) (h2 : ∀ e ∈ l, NoW e) : NoW (.mk k n s l)
theorem NoW.s {x : Ex} (h : NoW x) : x.s ≠ [119] := by cases h; assumption
theorem NoW.kids {x : Ex} (h : NoW x) : ∀ e ∈ x.kids, NoW e := by cases h; assumption
theorem NoW.put {x : Ex} (h : NoW x) (k n : Int) {s : Bytes} (hs : s ≠ [119]) : NoW (.mk k n s x.kids) := .mk _ _ _ _ hs h.kids
theorem NoW.none : NoW Ex.none := .mk _ _ _ _ (by decide) (fun e h => by simp at h)
theorem nw_words {l : List Bytes} {s : Bytes} (h : s ∈ l) (hl : l.all (fun x => decide (x ≠ [119])) = true) : s ≠ [119] := by
  rw [List.all_eq_true] at hl
  simpa using hl s h
def DrewN (rb p q : Nat) (w : World) (e : Ending) (w' : World) : Prop := ∃ (v : Value) (x : Ex) (p' : Nat), e = .returned v ∧ DrE w.heap.size w' v x ∧ Rd w' rb p' ∧ p' ≤ p + q ∧ w.grownBy w' (some rb) ∧ NoW x
theorem DrewN.e {rb p q : Nat} {w w' : World} {e : Ending} (h : DrewN rb p q w e w') : DrewE rb p q w e w' := by
  obtain ⟨v, x, p', h1, h2, h3, h4, h5, _⟩ := h
  exact ⟨v, x, p', h1, h2, h3, h4, h5⟩
def zE : Array Value := #[.int .i64 0, .int .i64 0, .string (bs []), .slice none 0 0]
def vE (k n : Int) (s : Bytes) (kv : Value) : Value := .agg #[.int .i64 k, .int .i64 n, .string (bs s), kv]
theorem len_words {l : List Bytes} {s : Bytes} (h : s ∈ l) (hl : l.all (fun x => decide (x.length ≤ 100)) = true) : s.length ≤ 9223372036854775807 := by
  rw [List.all_eq_true] at hl
  have := hl s h
  simp at this
  omega
set_option maxHeartbeats 4000000 in
theorem l4Expr_leaf (d rb p : Nat) (w : World) (h : Rd w rb p) (hp : p + 4 ≤ 1000000) (hd : d ≤ 1) : Calls Tryz.prog 158 #[.pointer (some ⟨rb, 0, none⟩), .int .i64 (d : Int)] w (DrewN rb p 4 w) := by
  have hd1 : decide ((d : Int) ≤ 1) = true := by simp; omega
  have hrb := h.lt
  have hq0 : w.heap.size ≠ rb := by omega
  have hq1 : rb ≠ w.heap.size := by omega
  go_enter Tryz.func158, Tryz.ntmps158
  go_upto_region 1 with fail
  generalize hW : World.alloc w _ = W1
  have hz1 : W1.heap.size = w.heap.size + 1 := by rw [← hW]; simp
  have hR1 : Rd W1 rb p := by rw [← hW]; exact h.alloc _
  have hg1 : w.grownBy W1 (some rb) := by rw [← hW]; exact grown_al (grown_rfl _ _) _
  have KB := Lib.hid (show ∀ w' : World, W1.grownBy w' (some rb) → Blk w' w.heap.size 24 zE from fun w' hh => blk_gr (by rw [← hW]; exact Blk.new _ _ _) hh hq0)
  clear hW h
  go_wp2_with fail
  refine (pick_any rb _ 2 _ hR1 (by omega) (by omega) (by omega)).mono ?_
  rintro r w2 ⟨k2, rfl, hk2, hk2', hR2, hg2⟩
  have hgw2 : W1.grownBy w2 (some rb) := grown_tr (grown_rfl W1 _) hg2
  have hz2 := hgw2.size
  by_cases e2 : k2 = 0
  · subst e2
    go_wp2_with fail
    refine (num_any rb _ w2.heap.size [0, 1, 2, 7, 30, 1000000] _ (hR2.alloc _) (by omega) (by simp) (by simp) (by omega) (Blk.new _ _ _)).mono ?_
    rintro r w3 ⟨n3, rfl, hR3, hg3⟩
    have hgw3 : W1.grownBy w3 (some rb) := by (repeat (first | with_reducible assumption | with_reducible exact grown_rfl _ _ | with_reducible refine grown_al ?_ _ | with_reducible refine grown_sn ?_ (by first | omega | (simp; done) | (simp; omega)) _ _ | with_reducible refine grown_dr ?_ | with_reducible refine grown_tr ?_ hg3 | with_reducible refine grown_tr ?_ hgw2))
    have B3 := KB.out w3 hgw3
    have hz3 := hg3.size
    (try simp at hz3)
    have z0 := B3.frozen 0; have z1 := B3.frozen 1; have z2 := B3.frozen 2; have z3 := B3.frozen 3
    have b0 := B3.cell 0; have b1 := B3.cell 1; have b2 := B3.cell 2; have b3 := B3.cell 3
    simp [zE] at b0 b1 b2 b3
    have HX := Lib.hid (And.intro hR3 (And.intro hgw3 hg1))
    clear hR3 hgw3 B3 hg3 KB hg1
    go_wp2_with fail
    refine bodyPost_ret (v := vE 1 n3 [] (.slice none 0 0)) (by simp [results, Tryz.results158, go_sem, vE, bs, *]) rfl ?_
    obtain ⟨hR3, hgw3, hg1⟩ := HX.out
    exact ⟨vE 1 n3 [] (.slice none 0 0), .mk 1 n3 [] [], _, rfl, DrE.of (by simp) (DrK.nil _ _), (by (repeat (first | with_reducible assumption | with_reducible refine Rd.alloc ?_ _ | with_reducible refine Rd.drew ?_ | with_reducible refine Rd.drewN ?_ _ | with_reducible refine Rd.setN ?_ (by first | omega | (simp; done) | (simp; omega)) _ _)) : Rd _ rb (p + 1 + 1)), (by omega), by (repeat (first | with_reducible assumption | with_reducible exact grown_rfl _ _ | with_reducible refine grown_al ?_ _ | with_reducible refine grown_sn ?_ (by first | omega | (simp; done) | (simp; omega)) _ _ | with_reducible refine grown_dr ?_ | with_reducible refine grown_tr ?_ hgw3 | with_reducible refine grown_tr ?_ hg1)), .mk _ _ _ _ (by decide) (fun e h => by simp at h)⟩
  · have d2 : (k2 == 0) = false := by simpa using e2
    go_wp2_with fail
    refine (of_any rb _ w2.heap.size [[120], [121], [122], [120]] _ (hR2.alloc _) (by omega) (by simp) (by simp) (by omega) (Blk.new _ _ _)).mono ?_
    rintro r w3 ⟨s3, rfl, hs3, hR3, hg3⟩
    have hgw3 : W1.grownBy w3 (some rb) := by (repeat (first | with_reducible assumption | with_reducible exact grown_rfl _ _ | with_reducible refine grown_al ?_ _ | with_reducible refine grown_sn ?_ (by first | omega | (simp; done) | (simp; omega)) _ _ | with_reducible refine grown_dr ?_ | with_reducible refine grown_tr ?_ hg3 | with_reducible refine grown_tr ?_ hgw2))
    have B3 := KB.out w3 hgw3
    have hz3 := hg3.size
    (try simp at hz3)
    have z0 := B3.frozen 0; have z1 := B3.frozen 1; have z2 := B3.frozen 2; have z3 := B3.frozen 3
    have b0 := B3.cell 0; have b1 := B3.cell 1; have b2 := B3.cell 2; have b3 := B3.cell 3
    simp [zE] at b0 b1 b2 b3
    have HX := Lib.hid (And.intro hR3 (And.intro hgw3 (And.intro hg1 (And.intro (len_words hs3 (by decide)) (nw_words hs3 (by decide))))))
    clear hR3 hgw3 B3 hg3 KB hg1 hs3
    go_wp2_with fail
    refine bodyPost_ret (v := vE 2 0 s3 (.slice none 0 0)) (by simp [results, Tryz.results158, go_sem, vE, bs, *]) rfl ?_
    obtain ⟨hR3, hgw3, hg1, hs3, hnw⟩ := HX.out
    exact ⟨vE 2 0 s3 (.slice none 0 0), .mk 2 0 s3 [], _, rfl, DrE.of hs3 (DrK.nil _ _), (by (repeat (first | with_reducible assumption | with_reducible refine Rd.alloc ?_ _ | with_reducible refine Rd.drew ?_ | with_reducible refine Rd.drewN ?_ _ | with_reducible refine Rd.setN ?_ (by first | omega | (simp; done) | (simp; omega)) _ _)) : Rd _ rb (p + 1 + 1)), (by omega), by (repeat (first | with_reducible assumption | with_reducible exact grown_rfl _ _ | with_reducible refine grown_al ?_ _ | with_reducible refine grown_sn ?_ (by first | omega | (simp; done) | (simp; omega)) _ _ | with_reducible refine grown_dr ?_ | with_reducible refine grown_tr ?_ hgw3 | with_reducible refine grown_tr ?_ hg1)), .mk _ _ _ _ hnw (fun e h => by simp at h)⟩
set_option maxHeartbeats 4000000 in
theorem l4Expr_nw : ∀ (d rb p : Nat) (w : World), Rd w rb p → p + cst d ≤ 1000000 → d ≤ 100 → Calls Tryz.prog 158 #[.pointer (some ⟨rb, 0, none⟩), .int .i64 (d : Int)] w (DrewN rb p (cst d) w) := by
  intro d
  induction d with
  | zero => intro rb p w h hp hd; exact l4Expr_leaf 0 rb p w h hp (by omega)
  | succ d ih =>
    intro rb p w h hp hd
    have hcs := cst_ge d
    simp only [cst] at hp
    by_cases hd0 : d = 0
    · subst hd0
      refine (l4Expr_leaf 1 rb p w h (by omega) (by omega)).mono ?_
      rintro r w' ⟨v, x, p', h1, h2, h3, h4, h5, h6⟩
      exact ⟨v, x, p', h1, h2, h3, by simp only [cst]; omega, h5, h6⟩
    have hd1 : decide (((d + 1 : Nat) : Int) ≤ 1) = false := by simp; omega
    have hwr : IntKind.i64.wrap (((d + 1 : Nat) : Int) - 1) = (d : Int) := by rw [IntKind.wrap_i64]; omega
    have IH := Lib.hid (fun (p' : Nat) (w' : World) (hr : Rd w' rb p') (hp' : p' + cst d ≤ 1000000) => ih rb p' w' hr hp' (by omega))
    have HC := Lib.hid (show cst (d + 1) = 2 * cst d + 8 from rfl)
    generalize cst (d + 1) = c1 at *
    generalize cst d = c0 at *
    clear ih
    generalize ((d + 1 : Nat) : Int) = dd at *
    have hrb := h.lt
    have hq0 : w.heap.size ≠ rb := by omega
    have hq1 : rb ≠ w.heap.size := by omega
    go_enter Tryz.func158, Tryz.ntmps158
    go_upto_region 1 with fail
    generalize hW : World.alloc w _ = W1
    have hz1 : W1.heap.size = w.heap.size + 1 := by rw [← hW]; simp
    have hR1 : Rd W1 rb p := by rw [← hW]; exact h.alloc _
    have hg1 : w.grownBy W1 (some rb) := by rw [← hW]; exact grown_al (grown_rfl _ _) _
    have KB := Lib.hid (show ∀ w' : World, W1.grownBy w' (some rb) → Blk w' w.heap.size 24 zE from fun w' hh => blk_gr (by rw [← hW]; exact Blk.new _ _ _) hh hq0)
    clear hW h
    go_wp2_with fail
    refine (pick_any rb _ 4 _ hR1 (by omega) (by omega) (by omega)).mono ?_
    rintro r w0 ⟨k0, rfl, hk0, hk0', hR0, hg0⟩
    by_cases e0 : k0 = 0
    · subst e0
      go_wp2_with fail
      refine (pick_any rb _ 2 _ hR0 (by omega) (by omega) (by omega)).mono ?_
      rintro r w2 ⟨k2, rfl, hk2, hk2', hR2, hg2⟩
      have hgw2 : W1.grownBy w2 (some rb) := grown_tr hg0 hg2
      have hz2 := hgw2.size
      by_cases e2 : k2 = 0
      · subst e2
        go_wp2_with fail
        refine (num_any rb _ w2.heap.size [0, 1, 2, 7, 30, 1000000] _ (hR2.alloc _) (by omega) (by simp) (by simp) (by omega) (Blk.new _ _ _)).mono ?_
        rintro r w3 ⟨n3, rfl, hR3, hg3⟩
        have hgw3 : W1.grownBy w3 (some rb) := by (repeat (first | with_reducible assumption | with_reducible exact grown_rfl _ _ | with_reducible refine grown_al ?_ _ | with_reducible refine grown_sn ?_ (by first | omega | (simp; done) | (simp; omega)) _ _ | with_reducible refine grown_dr ?_ | with_reducible refine grown_tr ?_ hg3 | with_reducible refine grown_tr ?_ hgw2))
        have B3 := KB.out w3 hgw3
        have hz3 := hg3.size
        (try simp at hz3)
        have z0 := B3.frozen 0; have z1 := B3.frozen 1; have z2 := B3.frozen 2; have z3 := B3.frozen 3
        have b0 := B3.cell 0; have b1 := B3.cell 1; have b2 := B3.cell 2; have b3 := B3.cell 3
        simp [zE] at b0 b1 b2 b3
        have HX := Lib.hid (And.intro hR3 (And.intro hgw3 hg1))
        clear hR3 hgw3 B3 hg3 KB hg1
        go_wp2_with fail
        refine bodyPost_ret (v := vE 1 n3 [] (.slice none 0 0)) (by simp [results, Tryz.results158, go_sem, vE, bs, *]) rfl ?_
        obtain ⟨hR3, hgw3, hg1⟩ := HX.out
        exact ⟨vE 1 n3 [] (.slice none 0 0), .mk 1 n3 [] [], _, rfl, DrE.of (by simp) (DrK.nil _ _), (by (repeat (first | with_reducible assumption | with_reducible refine Rd.alloc ?_ _ | with_reducible refine Rd.drew ?_ | with_reducible refine Rd.drewN ?_ _ | with_reducible refine Rd.setN ?_ (by first | omega | (simp; done) | (simp; omega)) _ _)) : Rd _ rb (p + 1 + 1 + 1)), (by have := HC.out; omega), by (repeat (first | with_reducible assumption | with_reducible exact grown_rfl _ _ | with_reducible refine grown_al ?_ _ | with_reducible refine grown_sn ?_ (by first | omega | (simp; done) | (simp; omega)) _ _ | with_reducible refine grown_dr ?_ | with_reducible refine grown_tr ?_ hgw3 | with_reducible refine grown_tr ?_ hg1)), .mk _ _ _ _ (by decide) (fun e h => by simp at h)⟩
      · have d2 : (k2 == 0) = false := by simpa using e2
        go_wp2_with fail
        refine (of_any rb _ w2.heap.size [[120], [121], [122], [120]] _ (hR2.alloc _) (by omega) (by simp) (by simp) (by omega) (Blk.new _ _ _)).mono ?_
        rintro r w3 ⟨s3, rfl, hs3, hR3, hg3⟩
        have hgw3 : W1.grownBy w3 (some rb) := by (repeat (first | with_reducible assumption | with_reducible exact grown_rfl _ _ | with_reducible refine grown_al ?_ _ | with_reducible refine grown_sn ?_ (by first | omega | (simp; done) | (simp; omega)) _ _ | with_reducible refine grown_dr ?_ | with_reducible refine grown_tr ?_ hg3 | with_reducible refine grown_tr ?_ hgw2))
        have B3 := KB.out w3 hgw3
        have hz3 := hg3.size
        (try simp at hz3)
        have z0 := B3.frozen 0; have z1 := B3.frozen 1; have z2 := B3.frozen 2; have z3 := B3.frozen 3
        have b0 := B3.cell 0; have b1 := B3.cell 1; have b2 := B3.cell 2; have b3 := B3.cell 3
        simp [zE] at b0 b1 b2 b3
        have HX := Lib.hid (And.intro hR3 (And.intro hgw3 (And.intro hg1 (And.intro (len_words hs3 (by decide)) (nw_words hs3 (by decide))))))
        clear hR3 hgw3 B3 hg3 KB hg1 hs3
        go_wp2_with fail
        refine bodyPost_ret (v := vE 2 0 s3 (.slice none 0 0)) (by simp [results, Tryz.results158, go_sem, vE, bs, *]) rfl ?_
        obtain ⟨hR3, hgw3, hg1, hs3, hnw⟩ := HX.out
        exact ⟨vE 2 0 s3 (.slice none 0 0), .mk 2 0 s3 [], _, rfl, DrE.of hs3 (DrK.nil _ _), (by (repeat (first | with_reducible assumption | with_reducible refine Rd.alloc ?_ _ | with_reducible refine Rd.drew ?_ | with_reducible refine Rd.drewN ?_ _ | with_reducible refine Rd.setN ?_ (by first | omega | (simp; done) | (simp; omega)) _ _)) : Rd _ rb (p + 1 + 1 + 1)), (by have := HC.out; omega), by (repeat (first | with_reducible assumption | with_reducible exact grown_rfl _ _ | with_reducible refine grown_al ?_ _ | with_reducible refine grown_sn ?_ (by first | omega | (simp; done) | (simp; omega)) _ _ | with_reducible refine grown_dr ?_ | with_reducible refine grown_tr ?_ hgw3 | with_reducible refine grown_tr ?_ hg1)), .mk _ _ _ _ hnw (fun e h => by simp at h)⟩
    have d0 : (k0 == 0) = false := by simpa using e0
    go_wp2_with fail
    refine (pick_any rb _ 4 _ hR0 (by omega) (by omega) (by omega)).mono ?_
    rintro r wa ⟨ka, rfl, hka, hka', hRa, hga⟩
    have hgwa : W1.grownBy wa (some rb) := grown_tr hg0 hga
    have hza := hgwa.size
    by_cases ea : ka = 0
    · subst ea
      go_wp2_with fail
      refine (of_any rb _ wa.heap.size [[105, 110, 116], [98, 111, 111, 108], [105, 110, 116]] _ (hRa.alloc _) (by omega) (by simp) (by simp) (by omega) (Blk.new _ _ _)).mono ?_
      rintro r wb ⟨sb, rfl, hsb, hRb, hgb⟩
      have hgwb : W1.grownBy wb (some rb) := by (repeat (first | with_reducible assumption | with_reducible exact grown_rfl _ _ | with_reducible refine grown_al ?_ _ | with_reducible refine grown_sn ?_ (by first | omega | (simp; done) | (simp; omega)) _ _ | with_reducible refine grown_dr ?_ | with_reducible refine grown_tr ?_ hgb | with_reducible refine grown_tr ?_ hgwa))
      have hzb := hgwb.size
      have HS := Lib.hid (And.intro (len_words hsb (by decide)) (nw_words hsb (by decide)))
      clear hsb hRa hR0 hga hgb hgwa hg0
      go_wp2_with fail
      refine (IH.out _ wb hRb (by omega)).mono ?_
      rintro r wc ⟨vc, xc, pc, rfl, hEc, hRc, hpc, hgc, hNc⟩
      have hgwc : W1.grownBy wc (some rb) := grown_tr hgwb hgc
      have hzc := hgwc.size
      have hEc2 := hEc.less (lo' := w.heap.size + 1) (by omega)
      obtain ⟨k1, n1, s1, A1, cp1, l1, _, rfl, hs1, hc1, hm1, hK1⟩ := hEc.form
      have B3 := KB.out wc hgwc
      have B4 := B3.alloc (.cells #[.int .i64 k1, .int .i64 n1, .string (bs s1), .slice A1 l1.length cp1] 24)
      have z0 := B4.frozen 0; have z1 := B4.frozen 1; have z2 := B4.frozen 2; have z3 := B4.frozen 3
      have b0 := B4.cell 0; have b1 := B4.cell 1; have b2 := B4.cell 2; have b3 := B4.cell 3
      simp [zE] at b0 b1 b2 b3
      have HX := Lib.hid (And.intro hRc (And.intro hgwc (And.intro hg1 hEc2)))
      have q2 : wc.heap.size ≠ w.heap.size := by omega
      clear hEc hRc hgwc hg1 hEc2 hK1 KB IH B3 B4 hgwb hgc hR1 hRb
      go_wp2_with fail
      refine bodyPost_ret (v := vE 4 0 sb (.slice (some ⟨wc.heap.size, 0, none⟩) 1 1)) (by simp [results, Tryz.results158, go_sem, vE, *]) rfl ?_
      obtain ⟨hRc, hgwc, hg1, hE1⟩ := HX.out
      refine ⟨_, .mk 4 0 sb [xc], pc, rfl, DrE.of HS.out.1 (DrK.one rfl ((hE1.grown (r := some w.heap.size) (by (repeat (first | with_reducible assumption | with_reducible exact grown_rfl _ _ | with_reducible refine grown_st ?_ _ _ | with_reducible refine grown_al ?_ _))) (fun q e => by have := Option.some.inj e; omega)).less (by omega)) (by omega) (by (repeat (first | with_reducible exact Blk.new _ _ _ | with_reducible refine Blk.far ?_ q2 _)))), by (repeat (first | with_reducible assumption | with_reducible refine Rd.alloc ?_ _ | with_reducible refine Rd.drew ?_ | with_reducible refine Rd.drewN ?_ _ | with_reducible refine Rd.setN ?_ (by first | omega | (simp; done) | (simp; omega)) _ _)), by have := HC.out; omega, by (repeat (first | with_reducible assumption | with_reducible exact grown_rfl _ _ | with_reducible refine grown_al ?_ _ | with_reducible refine grown_sn ?_ (by first | omega | (simp; done) | (simp; omega)) _ _ | with_reducible refine grown_dr ?_ | with_reducible refine grown_tr ?_ hgwc | with_reducible refine grown_tr ?_ hg1)), .mk _ _ _ _ HS.out.2 (fun e h => by simp at h; subst h; exact hNc)⟩
    · have da : (ka == 0) = false := by simpa using ea
      go_wp2_with fail
      refine (of_any rb _ wa.heap.size [[43], [45], [42], [60], [43], [42]] _ (hRa.alloc _) (by omega) (by simp) (by simp) (by omega) (Blk.new _ _ _)).mono ?_
      rintro r wb ⟨sb, rfl, hsb, hRb, hgb⟩
      have hgwb : W1.grownBy wb (some rb) := by (repeat (first | with_reducible assumption | with_reducible exact grown_rfl _ _ | with_reducible refine grown_al ?_ _ | with_reducible refine grown_sn ?_ (by first | omega | (simp; done) | (simp; omega)) _ _ | with_reducible refine grown_dr ?_ | with_reducible refine grown_tr ?_ hgb | with_reducible refine grown_tr ?_ hgwa))
      have hzb := hgwb.size
      have HS := Lib.hid (And.intro (len_words hsb (by decide)) (nw_words hsb (by decide)))
      clear hsb hRa hR0 hga hgb hgwa hg0
      go_wp2_with fail
      refine (IH.out _ wb hRb (by omega)).mono ?_
      rintro r wc ⟨vc, xc, pc, rfl, hEc, hRc, hpc, hgc, hNc⟩
      have hgwc : W1.grownBy wc (some rb) := grown_tr hgwb hgc
      have hzc := hgwc.size
      have hEc2 := hEc.less (lo' := w.heap.size + 1) (by omega)
      obtain ⟨k1, n1, s1, A1, cp1, l1, _, rfl, hs1, hc1, hm1, hK1⟩ := hEc.form
      have HE1 := Lib.hid hEc2
      clear hEc hEc2 hK1 hgwb hgc hRb
      go_wp2_with fail
      refine (IH.out _ wc hRc (by omega)).mono ?_
      rintro r wd ⟨vd, xd, pd, rfl, hEd, hRd, hpd, hgd, hNd⟩
      have hgwd : W1.grownBy wd (some rb) := grown_tr hgwc hgd
      have hzd := hgwd.size
      have hEd2 := hEd.less (lo' := w.heap.size + 1) (by omega)
      have hE1d := HE1.out.grown hgd (fun q e => by have := Option.some.inj e; omega)
      obtain ⟨k2, n2, s2, A2, cp2, l2, _, rfl, hs2, hc2, hm2, hK2⟩ := hEd.form
      have B3 := KB.out wd hgwd
      have B4 := B3.alloc (.cells #[.int .i64 k1, .int .i64 n1, .string (bs s1), .slice A1 l1.length cp1, .int .i64 k2, .int .i64 n2, .string (bs s2), .slice A2 l2.length cp2] 24)
      have z0 := B4.frozen 0; have z1 := B4.frozen 1; have z2 := B4.frozen 2; have z3 := B4.frozen 3
      have b0 := B4.cell 0; have b1 := B4.cell 1; have b2 := B4.cell 2; have b3 := B4.cell 3
      simp [zE] at b0 b1 b2 b3
      have HX := Lib.hid (And.intro hRd (And.intro hgwd (And.intro hg1 (And.intro hE1d hEd2))))
      have q2 : wd.heap.size ≠ w.heap.size := by omega
      clear hEd hRd hgwd hg1 hEd2 hE1d HE1 hK2 KB IH B3 B4 hgwc hgd hR1 hRc
      go_wp2_with fail
      refine bodyPost_ret (v := vE 3 0 sb (.slice (some ⟨wd.heap.size, 0, none⟩) 2 2)) (by simp [results, Tryz.results158, go_sem, vE, *]) rfl ?_
      obtain ⟨hRd, hgwd, hg1, hE1, hE2⟩ := HX.out
      refine ⟨_, .mk 3 0 sb [xc, xd], pd, rfl, DrE.of HS.out.1 (DrK.two ((hE1.grown (r := some w.heap.size) (by (repeat (first | with_reducible assumption | with_reducible exact grown_rfl _ _ | with_reducible refine grown_st ?_ _ _ | with_reducible refine grown_al ?_ _))) (fun q e => by have := Option.some.inj e; omega)).less (by omega)) ((hE2.grown (r := some w.heap.size) (by (repeat (first | with_reducible assumption | with_reducible exact grown_rfl _ _ | with_reducible refine grown_st ?_ _ _ | with_reducible refine grown_al ?_ _))) (fun q e => by have := Option.some.inj e; omega)).less (by omega)) (by omega) (by (repeat (first | with_reducible exact Blk.new _ _ _ | with_reducible refine Blk.far ?_ q2 _)))), by (repeat (first | with_reducible assumption | with_reducible refine Rd.alloc ?_ _ | with_reducible refine Rd.drew ?_ | with_reducible refine Rd.drewN ?_ _ | with_reducible refine Rd.setN ?_ (by first | omega | (simp; done) | (simp; omega)) _ _)), by have := HC.out; omega, by (repeat (first | with_reducible assumption | with_reducible exact grown_rfl _ _ | with_reducible refine grown_al ?_ _ | with_reducible refine grown_sn ?_ (by first | omega | (simp; done) | (simp; omega)) _ _ | with_reducible refine grown_dr ?_ | with_reducible refine grown_tr ?_ hgwd | with_reducible refine grown_tr ?_ hg1)), .mk _ _ _ _ HS.out.2 (fun e h => by simp at h; rcases h with rfl | rfl; exact hNc; exact hNd)⟩
theorem l4Expr_any (d rb p : Nat) (w : World) (h : Rd w rb p) (hp : p + cst d ≤ 1000000) (hd : d ≤ 100) : Calls Tryz.prog 158 #[.pointer (some ⟨rb, 0, none⟩), .int .i64 (d : Int)] w (DrewE rb p (cst d) w) := (l4Expr_nw d rb p w h hp hd).mono fun _ _ h => h.e
end Go.Proofs.YtgakjhaepdigpaaGreatDoor


/- What is drawn to be reckoned: one that is ok, one that is bent. -/
namespace Go.Proofs.YtgakjhaepdigpaaGreatDoor
set_option maxRecDepth 100000
set_option linter.unusedSimpArgs false
set_option linter.unusedVariables false
open Go.RowKit
attribute [local go_sem] bs_toList bs_get bs_size

theorem Blk.new' {w : World} {n : Nat} {t : TypeId} {cs : Array Value} (h : w.heap.size = n) : Blk (w.alloc (.cells cs t)) n t cs := h ▸ Blk.new w t cs
theorem cst_mono : ∀ {a b : Nat}, a ≤ b → cst a ≤ cst b
  | a, 0, h => by have : a = 0 := by omega
                  subst this; exact Nat.le_refl _
  | 0, b + 1, _ => cst_ge (b + 1)
  | a + 1, b + 1, h => by have := cst_mono (a := a) (b := b) (by omega); simp only [cst]; omega
set_option maxHeartbeats 4000000 in
theorem l4Some_nw (rb p : Nat) (w : World) (h : Rd w rb p) (hp : p + 225 ≤ 1000000) : Calls Tryz.prog 157 #[.pointer (some ⟨rb, 0, none⟩)] w (DrewN rb p 225 w) := by
  have hrb := h.lt
  have hq0 : w.heap.size ≠ rb := by omega
  have hq1 : rb ≠ w.heap.size := by omega
  go_enter Tryz.func157, Tryz.ntmps157
  go_upto_region 1 with fail
  generalize hW : World.alloc w _ = W1
  have hz1 : W1.heap.size = w.heap.size + 1 := by rw [← hW]; simp
  have hR1 : Rd W1 rb p := by rw [← hW]; exact h.alloc _
  have hg1 : w.grownBy W1 (some rb) := by rw [← hW]; exact grown_al (grown_rfl _ _) _
  have KB := Lib.hid (show ∀ w' : World, W1.grownBy w' (some rb) → Blk w' w.heap.size 24 zE from fun w' hh => blk_gr (by rw [← hW]; exact Blk.new _ _ _) hh hq0)
  clear hW h
  go_wp2_with fail
  refine (pick_any rb _ 4 _ hR1 (by omega) (by omega) (by omega)).mono ?_
  rintro r w2 ⟨k2, rfl, hk2, hk2', hR2, hg2⟩
  obtain ⟨i, rfl⟩ := Int.eq_ofNat_of_zero_le hk2
  obtain ⟨d, hd⟩ : ∃ d : Nat, d = 1 + i := ⟨_, rfl⟩
  have hdi : (d : Int) = 1 + (i : Int) := by omega
  have hcd : cst d ≤ 184 := Nat.le_trans (cst_mono (b := 4) (by omega)) (by decide)
  have hc2 : cst 2 = 40 := by decide
  go_wp2_with fail
  have EX := l4Expr_nw d rb _ w2 hR2 (by omega) (by omega)
  rw [hdi] at EX
  refine EX.mono ?_
  rintro r w3 ⟨v3, x3, p3, rfl, hE3, hR3, hp3, hg3, hN3⟩
  have hgw3 : W1.grownBy w3 (some rb) := grown_tr hg2 hg3
  have hz3 := hgw3.size
  have hE3' := hE3.less (lo' := w.heap.size + 1) (by have := hg2.size; omega)
  obtain ⟨k1, n1, s1, A1, cp1, l1, hx3, rfl, hs1, hc1, hm1, hK1⟩ := hE3.form
  have hb4 : Below w3.heap.size w3 (w3.alloc (.cells #[.int .i64 k1, .int .i64 n1, .string (bs s1), .slice A1 l1.length cp1] 24)) := by (repeat (first | with_reducible assumption | with_reducible exact Below.refl _ _ | with_reducible refine Below.setCell ?_ (by first | omega | (simp; done) | (simp; omega)) _ | with_reducible refine Below.alloc ?_ (by first | omega | (simp; done) | (simp; omega)) _ | with_reducible refine below_drewN ?_ _ | with_reducible refine Below.drew ?_))
  have hE4 := hE3'.ext hb4
  have OK := Lib.hid (spOk_any x3 _ (w3.alloc (.cells #[.int .i64 k1, .int .i64 n1, .string (bs s1), .slice A1 l1.length cp1] 24)) hE4.exv)
  have hB4 := Blk.new w3 24 #[.int .i64 k1, .int .i64 n1, .string (bs s1), .slice A1 l1.length cp1]
  have hR4 := hR3.ext hb4
  have hgw4 : W1.grownBy (w3.alloc (.cells #[.int .i64 k1, .int .i64 n1, .string (bs s1), .slice A1 l1.length cp1] 24)) (some rb) := grown_al hgw3 _
  generalize exOkB x3 = ok at *
  clear hE3 hE3' hK1 hgw3 hg3 hR3 hg2 hR2 hb4
  go_wp2_with fail
  refine OK.out.mono ?_
  rintro r w5 ⟨rfl, hb5⟩
  have hR5 := hR4.ext hb5
  have hE5 := hE4.ext hb5
  have hgw5 := grown_bel hgw4 hb5
  have hB5 := hB4.below hb5 (by simp)
  have hz5 := hgw5.size
  clear OK hR4 hE4 hgw4 hB4 hb5
  cases ok
  · clear hE5 hB5
    go_wp2_with fail
    refine (l4Expr_nw 2 rb _ w5 hR5 (by omega) (by omega)).mono ?_
    rintro r w6 ⟨v6, x6, p6, rfl, hE6, hR6, hp6, hg6, hN6⟩
    have hgw6 := grown_tr hgw5 hg6
    have hE6' := hE6.less (lo' := w.heap.size + 1) (by omega)
    obtain ⟨k6, n6, s6, A6, cp6, l6, hx6, rfl, hs6, hc6, hm6, hK6⟩ := hE6.form
    clear hE6 hg6 hgw5 hK6
    have B3 := KB.out w6 hgw6
    have z0 := B3.frozen 0; have z1 := B3.frozen 1; have z2 := B3.frozen 2; have z3 := B3.frozen 3
    have b0 := B3.cell 0; have b1 := B3.cell 1; have b2 := B3.cell 2; have b3 := B3.cell 3
    simp [zE] at b0 b1 b2 b3
    have HX := Lib.hid (And.intro hR6 (And.intro hgw6 (And.intro hg1 hE6')))
    clear B3 KB
    go_wp2_with fail
    refine bodyPost_ret (v := (.agg #[.int .i64 k6, .int .i64 n6, .string (bs s6), .slice A6 l6.length cp6])) (by simp [results, Tryz.results157, go_sem, *]) rfl ?_
    obtain ⟨hRz, hgz, hg1, hEz⟩ := HX.out
    exact ⟨_, x6, p6, rfl, (hEz.grown (r := some w.heap.size) (by (repeat (first | with_reducible assumption | with_reducible exact grown_rfl _ _ | with_reducible refine grown_st ?_ _ _ | with_reducible refine grown_al ?_ _))) (fun q e => by have := Option.some.inj e; omega)).less (by omega), by (repeat (first | with_reducible assumption | with_reducible refine Rd.alloc ?_ _ | with_reducible refine Rd.drew ?_ | with_reducible refine Rd.drewN ?_ _ | with_reducible refine Rd.setN ?_ (by first | omega | (simp; done) | (simp; omega)) _ _)), by omega, by (repeat (first | with_reducible assumption | with_reducible exact grown_rfl _ _ | with_reducible refine grown_al ?_ _ | with_reducible refine grown_sn ?_ (by first | omega | (simp; done) | (simp; omega)) _ _ | with_reducible refine grown_dr ?_ | with_reducible refine grown_tr ?_ hgz | with_reducible refine grown_tr ?_ hg1)), hN6⟩
  · have e0 := hB5.cell 0; have e1 := hB5.cell 1; have e2 := hB5.cell 2; have e3 := hB5.cell 3
    simp at e0 e1 e2 e3
    have B3 := KB.out w5 hgw5
    have z0 := B3.frozen 0; have z1 := B3.frozen 1; have z2 := B3.frozen 2; have z3 := B3.frozen 3
    have b0 := B3.cell 0; have b1 := B3.cell 1; have b2 := B3.cell 2; have b3 := B3.cell 3
    simp [zE] at b0 b1 b2 b3
    have HX := Lib.hid (And.intro hR5 (And.intro hgw5 (And.intro hg1 hE5)))
    clear B3 KB
    go_wp2_with fail
    refine bodyPost_ret (v := (.agg #[.int .i64 k1, .int .i64 n1, .string (bs s1), .slice A1 l1.length cp1])) (by simp [results, Tryz.results157, go_sem, *]) rfl ?_
    obtain ⟨hRz, hgz, hg1, hEz⟩ := HX.out
    exact ⟨_, x3, p3, rfl, (hEz.grown (r := some w.heap.size) (by (repeat (first | with_reducible assumption | with_reducible exact grown_rfl _ _ | with_reducible refine grown_st ?_ _ _ | with_reducible refine grown_al ?_ _))) (fun q e => by have := Option.some.inj e; omega)).less (by omega), by (repeat (first | with_reducible assumption | with_reducible refine Rd.alloc ?_ _ | with_reducible refine Rd.drew ?_ | with_reducible refine Rd.drewN ?_ _ | with_reducible refine Rd.setN ?_ (by first | omega | (simp; done) | (simp; omega)) _ _)), by omega, by (repeat (first | with_reducible assumption | with_reducible exact grown_rfl _ _ | with_reducible refine grown_al ?_ _ | with_reducible refine grown_sn ?_ (by first | omega | (simp; done) | (simp; omega)) _ _ | with_reducible refine grown_dr ?_ | with_reducible refine grown_tr ?_ hgz | with_reducible refine grown_tr ?_ hg1)), hN3⟩
set_option maxHeartbeats 4000000 in
theorem l4Bent_nw (rb p : Nat) (w : World) (h : Rd w rb p) (hp : p + 227 ≤ 1000000) : Calls Tryz.prog 121 #[.pointer (some ⟨rb, 0, none⟩)] w (DrewN rb p 227 w) := by
  have hrb := h.lt
  have hq0 : w.heap.size ≠ rb := by omega
  have hq1 : rb ≠ w.heap.size := by omega
  go_enter Tryz.func121, Tryz.ntmps121
  go_upto_region 1 with fail
  generalize hW : World.alloc w _ = W1
  have hz1 : W1.heap.size = w.heap.size + 1 := by rw [← hW]; simp
  have hR1 : Rd W1 rb p := by rw [← hW]; exact h.alloc _
  have hg1 : w.grownBy W1 (some rb) := by rw [← hW]; exact grown_al (grown_rfl _ _) _
  have KB := Lib.hid (show ∀ w' : World, W1.grownBy w' (some rb) → Blk w' w.heap.size 24 zE from fun w' hh => blk_gr (by rw [← hW]; exact Blk.new _ _ _) hh hq0)
  clear hW h
  go_wp2_with fail
  refine (l4Some_nw rb _ _ hR1 (by omega)).mono ?_
  rintro r w3 ⟨v3, x3, p3, rfl, hE3, hR3, hp3, hgw3, hN3⟩
  have hz3 := hgw3.size
  have hX3 := (hE3.less (lo' := w.heap.size + 1) (by omega)).drx
  obtain ⟨A1, cp1, rfl, hc1, hm1⟩ := hX3.form
  go_wp2_with fail
  refine (pick_any rb _ 48 _ (hR3.alloc _) (by omega) (by omega) (by omega)).mono ?_
  rintro r w4 ⟨k4, rfl, hk4, hk4', hR4, hg4⟩
  have hgw4 : W1.grownBy w4 (some rb) := by (repeat (first | with_reducible assumption | with_reducible exact grown_rfl _ _ | with_reducible refine grown_al ?_ _ | with_reducible refine grown_sn ?_ (by first | omega | (simp; done) | (simp; omega)) _ _ | with_reducible refine grown_dr ?_ | with_reducible refine grown_tr ?_ hg4 | with_reducible refine grown_tr ?_ hgw3))
  have hX4 := hX3.grown (r := some rb) (w' := w4) (by (repeat (first | with_reducible assumption | with_reducible exact grown_rfl _ _ | with_reducible refine grown_al ?_ _ | with_reducible refine grown_sn ?_ (by first | omega | (simp; done) | (simp; omega)) _ _ | with_reducible refine grown_dr ?_ | with_reducible refine grown_tr ?_ hg4))) (fun q e => by have := Option.some.inj e; omega)
  have hB4 : Blk w4 w3.heap.size 24 #[.int .i64 x3.kind, .int .i64 x3.n, .string (bs x3.s), .slice A1 x3.kids.length cp1] := blk_gr (Blk.new _ _ _) hg4 (by omega)
  have hz4 := hg4.size
  (try simp at hz4)
  clear hE3 hX3 hR3 hgw3 hg4
  have q2 : w3.heap.size ≠ rb := by omega
  have q3 : w.heap.size ≠ w3.heap.size := by omega
  have q4 : w3.heap.size ≠ w.heap.size := by omega
  go_upto_block 0 with fail
  go_cut [4] (fun s4 wx => ∃ (x : Ex) (A : Option Addr) (cp q : Nat), DrX (w.heap.size + 1) w3.heap.size wx (.agg #[.int .i64 x.kind, .int .i64 x.n, .string (bs x.s), .slice A x.kids.length cp]) x ∧ Blk wx w3.heap.size 24 #[.int .i64 x.kind, .int .i64 x.n, .string (bs x.s), .slice A x.kids.length cp] ∧ Rd wx rb q ∧ q ≤ p + 227 ∧ W1.grownBy wx (some rb) ∧ NoW x)
  case first =>
    clear KB hg1
    have hsl : x3.s.length ≤ 9223372036854775807 := by obtain ⟨_, _, h, _⟩ := hX4; exact h
    by_cases e0 : k4 = 0
    · subst e0
      go_wp2_with fail
      refine (num_any rb _ w4.heap.size [0, 5, 3, 4] _ (hR4.alloc _) (by omega) (by simp) (by simp) (by omega) (Blk.new _ _ _)).mono ?_
      rintro r w5 ⟨n5, rfl, hR5, hg5⟩
      have hB5 := blk_gr (hB4.alloc (.cells #[.int .i64 0, .int .i64 5, .int .i64 3, .int .i64 4] 3)) hg5 q2
      have hX5 := (hX4.grown (r := some rb) (w' := w5) (by (repeat (first | with_reducible assumption | with_reducible exact grown_rfl _ _ | with_reducible refine grown_al ?_ _ | with_reducible refine grown_sn ?_ (by first | omega | (simp; done) | (simp; omega)) _ _ | with_reducible refine grown_dr ?_ | with_reducible refine grown_tr ?_ hg5))) (fun q e => by have := Option.some.inj e; omega)).put n5 x3.n x3.s hsl
      have hgw5 : W1.grownBy w5 (some rb) := by (repeat (first | with_reducible assumption | with_reducible exact grown_rfl _ _ | with_reducible refine grown_al ?_ _ | with_reducible refine grown_sn ?_ (by first | omega | (simp; done) | (simp; omega)) _ _ | with_reducible refine grown_dr ?_ | with_reducible refine grown_tr ?_ hg5 | with_reducible refine grown_tr ?_ hgw4))
      have z0 := hB5.frozen 0
      have b0 := hB5.cell 0
      simp at b0
      have HX := Lib.hid (And.intro hX5 (And.intro hB5 (And.intro hR5 hgw5)))
      clear hB5 hX5 hgw5 hR5 hg5 hR4 hX4 hB4
      go_wp2_with fail
      go_meet
      obtain ⟨hX5, hB5, hR5, hgw5⟩ := HX.out
      exact ⟨.mk n5 x3.n x3.s x3.kids, A1, cp1, _, hX5.grown (r := some w3.heap.size) (by (repeat (first | with_reducible assumption | with_reducible exact grown_rfl _ _ | with_reducible refine grown_st ?_ _ _ | with_reducible refine grown_al ?_ _))) (fun q e => .inr (Option.some.inj e).symm), hB5.set_ 0 (.int .i64 n5), hR5.setN (by omega) _ _, by omega, grown_sn hgw5 (by omega) _ _, hN3.put _ _ hN3.s⟩
    have d0 : (k4 == 0) = false := by simpa using e0
    by_cases e1 : k4 = 1
    · subst e1
      go_wp2_with fail
      refine (num_any rb _ w4.heap.size [1, -1, 1000001] _ (hR4.alloc _) (by omega) (by simp) (by simp) (by omega) (Blk.new _ _ _)).mono ?_
      rintro r w5 ⟨n5, rfl, hR5, hg5⟩
      have hB5 := blk_gr (hB4.alloc (.cells #[.int .i64 1, .int .i64 (-1), .int .i64 1000001] 3)) hg5 q2
      have hX5 := (hX4.grown (r := some rb) (w' := w5) (by (repeat (first | with_reducible assumption | with_reducible exact grown_rfl _ _ | with_reducible refine grown_al ?_ _ | with_reducible refine grown_sn ?_ (by first | omega | (simp; done) | (simp; omega)) _ _ | with_reducible refine grown_dr ?_ | with_reducible refine grown_tr ?_ hg5))) (fun q e => by have := Option.some.inj e; omega)).put x3.kind n5 x3.s hsl
      have hgw5 : W1.grownBy w5 (some rb) := by (repeat (first | with_reducible assumption | with_reducible exact grown_rfl _ _ | with_reducible refine grown_al ?_ _ | with_reducible refine grown_sn ?_ (by first | omega | (simp; done) | (simp; omega)) _ _ | with_reducible refine grown_dr ?_ | with_reducible refine grown_tr ?_ hg5 | with_reducible refine grown_tr ?_ hgw4))
      have z1 := hB5.frozen 1
      have b1 := hB5.cell 1
      simp at b1
      have HX := Lib.hid (And.intro hX5 (And.intro hB5 (And.intro hR5 hgw5)))
      clear hB5 hX5 hgw5 hR5 hg5 hR4 hX4 hB4
      go_wp2_with fail
      go_meet
      obtain ⟨hX5, hB5, hR5, hgw5⟩ := HX.out
      exact ⟨.mk x3.kind n5 x3.s x3.kids, A1, cp1, _, hX5.grown (r := some w3.heap.size) (by (repeat (first | with_reducible assumption | with_reducible exact grown_rfl _ _ | with_reducible refine grown_st ?_ _ _ | with_reducible refine grown_al ?_ _))) (fun q e => .inr (Option.some.inj e).symm), hB5.set_ 1 (.int .i64 n5), hR5.setN (by omega) _ _, by omega, grown_sn hgw5 (by omega) _ _, hN3.put _ _ hN3.s⟩
    have d1 : (k4 == 1) = false := by simpa using e1
    by_cases e2 : k4 = 2
    · subst e2
      go_wp2_with fail
      refine (of_any rb _ w4.heap.size [[108, 101, 116], [88], [60], [105, 110, 116], [120]] _ (hR4.alloc _) (by omega) (by simp) (by simp) (by omega) (Blk.new _ _ _)).mono ?_
      rintro r w5 ⟨s5, rfl, hs5, hR5, hg5⟩
      have hB5 := blk_gr (hB4.alloc (.cells ([[108, 101, 116], [88], [60], [105, 110, 116], [120]].map (fun s : Bytes => Value.string (bs s))).toArray 9)) hg5 q2
      have HNW := Lib.hid (nw_words hs5 (by decide))
      have hX5 := (hX4.grown (r := some rb) (w' := w5) (by (repeat (first | with_reducible assumption | with_reducible exact grown_rfl _ _ | with_reducible refine grown_al ?_ _ | with_reducible refine grown_sn ?_ (by first | omega | (simp; done) | (simp; omega)) _ _ | with_reducible refine grown_dr ?_ | with_reducible refine grown_tr ?_ hg5))) (fun q e => by have := Option.some.inj e; omega)).put x3.kind x3.n s5 (len_words hs5 (by decide))
      have hgw5 : W1.grownBy w5 (some rb) := by (repeat (first | with_reducible assumption | with_reducible exact grown_rfl _ _ | with_reducible refine grown_al ?_ _ | with_reducible refine grown_sn ?_ (by first | omega | (simp; done) | (simp; omega)) _ _ | with_reducible refine grown_dr ?_ | with_reducible refine grown_tr ?_ hg5 | with_reducible refine grown_tr ?_ hgw4))
      have z2 := hB5.frozen 2
      have b2 := hB5.cell 2
      simp at b2
      have HX := Lib.hid (And.intro hX5 (And.intro hB5 (And.intro hR5 hgw5)))
      clear hB5 hX5 hgw5 hR5 hg5 hR4 hX4 hB4 hs5
      go_wp2_with fail
      go_meet
      obtain ⟨hX5, hB5, hR5, hgw5⟩ := HX.out
      exact ⟨.mk x3.kind x3.n s5 x3.kids, A1, cp1, _, hX5.grown (r := some w3.heap.size) (by (repeat (first | with_reducible assumption | with_reducible exact grown_rfl _ _ | with_reducible refine grown_st ?_ _ _ | with_reducible refine grown_al ?_ _))) (fun q e => .inr (Option.some.inj e).symm), hB5.set_ 2 (.string (bs s5)), hR5.setN (by omega) _ _, by omega, grown_sn hgw5 (by omega) _ _, hN3.put _ _ HNW.out⟩
    have d2 : (k4 == 2) = false := by simpa using e2
    by_cases e3 : k4 = 3
    · subst e3
      have HX4 := Lib.hid (And.intro hX4 (And.intro hB4 (And.intro hR4 hgw4)))
      clear hX4 hB4 hR4 hgw4 d0 d1 d2 e0 e1 e2
      go_wp2_with fail
      go_loopg [4] 5 (fun k i wr => ∃ j : Nat, k = 5 - j ∧ j ≤ 5 ∧ i = .int .i64 j ∧ ∃ (x : Ex) (A : Option Addr) (cp : Nat), DrX (w.heap.size + 1) w3.heap.size wr (.agg #[.int .i64 x.kind, .int .i64 x.n, .string (bs x.s), .slice A x.kids.length cp]) x ∧ Blk wr w3.heap.size 24 #[.int .i64 x.kind, .int .i64 x.n, .string (bs x.s), .slice A x.kids.length cp] ∧ Rd wr rb (p3 + 1) ∧ W1.grownBy wr (some rb) ∧ NoW x)
      case atStart => exact ⟨0, by omega, by omega, rfl, x3, A1, cp1, HX4.out.1, HX4.out.2.1, HX4.out.2.2.1, HX4.out.2.2.2, hN3⟩
      case round =>
        obtain ⟨j, hk, hj, rfl, x, A, cp, hX, hB, hR, hg, hNx⟩ := hrel
        have HK := Lib.hid hk
        clear hk
        have hzr := hB.lt
        have hzg := hg.size
        by_cases hlt : j < 5
        rotate_left
        · have HX := Lib.hid (And.intro hX (And.intro hB (And.intro hR hg)))
          clear hX hB hR hg HX4
          go_wp2_with fail
          go_meet
          obtain ⟨hX, hB, hR, hg⟩ := HX.out
          exact ⟨x, A, cp, _, hX, hB, hR, by omega, hg, hNx⟩
        · have a0 := hB.cell 0; have a1 := hB.cell 1; have a2 := hB.cell 2; have a3 := hB.cell 3
          simp at a0 a1 a2 a3
          have y0 := hB.frozen 0; have y1 := hB.frozen 1; have y2 := hB.frozen 2; have y3 := hB.frozen 3
          have hB2 := hB.alloc (.cells #[.int .i64 x.kind, .int .i64 x.n, .string (bs x.s), .slice A x.kids.length cp] 24)
          have z0 := hB2.frozen 0; have z1 := hB2.frozen 1; have z2 := hB2.frozen 2; have z3 := hB2.frozen 3
          have b0 := hB2.cell 0; have b1 := hB2.cell 1; have b2 := hB2.cell 2; have b3 := hB2.cell 3
          simp at b0 b1 b2 b3
          have HX := Lib.hid (And.intro hX (And.intro hB (And.intro hR hg)))
          have q5 : w3.heap.size ≠ wr.heap.size := by omega
          have q6 : wr.heap.size ≠ w3.heap.size := by omega
          clear hX hB hR hg HX4 hB2
          go_wp2_with fail
          go_roundg (5 - (j + 1))
          case measure => have := HK.out; omega
          case rel =>
            obtain ⟨hX, hB, hR, hg⟩ := HX.out
            refine ⟨j + 1, rfl, by omega, by go_num, .mk 4 0 [105, 110, 116] [x], some ⟨wr.heap.size, 0, none⟩, 1, ?_, ?_, by (repeat (first | with_reducible assumption | with_reducible refine Rd.alloc ?_ _ | with_reducible refine Rd.drew ?_ | with_reducible refine Rd.drewN ?_ _ | with_reducible refine Rd.setN ?_ (by first | omega | (simp; done) | (simp; omega)) _ _)), by (repeat (first | with_reducible assumption | with_reducible exact grown_rfl _ _ | with_reducible refine grown_al ?_ _ | with_reducible refine grown_sn ?_ (by first | omega | (simp; done) | (simp; omega)) _ _ | with_reducible refine grown_dr ?_ | with_reducible refine grown_tr ?_ hg)), .mk _ _ _ _ (by decide) (fun e h => by simp at h; subst h; exact hNx)⟩
            · refine DrX.one (e0 := x) (hX.grown (r := some w3.heap.size) (by (repeat (first | with_reducible assumption | with_reducible exact grown_rfl _ _ | with_reducible refine grown_st ?_ _ _ | with_reducible refine grown_al ?_ _))) (fun q e => .inr (Option.some.inj e).symm)) (show ([105, 110, 116] : Bytes).length ≤ 9223372036854775807 by simp) (by omega) (by omega) ?_
              exact Blk.new' (by simp only [World.size_setCell])
            · exact ((((hB.set_ 0 (.int .i64 4)).set_ 1 (.int .i64 0)).set_ 2 (.string (bs [105, 110, 116]))).set_ 3 (.slice (some ⟨wr.heap.size, 0, none⟩) 1 1)).alloc _
    have d3 : (k4 == 3) = false := by simpa using e3
    have HX := Lib.hid (And.intro hX4 (And.intro hB4 (And.intro hR4 hgw4)))
    clear hX4 hB4 hR4 hgw4
    go_wp2_with fail
    go_meet
    obtain ⟨hX, hB, hR, hg⟩ := HX.out
    exact ⟨x3, A1, cp1, _, hX, hB, hR, by omega, hg, hN3⟩
  case rest =>
    obtain ⟨x, A, cp, q, hX, hB, hR, hq, hg, hNx⟩ := hcut
    have e0 := hB.cell 0; have e1 := hB.cell 1; have e2 := hB.cell 2; have e3 := hB.cell 3
    simp at e0 e1 e2 e3
    have hE := hX.dre
    clear hX4 hB4 hR4 hgw4 hX hB
    have B3 := KB.out wc hg
    have z0 := B3.frozen 0; have z1 := B3.frozen 1; have z2 := B3.frozen 2; have z3 := B3.frozen 3
    have b0 := B3.cell 0; have b1 := B3.cell 1; have b2 := B3.cell 2; have b3 := B3.cell 3
    simp [zE] at b0 b1 b2 b3
    have HX := Lib.hid (And.intro hR (And.intro hg (And.intro hg1 hE)))
    clear B3 KB
    go_wp2_with fail
    refine bodyPost_ret (v := (.agg #[.int .i64 x.kind, .int .i64 x.n, .string (bs x.s), .slice A x.kids.length cp])) (by simp [results, Tryz.results121, go_sem, *]) rfl ?_
    obtain ⟨hRz, hgz, hg1, hEz⟩ := HX.out
    exact ⟨_, x, q, rfl, (hEz.grown (r := some w.heap.size) (by (repeat (first | with_reducible assumption | with_reducible exact grown_rfl _ _ | with_reducible refine grown_st ?_ _ _ | with_reducible refine grown_al ?_ _))) (fun q e => by have := Option.some.inj e; omega)).less (by omega), by (repeat (first | with_reducible assumption | with_reducible refine Rd.alloc ?_ _ | with_reducible refine Rd.drew ?_ | with_reducible refine Rd.drewN ?_ _ | with_reducible refine Rd.setN ?_ (by first | omega | (simp; done) | (simp; omega)) _ _)), by omega, by (repeat (first | with_reducible assumption | with_reducible exact grown_rfl _ _ | with_reducible refine grown_al ?_ _ | with_reducible refine grown_sn ?_ (by first | omega | (simp; done) | (simp; omega)) _ _ | with_reducible refine grown_dr ?_ | with_reducible refine grown_tr ?_ hgz | with_reducible refine grown_tr ?_ hg1)), hNx⟩
theorem l4Some_any (rb p : Nat) (w : World) (h : Rd w rb p) (hp : p + 225 ≤ 1000000) : Calls Tryz.prog 157 #[.pointer (some ⟨rb, 0, none⟩)] w (DrewE rb p 225 w) := (l4Some_nw rb p w h hp).mono fun _ _ h => h.e
theorem l4Bent_any (rb p : Nat) (w : World) (h : Rd w rb p) (hp : p + 227 ≤ 1000000) : Calls Tryz.prog 121 #[.pointer (some ⟨rb, 0, none⟩)] w (DrewE rb p 227 w) := (l4Bent_nw rb p w h hp).mono fun _ _ h => h.e
end Go.Proofs.YtgakjhaepdigpaaGreatDoor
