
/- A statement's trees are marked; a row of words is held as marked: the walks. -/
import Derived.Test.YtppefinpekhbeaaGreatDoorStrs
import Derived.Test.YtppefinpekhbeaaGreatDoorMks
import Derived.Test.YtppefinpekhbeaaGreatDoorExLaw2
import Derived.Test.YtppefinpekhbeaaGreatDoorStLaw
namespace Go.Proofs.YtppefinpekhbeaaGreatDoor
set_option maxRecDepth 100000
set_option linter.unusedSimpArgs false
set_option linter.unusedVariables false
open Go.RowKit
attribute [local go_sem] bs_toList bs_get bs_size

theorem Fr.footZ {α : Type} {row : α → List Value} {k : Nat} {t : TypeId} {w w' : World} {lo : Nat} {v : Value} {l : List α} {bl : List Nat} (h : Fr row k t w lo v l) (hF : Foot w w' bl) (hd : ∀ x ∈ bl, x < lo) : Fr row k t w' lo v l := by
  rcases h.form with ⟨rfl, rfl⟩ | ⟨g, cap, cur, rfl, hlo, hc, hm, hB, hx⟩
  · exact .inl ⟨rfl, rfl⟩
  · exact .inr ⟨g, cap, cur, rfl, hlo, hc, hm, (hF.2.2.2.2 g hB.lt (fun h => by have := hd g h; omega)).trans hB, hx⟩
theorem Blk.footZ {w w' : World} {g : Nat} {t : TypeId} {cs : Array Value} {bl : List Nat} (h : Blk w g t cs) (hF : Foot w w' bl) (hn : g ∉ bl) : Blk w' g t cs := (hF.2.2.2.2 g h.lt hn).trans h
theorem SmOV.ext {t : TypeId} {w w' : World} {v : Value} {s : Sm} {bl : List Nat} (h : SmOV t w v s bl) (hb : Ext w w') : SmOV t w' v s bl := by
  obtain ⟨A1, A2, c1, c2, b1, b2, rfl, h1, h2, h3, h4, h5, h6, rfl⟩ := h
  exact ⟨A1, A2, c1, c2, b1, b2, rfl, h1, h2, h3, h4, h5.ext hb, h6.ext hb, rfl⟩
/-- a tree's parts are marked -/
theorem markExprZ (x : Ex) (A : Option Addr) (c : Nat) (bl : List Nat) (w : World) (k : Nat) (hO : ExO 25 w (.slice A x.kids.length c) x.kids bl) (hnd : bl.Nodup) (hk1 : 1 ≤ k) (hk2 : k + 3 * ndL x.kids ≤ 90000000) :
    Calls Tryz.prog 59 #[.agg #[.int .i64 x.kind, .int .i64 x.n, .string (bs x.s), .slice A x.kids.length c], .int .i64 (k : Int)] w fun e w' => e = .returned (.int .i64 ((k + 3 * ndL x.kids : Nat) : Int)) ∧ Foot w w' bl := by
  have hb : Below w.heap.size w (w.alloc (.cells #[.int .i64 x.kind, .int .i64 x.n, .string (bs x.s), .slice A x.kids.length c] 25)) := by (repeat (first | with_reducible assumption | with_reducible exact Below.refl _ _ | with_reducible refine Below.setCell ?_ (by first | omega | (simp; done) | (simp; omega)) _ | with_reducible refine Below.alloc ?_ (by first | omega | (simp; done) | (simp; omega)) _ | with_reducible refine below_drewN ?_ _ | with_reducible refine Below.drew ?_))
  have H := Lib.hid (markExprS_n _ x.kids (Nat.le_refl _) _ bl _ k (hO.ext hb) hnd hk1 hk2)
  have HB := Lib.hid hb
  clear hO hb
  go_enter Tryz.func59, Tryz.ntmps59
  go_wp2_with fail
  refine H.out.mono ?_
  rintro r w2 ⟨rfl, m, _, _, _, _, hF⟩
  have HX := Lib.hid hF
  clear hF
  go_wp2_with fail
  go_ret
  exact ⟨rfl, (Foot.ext HB.out).trans HX.out⟩
/-- a statement's trees are marked -/
theorem markStmt_any (s : Sm) (v : Value) (bl : List Nat) (w : World) (hO : SmOV 25 w v s bl) (hnd : bl.Nodup) (hw : s.wt ≤ 1048576) :
    Calls Tryz.prog 25 #[v, .int .i64 1] w fun e w' => ∃ k : Nat, e = .returned (.int .i64 k) ∧ Foot w w' bl := by
  obtain ⟨A1, A2, c1, c2, b1, b2, rfl, h1, h2, h3, h4, h5, h6, rfl⟩ := hO
  obtain ⟨hn1, hn2, hn12⟩ := List.nodup_append.1 hnd
  have hnn : ndL s.ex.kids + ndL s.th.kids ≤ s.wt := by
    have a1 := ndL_le s.ex.kids
    have a2 := ndL_le s.th.kids
    have a3 : s.ex.wt = s.ex.s.length + wtL s.ex.kids := by cases s.ex; exact Ex.wt_mk ..
    have a4 : s.th.wt = s.th.s.length + wtL s.th.kids := by cases s.th; exact Ex.wt_mk ..
    have a5 : s.wt = s.name.length + s.typ.length + s.ex.wt + s.th.wt := rfl
    omega
  generalize hW0 : World.alloc w (.cells #[.int .i64 s.kind, .string (bs s.name), .string (bs s.typ), .int .i64 s.ex.kind, .int .i64 s.ex.n, .string (bs s.ex.s), .slice A1 s.ex.kids.length c1, .int .i64 s.th.kind, .int .i64 s.th.n, .string (bs s.th.s), .slice A2 s.th.kids.length c2] 27) = W0
  have hX := Blk.new w 27 #[.int .i64 s.kind, .string (bs s.name), .string (bs s.typ), .int .i64 s.ex.kind, .int .i64 s.ex.n, .string (bs s.ex.s), .slice A1 s.ex.kids.length c1, .int .i64 s.th.kind, .int .i64 s.th.n, .string (bs s.th.s), .slice A2 s.th.kids.length c2]
  have hb : Below w.heap.size w W0 := by rw [← hW0]; (repeat (first | with_reducible assumption | with_reducible exact Below.refl _ _ | with_reducible refine Below.setCell ?_ (by first | omega | (simp; done) | (simp; omega)) _ | with_reducible refine Below.alloc ?_ (by first | omega | (simp; done) | (simp; omega)) _ | with_reducible refine below_drewN ?_ _ | with_reducible refine Below.drew ?_))
  rw [hW0] at hX
  have C1 := Lib.hid (markExprZ s.ex A1 c1 b1 W0 1 (h5.ext hb) hn1 (by omega) (by omega))
  have hl5 := h5.lt
  have hl6 := h6.lt
  have C2 := Lib.hid (fun (w' : World) (h : Foot W0 w' b1) => markExprZ s.th A2 c2 b2 w' (1 + 3 * ndL s.ex.kids) ((h6.ext hb).same (fun q hq => h.2.2.2.2 q (by have := hl6 q hq; have := hb.size; omega) (fun hm => hn12 _ hm _ hq rfl))) hn2 (by omega) (by omega))
  have HB := Lib.hid hb
  have hxn : w.heap.size ∉ b1 := fun h => by have := hl5 _ h; omega
  have p := fun i => hX.cell i
  have p3 := p 3; have p4 := p 4; have p5 := p 5; have p6 := p 6; have p7 := p 7; have p8 := p 8; have p9 := p 9; have p10 := p 10
  simp at p3 p4 p5 p6 p7 p8 p9 p10
  have PK := Lib.hid (fun (w' : World) (h : Foot W0 w' b1) (i : Nat) => (hX.footZ h hxn).cell i)
  generalize hk : 1 + 3 * ndL s.ex.kids = k at *
  clear h5 h6 hnd hn1 hn2 hn12 hnn hb hxn p hl5 hl6 hk
  go_enter Tryz.func25, Tryz.ntmps25
  go_upto_region 1 with fail
  go_wp2_with fail
  refine C1.out.mono ?_
  rintro r w2 ⟨rfl, hF⟩
  have q := PK.out w2 hF
  have q7 := q 7; have q8 := q 8; have q9 := q 9; have q10 := q 10
  simp at q7 q8 q9 q10
  have C3 := Lib.hid (C2.out w2 hF)
  have HF := Lib.hid hF
  clear q hF p3 p4 p5 p6 p7 p8 p9 p10
  go_wp2_with fail
  refine C3.out.mono ?_
  rintro r w3 ⟨rfl, hF2⟩
  have HF2 := Lib.hid hF2
  clear hF2
  go_wp2_with fail
  go_ret
  exact ⟨_, rfl, (Foot.ext HB.out).trans ((HF.out.more (fun x hx => List.mem_append.2 (.inl hx))).trans (HF2.out.more (fun x hx => List.mem_append.2 (.inr hx))))⟩
/-- the marked row is held -/
theorem heldStr_any (w : World) (v : Value) (k n : Nat) (hv : SlB w w.heap.size v (mkIn k n)) (hk0 : 1 ≤ k) (hk1 : k ≤ 1000000) (hl : n ≤ 1048576) :
    Calls Tryz.prog 27 #[v, .int .i64 (k : Int)] w fun e w' => e = .returned (.int .i64 ((k + n : Nat) : Int)) ∧ Below w.heap.size w w' := by
  obtain ⟨A, c, hve, hc, hm⟩ := hv.val
  rw [mkIn_len] at hve hc
  subst hve
  have HV := Lib.hid hv
  clear hv
  go_enter Tryz.func27, Tryz.ntmps27
  go_wp2_with fail
  go_loopg [1, 5] n (fun m a b wr => ∃ i : Nat, m = n - i ∧ i ≤ n ∧ a = .int .i64 ((k + i : Nat) : Int) ∧ b = .int .i64 i ∧ Below w.heap.size w wr)
  case atStart => exact ⟨0, by omega, by omega, by simp, rfl, Below.refl _ _⟩
  case round =>
    obtain ⟨i, hk, hin, rfl, rfl, hbl⟩ := hrel
    have HK := Lib.hid hk
    clear hk
    by_cases hlt : i < n
    · have hdl : decide (((i : Nat) : Int) < ((n : Nat) : Int)) = true := by rw [decide_eq_true_eq]; omega
      obtain ⟨q2, p2, x, hAe, hq2, hgx, fx⟩ := str_at HV.out (by rw [mkIn_len]; exact hlt)
      rw [mkIn_at _ hlt] at hgx
      obtain rfl := Option.some.inj hgx
      have FX := Lib.hid fx
      subst hAe
      have MT := Lib.hid (fun (x : Later w.heap.size w) => markText_any (k + i) (by omega) (by omega) x.w')
      have hwk : IntKind.i64.wrap (((k + i : Nat) : Int) + 1) = ((k + i : Nat) : Int) + 1 := by rw [IntKind.wrap_i64]; omega
      clear fx hgx
      have fx : ∀ x : Later w.heap.size w, x.w'.cell? ⟨q2, p2 + i, none⟩ = _ := fun x => FX.out x
      generalize hki : k + i = ki at *
      have HKI := Lib.hid hki
      have hkb : ki ≤ 100000000 := by omega
      clear hki
      obtain ⟨x, rfl⟩ := Later.ex hbl
      go_wp2_with fail
      refine wp_region_later hbl (by kernel_rfl) (by kernel_rfl) ?_
      repeat (go_big_quiet_step ((go_at_call 60; exact later_call' MT.out)))
      refine wpQuiet_nil ?_
      rintro _ ⟨y, rfl⟩
      have hy := y.ok
      go_wp2_with fail
      go_roundg (n - (i + 1))
      case measure => have := HK.out; omega
      case rel => exact ⟨i + 1, rfl, by omega, by have := HKI.out; congr 1; omega, by go_num, hy⟩
    · have hdl : decide (((i : Nat) : Int) < ((n : Nat) : Int)) = false := by rw [decide_eq_false_iff_not]; omega
      obtain rfl : i = n := by omega
      go_wp2_with fail
      go_ret
      exact ⟨rfl, hbl⟩
end Go.Proofs.YtppefinpekhbeaaGreatDoor
