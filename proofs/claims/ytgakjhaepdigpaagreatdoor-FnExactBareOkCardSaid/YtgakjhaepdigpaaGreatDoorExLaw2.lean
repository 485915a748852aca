
/- Trees in the laws' own hands: their equality, their copies. -/
import Derived.Test.YtgakjhaepdigpaaGreatDoorZm2
namespace Go.Proofs.YtgakjhaepdigpaaGreatDoor
set_option maxRecDepth 100000
set_option linter.unusedSimpArgs false
set_option linter.unusedVariables false
open Go.RowKit
attribute [local go_sem] bs_toList bs_get bs_size

theorem later_call' {P : Program} {f : FuncId} {args : Array Value} {W : World} {x : Later W.heap.size W} {v : Value}
    (h : ∀ y : Later W.heap.size W, Calls P f args y.w' fun e w' => e = .returned v ∧ Below y.w'.heap.size y.w' w') : Calls P f args x.w' fun e w'' => e = .returned v ∧ ∃ y : Later W.heap.size W, w'' = y.w' :=
  later_call (Nat.le_refl _) (h x)
theorem ExV.later {W : World} {v : Value} {e : Ex} (h : ExV W W.heap.size v e) (y : Later W.heap.size W) : ExV y.w' y.w'.heap.size v e := h.ext y.ok

theorem eqExpr_of (k : Nat) (ih : ∀ (l m : List Ex) (v u : Value) (W : World), SizeOf.sizeOf l < k → ExS W W.heap.size v l → ExS W W.heap.size u m → Calls Tryz.prog 118 #[v, u] W fun e w' => e = .returned (.bool (decide (l = m))) ∧ Below W.heap.size W w')
    (a b : Ex) (v u : Value) (W : World) (hk : SizeOf.sizeOf a ≤ k) (hv : ExV W W.heap.size v a) (hu : ExV W W.heap.size u b) :
    Calls Tryz.prog 58 #[v, u] W fun e w' => e = .returned (.bool (decide (a = b))) ∧ Below W.heap.size W w' := by
  obtain ⟨p, q, s, A, c, m, rfl, rfl, hs, hc, hm, hkv⟩ := hv.form
  obtain ⟨p', q', s', A', c', m', rfl, rfl, hs', hc', hm', hku⟩ := hu.form
  have hsk := Ex.size_kids (.mk p q s m)
  simp only [Ex.kids] at hsk
  have hB : Below W.heap.size W ((W.alloc (.cells #[.int .i64 p, .int .i64 q, .string (bs s), .slice A m.length c] 24)).alloc (.cells #[.int .i64 p', .int .i64 q', .string (bs s'), .slice A' m'.length c'] 24)) := by (repeat (first | with_reducible assumption | with_reducible exact Below.refl _ _ | with_reducible refine Below.setCell ?_ (by first | omega | (simp; done) | (simp; omega)) _ | with_reducible refine Below.alloc ?_ (by first | omega | (simp; done) | (simp; omega)) _ | with_reducible refine below_drewN ?_ _ | with_reducible refine Below.drew ?_))
  have hcall := ih m m' _ _ _ (by omega) (hkv.ext hB) (hku.ext hB)
  clear ih
  by_cases hd : Ex.mk p q s m = Ex.mk p' q' s' m'
  · obtain ⟨rfl, rfl, rfl, rfl⟩ := Ex.mk.inj hd
    rw [decide_eq_true rfl] at hcall
    have HC := Lib.hid hcall
    clear hcall hd
    go_enter Tryz.func58, Tryz.ntmps58
    go_wp2_with fail
    refine HC.out.mono ?_
    rintro e w1 ⟨rfl, hb1⟩
    go_wp2_with fail
    go_ret
    exact ⟨ret_bool (by simp), by (repeat (first | with_reducible assumption | with_reducible exact Below.refl _ _ | with_reducible refine Below.setCell ?_ (by first | omega | (simp; done) | (simp; omega)) _ | with_reducible refine Below.alloc ?_ (by first | omega | (simp; done) | (simp; omega)) _ | with_reducible refine below_drewN ?_ _ | with_reducible refine Below.drew ?_ | with_reducible refine Below.trans ?_ (Below.mono hb1 (by first | omega | (simp; done) | (simp; omega)))))⟩
  · have HD := Lib.hid hd
    by_cases e1 : p = p' ∧ q = q' ∧ s = s'
    · obtain ⟨rfl, rfl, rfl⟩ := e1
      have hmm : ¬ m = m' := fun e => hd (by rw [e])
      rw [decide_eq_false hmm] at hcall
      have HC := Lib.hid hcall
      clear hcall hmm hd
      go_enter Tryz.func58, Tryz.ntmps58
      go_wp2_with fail
      refine HC.out.mono ?_
      rintro e w1 ⟨rfl, hb1⟩
      go_wp2_with fail
      go_ret
      exact ⟨ret_bool (decide_eq_false HD.out).symm, by (repeat (first | with_reducible assumption | with_reducible exact Below.refl _ _ | with_reducible refine Below.setCell ?_ (by first | omega | (simp; done) | (simp; omega)) _ | with_reducible refine Below.alloc ?_ (by first | omega | (simp; done) | (simp; omega)) _ | with_reducible refine below_drewN ?_ _ | with_reducible refine Below.drew ?_ | with_reducible refine Below.trans ?_ (Below.mono hb1 (by first | omega | (simp; done) | (simp; omega)))))⟩
    · have E1 := Lib.hid e1
      clear hcall hd e1
      go_enter Tryz.func58, Tryz.ntmps58
      go_wp2_with fail
      all_goals first
        | (go_ret; exact ⟨ret_bool (decide_eq_false HD.out).symm, by (repeat (first | with_reducible assumption | with_reducible exact Below.refl _ _ | with_reducible refine Below.setCell ?_ (by first | omega | (simp; done) | (simp; omega)) _ | with_reducible refine Below.alloc ?_ (by first | omega | (simp; done) | (simp; omega)) _ | with_reducible refine below_drewN ?_ _ | with_reducible refine Below.drew ?_))⟩)
        | (exfalso; have := E1.out; go_light; simp_all)
theorem eqExprS_n : ∀ (k : Nat) (l m : List Ex) (v u : Value) (W : World), SizeOf.sizeOf l ≤ k → ExS W W.heap.size v l → ExS W W.heap.size u m →
    Calls Tryz.prog 118 #[v, u] W fun e w' => e = .returned (.bool (decide (l = m))) ∧ Below W.heap.size W w' := by
  intro k
  induction k using Nat.strongRecOn with
  | _ k ih =>
    intro l m v u W hk hv hu
    have one : ∀ (a b : Ex) (v u : Value) (W : World), SizeOf.sizeOf a < k → ExV W W.heap.size v a → ExV W W.heap.size u b →
        Calls Tryz.prog 58 #[v, u] W fun e w' => e = .returned (.bool (decide (a = b))) ∧ Below W.heap.size W w' :=
      fun a b v u W ha hv hu => eqExpr_of (SizeOf.sizeOf a) (fun l m v u W hl hv hu => ih (SizeOf.sizeOf l) (by omega) l m v u W (Nat.le_refl _) hv hu) a b v u W (Nat.le_refl _) hv hu
    have ONE := Lib.hid one
    clear one ih
    obtain ⟨A, c, rfl, hc, hm⟩ := hv.val
    obtain ⟨A', c', rfl, hc', hm'⟩ := hu.val
    by_cases hnm : l.length = m.length
    rotate_left
    · have hne : (((l.length : Nat) : Int) != ((m.length : Nat) : Int)) = true := by simp; omega
      have hd : decide (l = m) = false := by simp; intro e; exact hnm (by rw [e])
      have HD := Lib.hid hd
      clear hd
      go_enter Tryz.func118, Tryz.ntmps118
      go_wp2
      go_ret
      exact ⟨ret_bool HD.out.symm, Below.refl _ _⟩
    have hne : (((l.length : Nat) : Int) != ((m.length : Nat) : Int)) = false := by simp [hnm]
    have HNM := Lib.hid hnm
    clear hnm
    go_enter Tryz.func118, Tryz.ntmps118
    go_wp2_with fail
    go_loopg [5] l.length (fun k p wr => ∃ i : Nat, k = l.length - i ∧ i ≤ l.length ∧ p = .int .i64 i ∧ AgreeTo i l m ∧ Below W.heap.size W wr)
    case atStart => exact ⟨0, by omega, by omega, rfl, AgreeTo.zero _ _, Below.refl _ _⟩
    case' round =>
      obtain ⟨i, hk2, hin, rfl, hij, hbl⟩ := hrel
      have HK := Lib.hid hk2
      clear hk2
      have hlm := HNM.out
      have him : i ≤ m.length := by omega
      clear hlm
      by_cases hlt : i < l.length
      rotate_left
      · go_wp2_with fail
        go_ret
        exact ⟨ret_bool (by simp; exact (AgreeTo.eq hij (by omega) HNM.out)), hbl⟩
      have hlm : i < m.length := by have := HNM.out; omega
      obtain ⟨b, o, p, q, s, A1, c1, m1, rfl, hb, hg, hs1, hm1, hc1, hk1, f0, f1, f2, f3⟩ := ex_at hv hlt
      obtain ⟨b', o', p', q', s', A1', c1', m1', rfl, hb', hg', hs1', hm1', hc1', hk1', f0', f1', f2', f3'⟩ := ex_at hu hlm
      have hsz := Ex.size_mem hg
      have HG := Lib.hid (And.intro hg hg')
      clear hg hg'
      obtain ⟨x, rfl⟩ := Later.ex hbl
      rw [bs_size] at hs1 hs1'
      have hcall : ∀ y : Later W.heap.size W, Calls Tryz.prog 58 #[.agg #[.int .i64 p, .int .i64 q, .string (bs s), .slice A1 m1.length c1], .agg #[.int .i64 p', .int .i64 q', .string (bs s'), .slice A1' m1'.length c1']] y.w' fun e w' => e = .returned (.bool (decide (Ex.mk p q s m1 = Ex.mk p' q' s' m1'))) ∧ Below y.w'.heap.size y.w' w' :=
        fun y => ONE.out (.mk p q s m1) (.mk p' q' s' m1') _ _ y.w' (by omega) ⟨_, rfl, hs1, hk1.ext y.ok⟩ ⟨_, rfl, hs1', hk1'.ext y.ok⟩
      by_cases hst : Ex.mk p q s m1 = Ex.mk p' q' s' m1'
      all_goals
        rw [show decide (Ex.mk p q s m1 = Ex.mk p' q' s' m1') = _ by first | exact decide_eq_true hst | exact decide_eq_false hst] at hcall
        have HD := Lib.hid hcall
        have HST := Lib.hid hst
        clear hst hcall
        go_wp2_with fail
        refine wp_region_later hbl (by kernel_rfl) (by kernel_rfl) ?_
        repeat (go_big_quiet_step ((go_at_call 58; exact later_call' HD.out)))
        refine wpQuiet_nil ?_
        rintro _ ⟨y, rfl⟩
        have hy := y.ok
        go_wp2_with fail
      · go_roundg (l.length - (i + 1))
        case measure => have := HK.out; omega
        case rel => exact ⟨i + 1, rfl, by omega, by go_num, hij.succ HG.out.1 (HST.out ▸ HG.out.2), hy⟩
      · go_ret
        exact ⟨ret_bool (by simpa using AgreeTo.ne HG.out.1 HG.out.2 HST.out), hy⟩
theorem eqExpr_any (a b : Ex) (v u : Value) (W : World) (hv : ExV W W.heap.size v a) (hu : ExV W W.heap.size u b) :
    Calls Tryz.prog 58 #[v, u] W fun e w' => e = .returned (.bool (decide (a = b))) ∧ Below W.heap.size W w' :=
  eqExpr_of (SizeOf.sizeOf a) (fun l m v u W _ hv hu => eqExprS_n _ l m v u W (Nat.le_refl _) hv hu) a b v u W (Nat.le_refl _) hv hu

theorem infoExpr : (Tryz.prog.info? 24).map (fun i => (i.zero, i.size, i.bytes)) = some (some (.agg #[.int .i64 0, .int .i64 0, .string ⟨#[]⟩, .slice none 0 0]), 4, 56) := by kernel_rfl
theorem toExprS_n : ∀ (k : Nat) (l : List Ex) (v : Value) (W : World), SizeOf.sizeOf l ≤ k → wtL l ≤ 1048576 → ExS W W.heap.size v l →
    Calls Tryz.prog 141 #[v] W fun e w' => ∃ u bl, e = .returned u ∧ ExO 24 w' u l bl ∧ Own W.heap.size w'.heap.size bl ∧ Below W.heap.size W w' := by
  intro k
  induction k using Nat.strongRecOn with
  | _ k ih =>
    intro l v W hk hwt hv
    have one : ∀ (e : Ex) (v : Value) (W : World), SizeOf.sizeOf e < k → e.wt ≤ 1048576 → ExV W W.heap.size v e →
        Calls Tryz.prog 92 #[v] W fun r w' => ∃ kv bl, r = .returned (.agg #[.int .i64 e.kind, .int .i64 e.n, .string (bs e.s), kv]) ∧ ExO 24 w' kv e.kids bl ∧ Own W.heap.size w'.heap.size bl ∧ Below W.heap.size W w' := by
      intro e v W hek hwt hv
      obtain ⟨p, q, s, A, c, m, rfl, rfl, hs, hc, hm, hkv⟩ := hv.form
      have hsk := Ex.size_kids (.mk p q s m)
      simp only [Ex.kids] at hsk
      rw [Ex.wt_mk] at hwt
      have IH := Lib.hid (fun (w : World) (h : Below W.heap.size W w) => ih (SizeOf.sizeOf m) (by omega) m (.slice A m.length c) w (Nat.le_refl _) (by omega) ((hkv.keep h (Nat.le_refl _)).more h.size))
      clear ih
      go_enter Tryz.func92, Tryz.ntmps92
      go_wp2_with fail
      refine (IH.out _ (by (repeat (first | with_reducible assumption | with_reducible exact Below.refl _ _ | with_reducible refine Below.setCell ?_ (by first | omega | (simp; done) | (simp; omega)) _ | with_reducible refine Below.alloc ?_ (by first | omega | (simp; done) | (simp; omega)) _ | with_reducible refine below_drewN ?_ _ | with_reducible refine Below.drew ?_)))).mono ?_
      rintro e w1 ⟨u, bl, rfl, hO, hOwn, hb1⟩
      obtain ⟨A2, c2, rfl⟩ := hO.val
      have hz1 := hb1.size
      (try simp at hz1)
      (try simp only [World.size_alloc] at hOwn)
      have k1_0 := fun o => hb1.cell (p := ⟨W.heap.size, o, none⟩) (by first | omega | (simp; done) | (simp; omega)); have k1f_0 := fun o => hb1.frozen (p := ⟨W.heap.size, o, none⟩) (by first | omega | (simp; done) | (simp; omega)); have k1_1 := fun o => hb1.cell (p := ⟨W.heap.size + 1, o, none⟩) (by first | omega | (simp; done) | (simp; omega)); have k1f_1 := fun o => hb1.frozen (p := ⟨W.heap.size + 1, o, none⟩) (by first | omega | (simp; done) | (simp; omega)); have k1_2 := fun o => hb1.cell (p := ⟨W.heap.size + 1 + 1, o, none⟩) (by first | omega | (simp; done) | (simp; omega)); have k1f_2 := fun o => hb1.frozen (p := ⟨W.heap.size + 1 + 1, o, none⟩) (by first | omega | (simp; done) | (simp; omega))
      go_wp2_with fail
      refine bodyPost_ret (v := .agg #[.int .i64 p, .int .i64 q, .string (bs s), .slice A2 m.length c2]) (by simp [results, Tryz.results92, go_sem, *]) rfl ⟨_, bl, rfl, ?_, ?_, ?_⟩
      · refine hO.same (fun b hbm => ?_)
        have := (hOwn.1 b hbm).1
        repeat rw [Below.heap_setCell _ _ _ _ (by simp; omega)]
      · exact hOwn.widen (by first | omega | (simp; omega)) (by simp)
      · (repeat (first | with_reducible assumption | with_reducible exact Below.refl _ _ | with_reducible refine Below.setCell ?_ (by first | omega | (simp; done) | (simp; omega)) _ | with_reducible refine Below.alloc ?_ (by first | omega | (simp; done) | (simp; omega)) _ | with_reducible refine below_drewN ?_ _ | with_reducible refine Below.drew ?_ | with_reducible refine Below.trans ?_ (Below.mono hb1 (by first | omega | (simp; done) | (simp; omega)))))
    have ONE := Lib.hid one
    clear one ih
    obtain ⟨A, c, rfl, hc, hm⟩ := hv.val
    obtain ⟨i0, hi, hz0, hz1, hz2⟩ := info_parts infoExpr
    have hlw : l.length ≤ 1048576 := by unfold wtL at hwt; omega
    have hmk := fun W => run_make_rowN (P := Tryz.prog) 22 24 i0 _ Tryz.underlying22 hi hz0 .i64 .i64 l.length l.length (Nat.le_refl _) (by rw [hz2]; omega) (by omega) W
    rw [hz1] at hmk
    clear hi hz0 hz1 hz2
    go_enter Tryz.func141, Tryz.ntmps141
    go_wp2_with fail
    go_loopg [4] l.length (fun k' p wr => ∃ (i : Nat) (cur : Array Value) (fl : List FE) (bls : List (List Nat)), k' = l.length - i ∧ i ≤ l.length ∧ p = .int .i64 i ∧ Blk wr W.heap.size 24 cur ∧ cur.size = l.length * 4 ∧ TreesTo 24 wr cur l i fl bls ∧ Own (W.heap.size + 1) wr.heap.size bls.flatten ∧ Below W.heap.size W wr)
    case atStart => exact ⟨0, _, [], [], by omega, by omega, rfl, Blk.new _ _ _, by simp [size_madeCells], TreesTo.zero _ _ _ _, Own.nil _ _, by (repeat (first | with_reducible assumption | with_reducible exact Below.refl _ _ | with_reducible refine Below.setCell ?_ (by first | omega | (simp; done) | (simp; omega)) _ | with_reducible refine Below.alloc ?_ (by first | omega | (simp; done) | (simp; omega)) _ | with_reducible refine below_drewN ?_ _ | with_reducible refine Below.drew ?_))⟩
    case round =>
      obtain ⟨i, cur, fl, bls, hk2, hin, rfl, hB, hsz, hT, hOw, hbl⟩ := hrel
      have HK := Lib.hid (And.intro hk2 (And.intro hsz (And.intro hT hOw)))
      clear hk2 hsz hT hOw
      have hbz := hB.lt
      by_cases hlt : i < l.length
      · obtain ⟨b, o, p, q, s, A1, c1, m1, rfl, hb, hg, hs1, hm1, hc1, hk1, f0, f1, f2, f3⟩ := ex_at hv hlt
        have hsz := Ex.size_mem hg
        have hwm := wt_mem hg
        have g0 := f0 ⟨wr, hbl⟩; have g1 := f1 ⟨wr, hbl⟩; have g2 := f2 ⟨wr, hbl⟩; have g3 := f3 ⟨wr, hbl⟩
        have HG := Lib.hid hg
        clear f0 f1 f2 f3 hg
        rw [bs_size] at hs1
        go_wp2_with fail
        refine (ONE.out (.mk p q s m1) _ wr (by omega) (by omega) ⟨_, rfl, hs1, (hk1.keep hbl (Nat.le_refl _)).more hbl.size⟩).mono ?_
        rintro e w1 ⟨kv, b1, rfl, hO1, hOw1, hb1⟩
        obtain ⟨A2, c2, rfl⟩ := hO1.val
        simp only [Ex.kind, Ex.n, Ex.s, Ex.kids] at hO1 ⊢
        have hB1 := hB.below hb1 hB.lt
        have hfz := hB1.frozen
        have hsz1 := hbl.size
        have hsz2 := hb1.size
        obtain ⟨y0, hy0⟩ : ∃ y, w1.cell? ⟨W.heap.size, i * 4, none⟩ = some y := ⟨_, (hB1.cell _).trans (Array.getElem?_eq_getElem (by have := HK.out.2.1; omega))⟩
        obtain ⟨y1, hy1⟩ : ∃ y, w1.cell? ⟨W.heap.size, i * 4 + 1, none⟩ = some y := ⟨_, (hB1.cell _).trans (Array.getElem?_eq_getElem (by have := HK.out.2.1; omega))⟩
        obtain ⟨y2, hy2⟩ : ∃ y, w1.cell? ⟨W.heap.size, i * 4 + 2, none⟩ = some y := ⟨_, (hB1.cell _).trans (Array.getElem?_eq_getElem (by have := HK.out.2.1; omega))⟩
        obtain ⟨y3, hy3⟩ : ∃ y, w1.cell? ⟨W.heap.size, i * 4 + 3, none⟩ = some y := ⟨_, (hB1.cell _).trans (Array.getElem?_eq_getElem (by have := HK.out.2.1; omega))⟩
        go_wp2_with fail
        go_roundg (l.length - (i + 1))
        case measure => have := HK.out.1; omega
        case rel =>
          obtain ⟨_, hcs, hT, hOw⟩ := HK.out
          have hne : ∀ (x : Nat), W.heap.size + 1 ≤ x → ∀ (w : World) (a b c d : Value), ((((w.setCell ⟨W.heap.size, i * 4, none⟩ a).setCell ⟨W.heap.size, i * 4 + 1, none⟩ b).setCell ⟨W.heap.size, i * 4 + 2, none⟩ c).setCell ⟨W.heap.size, i * 4 + 3, none⟩ d).heap[x]? = w.heap[x]? := fun x hx w a b c d => by
            repeat rw [Below.heap_setCell _ _ _ _ (by simp; omega)]
          refine ⟨i + 1, putRow cur (i * 4) (feRow ⟨p, q, s, .slice A2 m1.length c2⟩), fl ++ [⟨p, q, s, .slice A2 m1.length c2⟩], bls ++ [b1], rfl, by omega, by go_num, (((hB1.set_ _ _).set_ _ _).set_ _ _).set_ _ _, by rw [putRow_size]; exact hcs, ?_, ?_, by (repeat (first | with_reducible assumption | with_reducible exact Below.refl _ _ | with_reducible refine Below.setCell ?_ (by first | omega | (simp; done) | (simp; omega)) _ | with_reducible refine Below.alloc ?_ (by first | omega | (simp; done) | (simp; omega)) _ | with_reducible refine below_drewN ?_ _ | with_reducible refine Below.drew ?_ | with_reducible refine Below.trans ?_ (Below.mono hb1 (by first | omega | (simp; done) | (simp; omega))) | with_reducible refine Below.trans ?_ (Below.mono hbl (by first | omega | (simp; done) | (simp; omega)))))⟩
          · refine hT.step HG.out (by omega) ⟨rfl, rfl, rfl, hs1⟩ (hO1.same (fun x hx => ?_)) (fun x hx => ?_)
            · exact hne x (by have := (hOw1.1 x hx).1; omega) _ _ _ _ _
            · rw [hne x (hOw.1 x hx).1]
              exact hb1.block x (hOw.1 x hx).2
          · rw [List.flatten_append]
            simp only [List.flatten_cons, List.flatten_nil, List.append_nil]
            exact (hOw.append hOw1 (Nat.le_refl _) (by omega) hsz2).widen (Nat.le_refl _) (by simp)
      · obtain rfl : i = l.length := by omega
        go_wp2_with fail
        go_ret
        obtain ⟨_, hcs, hT, hOw⟩ := HK.out
        obtain ⟨bl, hO, hbl2⟩ := hT.all hB (Nat.le_refl _) (by unfold maxLen; omega)
        refine ⟨_, bl, rfl, hO, ?_, hbl⟩
        rcases hbl2 with rfl | rfl
        · exact Own.nil _ _
        · exact hOw.cons (Nat.le_refl _) (by omega) hbz
theorem toExprS_any (l : List Ex) (v : Value) (W : World) (hw : wtL l ≤ 1048576) (hv : ExS W W.heap.size v l) :
    Calls Tryz.prog 141 #[v] W fun e w' => ∃ u bl, e = .returned u ∧ ExO 24 w' u l bl ∧ Own W.heap.size w'.heap.size bl ∧ Below W.heap.size W w' := toExprS_n _ l v W (Nat.le_refl _) hw hv
end Go.Proofs.YtgakjhaepdigpaaGreatDoor
