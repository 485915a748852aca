/- What came from a place: the program's and the reference's MapBack, as one plain function. -/
import Derived.Test.YtchonnfjjceicaaLook
import Derived.Test.YtchonnfjjceicaaMark
namespace Go.Proofs.Ytchonnfjjceicaa
open Go.RowKit

def backL (l : List Sg) (p : Ps) : List Ps := (l.filter (fun s => decide (s.2 = p))).map (·.1)
noncomputable def mapBackL (l : List Sg) (p : Ps) : List Ps := if segsOkB l = true then backL l p else []
theorem backL_take {l : List Sg} {p : Ps} {i : Nat} {s : Sg} (h : l[i]? = some s) : backL (l.take (i + 1)) p = backL (l.take i) p ++ (if s.2 = p then [s.1] else []) := by
  have hi : i < l.length := (List.getElem?_eq_some_iff.1 h).1
  have hs : l[i] = s := by rw [List.getElem?_eq_getElem hi] at h; exact Option.some.inj h
  rw [List.take_succ_eq_append_getElem hi, hs]
  unfold backL
  rw [List.filter_append, List.map_append]
  congr 1
  by_cases e : s.2 = p <;> simp [e]
theorem backL_len (l : List Sg) (p : Ps) (i : Nat) : (backL (l.take i) p).length ≤ i := by
  unfold backL
  rw [List.length_map]
  exact Nat.le_trans (List.length_filter_le _ _) (List.length_take_le _ _)

theorem eq_ps (p q p' q' : Int) (w : World) : (binOp .eql 32 (.agg #[.int .i64 p, .int .i64 q]) (.agg #[.int .i64 p', .int .i64 q'])).run Try.prog w =
    .ok (.bool (decide ((p, q) = (p', q')))) w := by
  by_cases h1 : p = p' <;> by_cases h2 : q = q' <;> simp [go_sem, h1, h2]

theorem backL_step {l : List Sg} {p : Ps} {i : Nat} {s : Sg} (h : l[i]? = some s) (e : s.2 = p) : backL (l.take (i + 1)) p = backL (l.take i) p ++ [s.1] := by rw [backL_take h, if_pos e]
theorem backL_skip {l : List Sg} {p : Ps} {i : Nat} {s : Sg} (h : l[i]? = some s) (e : ¬ s.2 = p) : backL (l.take (i + 1)) p = backL (l.take i) p := by rw [backL_take h, if_neg e, List.append_nil]

/-- what has been gathered: the call's own row behind W0 -/
def Got {α : Type} (row : α → List Value) (k : Nat) (t : TypeId) (W0 w : World) (u : Value) (m : List α) : Prop :=
  w.ownsRow W0.heap.size t k u m.length (m.flatMap row) ∧ Below W0.heap.size W0 w
theorem Got.fr {α : Type} {row : α → List Value} {k : Nat} {t : TypeId} {W0 w : World} {u : Value} {m : List α} (h : Got row k t W0 w u m) (hk : ∀ s, (row s).length = k) : Fr row k t w W0.heap.size u m := Fr.of_owns hk h.1
theorem Got.ext {α : Type} {row : α → List Value} {k : Nat} {t : TypeId} {W0 w w' : World} {u : Value} {m : List α} (h : Got row k t W0 w u m) (hb : Below w.heap.size w w') : Got row k t W0 w' u m :=
  ⟨own_ext h.1 hb, h.2.ext hb⟩
theorem Got.put {α : Type} {row : α → List Value} {k : Nat} {t : TypeId} {W0 w w1 w' : World} {u u' : Value} {m : List α} {s : α} (h : Got row k t W0 w u m) (h1 : Below w.heap.size w w1) (ho : w'.ownsRow W0.heap.size t k u' (m.length + 1) (m.flatMap row ++ row s)) (hg : w1.grownBy w' u.ownBlock) : Got row k t W0 w' u' (m ++ [s]) :=
  ⟨by simpa using ho, below_grown (h.2.ext h1) hg (Nat.le_trans h.2.size h1.size) (fun k hk => (h.1.lt k hk).1)⟩

theorem spMapBack_any (v : Value) (l : List Sg) (p1 p2 : Int) (w : World) (hv : SlS w w.heap.size v l) :
    Calls Try.prog 19 #[v, .agg #[.int .i64 p1, .int .i64 p2]] w fun e W' => ∃ u, e = .returned u ∧ Fr psRow 2 32 W' w.heap.size u (mapBackL l (p1, p2)) ∧ Below w.heap.size w W' := by
  obtain ⟨A, c, rfl, hc, hm⟩ := hv.val
  obtain ⟨i0, hi, hz0, hz1, hz2⟩ := info_parts infoPos
  have hB1 : Below w.heap.size w (w.alloc (.cells #[.int .i64 p1, .int .i64 p2] 32)) := by (repeat (first | with_reducible assumption | with_reducible exact Below.refl _ _ | with_reducible refine Below.setCell ?_ (by first | omega | (simp; done) | (simp; omega)) _ | with_reducible refine Below.alloc ?_ (by first | omega | (simp; done) | (simp; omega)) _ | with_reducible refine below_drewN ?_ _ | with_reducible refine Below.drew ?_))
  go_enter Try.func19, Try.ntmps19
  go_wp2_with fail
  obtain ⟨W0, hW0⟩ : ∃ W0, W0 = w.alloc (.cells #[.int .i64 p1, .int .i64 p2] 32) := ⟨_, rfl⟩
  have hz : W0.heap.size = w.heap.size + 1 := by rw [hW0]; simp
  have k0 : W0.cell? ⟨w.heap.size, 0, none⟩ = some (.int .i64 p1) := by rw [hW0]; simp
  have k1 : W0.cell? ⟨w.heap.size, 1, none⟩ = some (.int .i64 p2) := by rw [hW0]; simp
  rw [← hW0] at hB1 ⊢
  rw [← hz]
  clear hz
  have hB0 : Below w.heap.size w W0 := hB1
  clear hW0
  by_cases hok : SegsOk l
  · go_loopg [5, 6] l.length (fun n u b wr => ∃ i : Nat, n = l.length - i ∧ i ≤ l.length ∧ b = .int .i64 i ∧ Got psRow 2 32 W0 wr u (backL (l.take i) (p1, p2)))
    case atStart => exact ⟨0, by omega, by omega, rfl, World.ownsRow_made W0 #[] 0 (Nat.le_refl _) (by decide) (by simp), by (repeat (first | with_reducible assumption | with_reducible exact Below.refl _ _ | with_reducible refine Below.setCell ?_ (by first | omega | (simp; done) | (simp; omega)) _ | with_reducible refine Below.alloc ?_ (by first | omega | (simp; done) | (simp; omega)) _ | with_reducible refine below_drewN ?_ _ | with_reducible refine Below.drew ?_))⟩
    case round =>
      obtain ⟨i, hk, hin, rfl, hg⟩ := hrel
      have hb := hg.2
      have HK := Lib.hid hk
      clear hk
      have hv1 := spSegsOk_any wr _ l (((hv.ext hB0).below hb (Nat.le_refl _)).more hb.size)
      rw [segsOkB_yes hok] at hv1
      have C1 := Lib.hid hv1
      clear hv1
      by_cases hlt : i < l.length
      · obtain ⟨b, o, p, q, r, t, rfl, hbb, hgt, f0, f1, f2, f3⟩ := sg_at hv hlt
        have HG := Lib.hid hgt
        clear hgt
        go_wp2_with fail
        refine C1.out.mono ?_
        rintro e w1 ⟨rfl, hb1⟩
        replace hg := hg.ext hb1
        replace hb := hg.2
        have hBw := hB0.ext hb
        have g0 := Later.up f0 hBw hBw.size
        have g1 := Later.up f1 hBw hBw.size
        have g2 := Later.up f2 hBw hBw.size
        have g3 := Later.up f3 hBw hBw.size
        have m0 := Later.of (hb.keepc k0)
        have m1 := Later.of (hb.keepc k1)
        clear f0 f1 f2 f3
        have hq := eq_ps r t p1 p2
        by_cases hst : (r, t) = (p1, p2)
        all_goals
          rw [show decide ((r, t) = (p1, p2)) = _ by first | exact decide_eq_true hst | exact decide_eq_false hst] at hq
          have HST := Lib.hid hst
          clear hst
          go_wp2_with fail
          refine wp_region_later (Below.refl w1.heap.size w1) (by kernel_rfl) (by kernel_rfl) ?_
          repeat (go_big_quiet_step (fail))
          refine wpQuiet_nil ?_
          rintro _ ⟨y, rfl⟩
          have hg1 := hg.ext y.ok
          have n0 := g0 y; have n1 := g1 y
          have hl0 := backL_len l (p1, p2) i
          have hl1 : (backL (l.take i) (p1, p2)).length + 1 ≤ maxLen := by have := hok.2; unfold maxLen; omega
          have hl2 : ((backL (l.take i) (p1, p2)).length + 1) * 16 ≤ 140737488355328 := by have := hok.2; omega
          have hl3 : W0.heap.size ≤ (y.w'.alloc (.cells #[.int .i64 p, .int .i64 q] 32)).heap.size := by have := hg1.2.size; simp; omega
          have h1c : ∀ u ∈ ([.int .i64 p, .int .i64 q] : List Value), u.oneCell' = true := by intro u hu; simp at hu; rcases hu with rfl | rfl <;> rfl
          clear hl0
          go_wp2_with (at_builtin; refine wpList_append_own _ rfl _ _ 38 rfl W0.heap.size 32 i0 _ 2 16 Try.underlying38 hi hz0 hz1 hz2 rfl (by decide) _ (backL (l.take i) (p1, p2)).length _ rfl (hg1.1.alloc _) ⟨y.w'.heap.size, 0, none⟩ 1 1 [.int .i64 p, .int .i64 q] rfl rfl (World.news_of_block (heap_alloc_new _ _)) h1c hl1 hl2 hl3 ?_; intro u' w2 ho hgr _)
        · have hg2 := hg1.put (s := (p, q)) (Below.alloc (Below.refl _ _) (Nat.le_refl _) _) ho hgr
          go_roundg (l.length - (i + 1))
          case measure => have := HK.out; omega
          case rel => exact ⟨i + 1, rfl, by omega, by go_num, by rw [backL_step HG.out HST.out]; exact hg2⟩
        · go_roundg (l.length - (i + 1))
          case measure => have := HK.out; omega
          case rel => exact ⟨i + 1, rfl, by omega, by go_num, by rw [backL_skip HG.out HST.out]; exact hg1⟩
      · obtain rfl : i = l.length := by omega
        go_wp2_with fail
        go_ret
        rw [List.take_length] at hg
        refine ⟨_, rfl, ?_, hB0.ext hg.2⟩
        unfold mapBackL
        rw [if_pos (segsOkB_yes hok)]
        exact (hg.fr (fun _ => rfl)).less hB0.size
  · go_loopg [5, 6] 0 (fun n u b wr => n = 0 ∧ b = .int .i64 0 ∧ Got psRow 2 32 W0 wr u [])
    case atStart => exact ⟨rfl, rfl, World.ownsRow_made W0 #[] 0 (Nat.le_refl _) (by decide) (by simp), by (repeat (first | with_reducible assumption | with_reducible exact Below.refl _ _ | with_reducible refine Below.setCell ?_ (by first | omega | (simp; done) | (simp; omega)) _ | with_reducible refine Below.alloc ?_ (by first | omega | (simp; done) | (simp; omega)) _ | with_reducible refine below_drewN ?_ _ | with_reducible refine Below.drew ?_))⟩
    case round =>
      obtain ⟨rfl, rfl, hg⟩ := hrel
      have hb := hg.2
      have hv1 := spSegsOk_any wr _ l (((hv.ext hB0).below hb (Nat.le_refl _)).more hb.size)
      rw [segsOkB_no hok] at hv1
      have C1 := Lib.hid hv1
      clear hv1
      have hf : mapBackL l (p1, p2) = [] := by unfold mapBackL; rw [if_neg]; rw [segsOkB_no hok]; decide
      rw [← hf] at hg
      by_cases hlt : 0 < l.length
      · go_wp2_with fail
        refine C1.out.mono ?_
        rintro e w1 ⟨rfl, hb1⟩
        replace hg := hg.ext hb1
        go_wp2_with fail
        go_ret
        exact ⟨_, rfl, (hg.fr (fun _ => rfl)).less hB0.size, hB0.ext hg.2⟩
      · go_wp2_with fail
        go_ret
        exact ⟨_, rfl, (hg.fr (fun _ => rfl)).less hB0.size, hB0.ext hg.2⟩

theorem clipPos_any (v : Value) (l : List Ps) (lo : Nat) (w : World) (hv : Fr psRow 2 32 w lo v l) :
    Calls Try.prog 37 #[v] w fun e w' => ∃ u, e = .returned u ∧ Fr psRow 2 32 w' lo u l ∧ w = w' := by
  rcases hv.form with ⟨rfl, rfl⟩ | ⟨g, cap, cur, rfl, hlo, hc, hm, hB, hx⟩
  · go_enter Try.func37, Try.ntmps37
    go_wp2
    go_ret
    exact ⟨_, rfl, .inl ⟨rfl, rfl⟩, rfl⟩
  · go_enter Try.func37, Try.ntmps37
    go_wp2
    go_ret
    exact ⟨_, rfl, hv.clip, rfl⟩

theorem imMapBack_any (v : Value) (l : List Sg) (p1 p2 : Int) (w : World) (hv : SlS w w.heap.size v l) :
    Calls Try.prog 20 #[v, .agg #[.int .i64 p1, .int .i64 p2]] w fun e W' => ∃ u, e = .returned u ∧ Fr psRow 2 32 W' w.heap.size u (mapBackL l (p1, p2)) ∧ Below w.heap.size w W' := by
  obtain ⟨A, c, rfl, hc, hm⟩ := hv.val
  obtain ⟨i0, hi, hz0, hz1, hz2⟩ := info_parts infoPos
  have hB1 : Below w.heap.size w (w.alloc (.cells #[.int .i64 p1, .int .i64 p2] 32)) := by (repeat (first | with_reducible assumption | with_reducible exact Below.refl _ _ | with_reducible refine Below.setCell ?_ (by first | omega | (simp; done) | (simp; omega)) _ | with_reducible refine Below.alloc ?_ (by first | omega | (simp; done) | (simp; omega)) _ | with_reducible refine below_drewN ?_ _ | with_reducible refine Below.drew ?_))
  go_enter Try.func20, Try.ntmps20
  go_wp2_with fail
  obtain ⟨Wa, hWa⟩ : ∃ Wa, Wa = w.alloc (.cells #[.int .i64 p1, .int .i64 p2] 32) := ⟨_, rfl⟩
  have k0 : Wa.cell? ⟨w.heap.size, 0, none⟩ = some (.int .i64 p1) := by rw [hWa]; simp
  have k1 : Wa.cell? ⟨w.heap.size, 1, none⟩ = some (.int .i64 p2) := by rw [hWa]; simp
  rw [← hWa] at hB1 ⊢
  clear hWa
  refine (imSegsOk_any _ _ l (hv.ext hB1)).mono ?_
  rintro e W0 ⟨rfl, hE⟩
  have hB0 := hB1.ext hE
  replace k0 := hE.keepc k0
  replace k1 := hE.keepc k1
  clear hB1 hE
  by_cases hok : SegsOk l
  · rw [segsOkB_yes hok]
    go_wp2_with fail
    go_loopg [5, 13] l.length (fun n u b wr => ∃ i : Nat, n = l.length - i ∧ i ≤ l.length ∧ b = .int .i64 i ∧ Got psRow 2 32 W0 wr u (backL (l.take i) (p1, p2)))
    case atStart => exact ⟨0, by omega, by omega, rfl, World.ownsRow_nil _ _ _ _, Below.refl _ _⟩
    case round =>
      obtain ⟨i, hk, hin, rfl, hg⟩ := hrel
      have hb := hg.2
      have HK := Lib.hid hk
      clear hk
      by_cases hlt : i < l.length
      · obtain ⟨b, o, p, q, r, t, rfl, hbb, hgt, f0, f1, f2, f3⟩ := sg_at hv hlt
        have HG := Lib.hid hgt
        clear hgt
        have hBw := hB0.ext hb
        have g0 := f0 ⟨wr, hBw⟩
        have g1 := f1 ⟨wr, hBw⟩
        have g2 := f2 ⟨wr, hBw⟩
        have g3 := f3 ⟨wr, hBw⟩
        have m0 := hb.keepc k0
        have m1 := hb.keepc k1
        clear f0 f1 f2 f3
        have hbl := World.block_lt_of_cell? _ _ m0
        have hq := eq_ps r t p1 p2
        have hbz := hBw.size
        have hne : w.heap.size ≠ wr.heap.size := by simp at hbl; omega
        have hl0 := backL_len l (p1, p2) i
        have hl1 : (backL (l.take i) (p1, p2)).length + 1 ≤ maxLen := by have := hok.2; unfold maxLen; omega
        have hl2 : ((backL (l.take i) (p1, p2)).length + 1) * 16 ≤ 140737488355328 := by have := hok.2; omega
        have h1c : ∀ u ∈ ([.int .i64 p, .int .i64 q] : List Value), u.oneCell' = true := by intro u hu; simp at hu; rcases hu with rfl | rfl <;> rfl
        clear hl0
        by_cases hst : (r, t) = (p1, p2)
        all_goals
          rw [show decide ((r, t) = (p1, p2)) = _ by first | exact decide_eq_true hst | exact decide_eq_false hst] at hq
          have HST := Lib.hid hst
          clear hst
        · have hB2 : Below wr.heap.size wr ((wr.alloc (.cells #[.int .i64 p, .int .i64 q, .int .i64 r, .int .i64 t] 45)).alloc (.cells #[.int .i64 p, .int .i64 q] 32)) := by (repeat (first | with_reducible assumption | with_reducible exact Below.refl _ _ | with_reducible refine Below.setCell ?_ (by first | omega | (simp; done) | (simp; omega)) _ | with_reducible refine Below.alloc ?_ (by first | omega | (simp; done) | (simp; omega)) _ | with_reducible refine below_drewN ?_ _ | with_reducible refine Below.drew ?_))
          have ho1 := own_ext hg.1 hB2
          have hl3 : W0.heap.size ≤ ((wr.alloc (.cells #[.int .i64 p, .int .i64 q, .int .i64 r, .int .i64 t] 45)).alloc (.cells #[.int .i64 p, .int .i64 q] 32)).heap.size := Nat.le_trans hb.size hB2.size
          have hn := World.news_of_block (heap_alloc_new (wr.alloc (.cells #[.int .i64 p, .int .i64 q, .int .i64 r, .int .i64 t] 45)) (.cells #[.int .i64 p, .int .i64 q] 32))
          rw [show (wr.alloc (.cells #[.int .i64 p, .int .i64 q, .int .i64 r, .int .i64 t] 45)).heap.size = wr.heap.size + 1 from by simp] at hn
          go_wp2_with (at_builtin; refine wpList_append_own _ rfl _ _ 38 rfl W0.heap.size 32 i0 _ 2 16 Try.underlying38 hi hz0 hz1 hz2 rfl (by decide) _ (backL (l.take i) (p1, p2)).length _ rfl ho1 ⟨wr.heap.size + 1, 0, none⟩ 1 1 [.int .i64 p, .int .i64 q] rfl rfl hn h1c hl1 hl2 hl3 ?_; intro u' w2 ho hgr _)
          have hg2 := hg.put (s := (p, q)) hB2 ho hgr
          go_roundg (l.length - (i + 1))
          case measure => have := HK.out; omega
          case rel => exact ⟨i + 1, rfl, by omega, by go_num, by rw [backL_step HG.out HST.out]; exact hg2⟩
        · go_wp2_with fail
          go_roundg (l.length - (i + 1))
          case measure => have := HK.out; omega
          case rel => exact ⟨i + 1, rfl, by omega, by go_num, by rw [backL_skip HG.out HST.out]; exact hg.ext (by (repeat (first | with_reducible assumption | with_reducible exact Below.refl _ _ | with_reducible refine Below.setCell ?_ (by first | omega | (simp; done) | (simp; omega)) _ | with_reducible refine Below.alloc ?_ (by first | omega | (simp; done) | (simp; omega)) _ | with_reducible refine below_drewN ?_ _ | with_reducible refine Below.drew ?_)))⟩
      · obtain rfl : i = l.length := by omega
        go_wp2_with fail
        rw [List.take_length] at hg
        refine (clipPos_any _ _ _ _ (hg.fr (fun _ => rfl))).mono ?_
        rintro e w2 ⟨u, rfl, hu, rfl⟩
        go_wp2_with fail
        go_ret
        refine ⟨_, rfl, ?_, hB0.ext hg.2⟩
        unfold mapBackL
        rw [if_pos (segsOkB_yes hok)]
        exact hu.less hB0.size
  · rw [segsOkB_no hok]
    have hf : mapBackL l (p1, p2) = [] := by unfold mapBackL; rw [if_neg]; rw [segsOkB_no hok]; decide
    go_wp2_with fail
    go_ret
    exact ⟨_, rfl, .inl ⟨rfl, hf⟩, hB0⟩
end Go.Proofs.Ytchonnfjjceicaa
