
/- The words of statements: the program's. -/
import Derived.Test.YtgfdakgibjplkaaGreatDoorImW2
namespace Go.Proofs.YtgfdakgibjplkaaGreatDoor
set_option maxRecDepth 100000
open Go.RowKit
attribute [local go_sem] bs_toList bs_get bs_size

theorem tgt_b (op : Op2) : tgt op.b = op.lv := by cases op <;> decide
theorem imW_any : ∀ (e : E) (must : Nat) (v : Value) (w : World) (p k B : Nat), e.ok → e.cnt ≤ 100 → k + e.cnt ≤ 900 → must ≤ 4 → ExV w B v e.ex → B ≤ p → Blk w p 3 #[.int .i64 (k : Int)] → EnvB B w →
    Calls Tryz.prog 103 #[v, .int .i64 (must : Int), .pointer (some ⟨p, 0, none⟩)] w (WPost e must p k w) := by
  intro e
  induction e with
  | num n => intro must v w p k B hok _ hk _ hv hB hb hE; exact imW_num n must v w p k B hok hv hB hb (by omega) hE
  | nam s => intro must v w p k B hok _ hk _ hv hB hb hE; exact imW_nam s must v w p k B hv hB hb (by omega)
  | cast ty a iha =>
    intro must v w p k B hok hc hk _ hv hB hb hE
    simp only [E.cnt] at hc hk
    exact imW_cast ty a must v w p k B (by omega) hv hB hb (by omega) hE (fun v w' h1 h2 h3 => iha 4 v w' p k B hok (by omega) (by omega) (by omega) h1 hB h2 h3)
  | two op a b iha ihb =>
    intro must v w p k B hok hc hk hm hv hB hb hE
    simp only [E.cnt] at hc hk
    obtain ⟨kv, rfl, hs, hx⟩ := hv
    obtain ⟨A, c, rfl, hc1, hm1⟩ := hx.val
    have hl1 : 1 ≤ op.lv := by cases op <;> decide
    have hl3 : op.lv ≤ 3 := by cases op <;> decide
    have h1 := E.words_len a (max op.lv 2)
    have h2 := E.words_len b (op.lv + 1)
    have hmx : ((max op.lv 2 : Nat) : Int) = max 2 (op.lv : Int) := by omega
    have hp := hb.lt
    exact imW_two op.lv op.b (tgt_b op) hl1 hl3 a.ex b.ex (a.words (max op.lv 2)) (b.words (op.lv + 1)) a.cnt b.cnt must _ rfl A c w p k B hc1 hm1 hx hB hb (by omega) hm (E.words_pos _ _) (by omega) (E.words_pos _ _) (by omega)
      (fun v w' n hg hn hv hb' => by rw [← hmx]; exact iha _ v w' p n B hok.1 (by omega) (by omega) (by omega) hv hB hb' (hE.keep (below_of_grown hg hB hp)))
      (fun v w' n hg hn hv hb' => ihb (op.lv + 1) v w' p n B hok.2 (by omega) (by omega) (by omega) hv hB hb' (hE.keep (below_of_grown hg hB hp)))
theorem bareWords_any (m : List Src) (v : Value) (W : World) (hv : SlC W W.heap.size v m) (hl : m.length ≤ 1000) :
    Calls Tryz.prog 78 #[v] W fun r w' => ∃ u, r = .returned u ∧ SlB w' w'.heap.size u (m.map (·.1)) ∧ Below W.heap.size W w' := by
  obtain ⟨A, c, rfl, hc, hm⟩ := hv.val
  obtain ⟨i0, hi, hz0, hz1, hz2⟩ := info_parts infoStr
  have hmk := fun W => run_make_rowN (P := Tryz.prog) 48 9 i0 _ Tryz.underlying48 hi hz0 .i64 .i64 m.length m.length (Nat.le_refl _) (by rw [hz2]; omega) (by omega) W
  rw [hz1] at hmk
  clear hi hz0 hz1 hz2
  go_enter Tryz.func78, Tryz.ntmps78
  go_wp2_with fail
  go_loopg [11] m.length (fun k p wr => ∃ (j : Nat) (cur : Array Value), k = m.length - j ∧ j ≤ m.length ∧ p = .int .i64 j ∧ Blk wr W.heap.size 9 cur ∧ cur.size = m.length ∧ (∀ t x, t < j → m[t]? = some x → cur[t]? = some (.string (bs x.1))) ∧ Below W.heap.size W wr)
  case atStart => exact ⟨0, _, by omega, by omega, rfl, Blk.new _ _ _, by simp [size_madeCells], fun t x h => by omega, by (repeat (first | with_reducible assumption | with_reducible exact Below.refl _ _ | with_reducible refine Below.setCell ?_ (by first | omega | (simp; done) | (simp; omega)) _ | with_reducible refine Below.alloc ?_ (by first | omega | (simp; done) | (simp; omega)) _ | with_reducible refine below_drewN ?_ _ | with_reducible refine Below.drew ?_))⟩
  case round =>
    obtain ⟨j, cur, hk, hj, rfl, hB, hsz, ha, hbl⟩ := hrel
    have HK := Lib.hid (And.intro hk (And.intro hsz ha))
    clear hk hsz ha
    have hbz := hB.lt
    by_cases hlt : j < m.length
    · obtain ⟨b, o, s, q, rfl, hb, hg, f0, f1⟩ := src_at hv hlt
      have g0 := f0 ⟨wr, hbl⟩; have g1 := f1 ⟨wr, hbl⟩
      have HG := Lib.hid hg
      clear f0 f1 hg
      have hB2 := hB.alloc (.cells #[.string (bs s), .int .i64 q] 112)
      obtain ⟨y0, hy0⟩ : ∃ y, (wr.alloc (.cells #[.string (bs s), .int .i64 q] 112)).cell? ⟨W.heap.size, j, none⟩ = some y := ⟨_, (hB2.cell _).trans (Array.getElem?_eq_getElem (by have := HK.out.2.1; omega))⟩
      have hfz := hB2.frozen j
      have hne : W.heap.size ≠ wr.heap.size := by omega
      go_wp2_with fail
      go_roundg (m.length - (j + 1))
      case measure => have := HK.out.1; omega
      case rel =>
        refine ⟨j + 1, cur.setIfInBounds j (.string (bs s)), rfl, by omega, by go_num, (hB.set_ j _).alloc _, by simp [HK.out.2.1], fun t x ht hx => ?_, by (repeat (first | with_reducible assumption | with_reducible exact Below.refl _ _ | with_reducible refine Below.setCell ?_ (by first | omega | (simp; done) | (simp; omega)) _ | with_reducible refine Below.alloc ?_ (by first | omega | (simp; done) | (simp; omega)) _ | with_reducible refine below_drewN ?_ _ | with_reducible refine Below.drew ?_ | with_reducible refine Below.trans ?_ (Below.mono hbl (by first | omega | (simp; done) | (simp; omega)))))⟩
        by_cases e : t = j
        · subst e
          rw [HG.out] at hx
          obtain rfl := Option.some.inj hx
          rw [Array.getElem?_setIfInBounds_self_of_lt (by have := HK.out.2.1; omega)]
        · rw [Array.getElem?_setIfInBounds_ne (fun h => e h.symm)]
          exact HK.out.2.2 t x (by omega) hx
    · obtain rfl : j = m.length := by omega
      go_wp2_with fail
      go_ret
      refine ⟨_, rfl, ⟨some ⟨W.heap.size, 0, none⟩, m.length, by rw [List.length_map]; rfl, by rw [List.length_map]; exact Nat.le_refl _, by unfold maxLen; omega, fun h0 => ⟨_, 0, rfl, hbz, fun i s hs jj x hx => ?_⟩⟩, hbl⟩
      rw [List.getElem?_map, Option.map_eq_some_iff] at hs
      obtain ⟨y, hy, rfl⟩ := hs
      have hj0 : jj = 0 := by have := (List.getElem?_eq_some_iff.1 hx).1; simp [strRow] at this; omega
      subst hj0
      simp [strRow] at hx
      subst hx
      rw [Nat.zero_add, Nat.mul_one, Nat.add_zero, hB.cell]
      exact HK.out.2.2 i y (List.getElem?_eq_some_iff.1 hy).1 hy
end Go.Proofs.YtgfdakgibjplkaaGreatDoor
