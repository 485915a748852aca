
/- Rows of words: same, copied, sized, marked, held. -/
import Derived.Test.YtgoobhmbfjimoaaDoorMkT
import Derived.Test.YtgoobhmbfjimoaaDoorLasts
import Derived.Test.YtgoobhmbfjimoaaDoorImWs
import Derived.Test.YtgoobhmbfjimoaaDoorMark
import Derived.BigQuiet
namespace Go.Proofs.YtgoobhmbfjimoaaDoor
set_option maxRecDepth 100000
set_option linter.unusedSimpArgs false
set_option linter.unusedVariables false
open Go.RowKit
attribute [local go_sem] bs_toList bs_get bs_size

theorem eqStr_any (W : World) (v u : Value) (l m : List Bytes) (hv : SlB W W.heap.size v l) (hu : SlB W W.heap.size u m) : Calls Tryd.prog 33 #[v, u] W fun e w' => e = .returned (.bool (decide (l = m))) ∧ Below W.heap.size W w' := by
  obtain ⟨A, c, rfl, hc, hm⟩ := hv.val
  obtain ⟨A', c', rfl, hc', hm'⟩ := hu.val
  by_cases hnm : l.length = m.length
  rotate_left
  · have hne : (((l.length : Nat) : Int) != ((m.length : Nat) : Int)) = true := by simp; omega
    have hd : decide (l = m) = false := by simp; intro e; exact hnm (by rw [e])
    go_enter Tryd.func33, Tryd.ntmps33
    go_wp2_with fail
    go_ret
    exact ⟨ret_bool hd.symm, Below.refl _ _⟩
  have hne : (((l.length : Nat) : Int) != ((m.length : Nat) : Int)) = false := by simp [hnm]
  have HNM := Lib.hid hnm
  have HV := Lib.hid hv
  have HU := Lib.hid hu
  clear hnm hv hu
  go_enter Tryd.func33, Tryd.ntmps33
  go_wp2_with fail
  go_loopg [5] l.length (fun k p wr => ∃ i : Nat, k = l.length - i ∧ i ≤ l.length ∧ p = .int .i64 i ∧ AgreeTo i l m ∧ Below W.heap.size W wr)
  case atStart => exact ⟨0, by omega, by omega, rfl, AgreeTo.zero _ _, Below.refl _ _⟩
  case round =>
    obtain ⟨i, hk, hin, rfl, hij, hbl⟩ := hrel
    have HK := Lib.hid (And.intro hk hij)
    clear hk hij
    by_cases hlt : i < l.length
    · have hdl : decide (((i : Nat) : Int) < ((l.length : Nat) : Int)) = true := by rw [decide_eq_true_eq]; omega
      have hlm : i < m.length := by have := HNM.out; omega
      obtain ⟨q2, p2, x, rfl, hq2, hgx, fx⟩ := str_at HV.out hlt
      obtain ⟨q3, p3, y, rfl, hq3, hgy, fy⟩ := str_at HU.out hlm
      have gx := fx ⟨wr, hbl⟩
      have gy := fy ⟨wr, hbl⟩
      have HG := Lib.hid (And.intro hgx hgy)
      clear fx fy hgx hgy
      by_cases he : x = y
      · have hd : (x == y) = true := by simp [he]
        have HE := Lib.hid he
        clear he
        go_wp2_with fail
        go_quiet (fail)
        go_wp2_with fail
        go_roundg (l.length - (i + 1))
        case measure => have := HK.out.1; omega
        case rel => exact ⟨i + 1, rfl, by omega, by go_num, HK.out.2.succ HG.out.1 (by rw [HE.out]; exact HG.out.2), below_drewN hbl _⟩
      · have hd : (x == y) = false := by simp [he]
        have HE := Lib.hid he
        clear he
        go_wp2_with fail
        go_quiet (fail)
        go_wp2_with fail
        go_ret
        exact ⟨ret_bool (by have := AgreeTo.ne HG.out.1 HG.out.2 HE.out; simpa using this), below_drewN hbl _⟩
    · have hdl : decide (((i : Nat) : Int) < ((l.length : Nat) : Int)) = false := by rw [decide_eq_false_iff_not]; omega
      go_wp2_with fail
      go_ret
      exact ⟨ret_bool (by have := HK.out.2.eq (by omega) HNM.out; simp [this]), hbl⟩
theorem imEqual_any (W : World) (v u : Value) (l m : List Bytes) (hv : SlB W W.heap.size v l) (hu : SlB W W.heap.size u m) : Calls Tryd.prog 63 #[v, u] W fun e w' => e = .returned (.bool (decide (l = m))) ∧ Below W.heap.size W w' := by
  obtain ⟨A, c, rfl, hc, hm⟩ := hv.val
  obtain ⟨A', c', rfl, hc', hm'⟩ := hu.val
  by_cases hnm : l.length = m.length
  rotate_left
  · have hne : (((l.length : Nat) : Int) != ((m.length : Nat) : Int)) = true := by simp; omega
    have hd : decide (l = m) = false := by simp; intro e; exact hnm (by rw [e])
    go_enter Tryd.func63, Tryd.ntmps63
    go_wp2_with fail
    go_ret
    exact ⟨ret_bool hd.symm, Below.refl _ _⟩
  have hne : (((l.length : Nat) : Int) != ((m.length : Nat) : Int)) = false := by simp [hnm]
  have HNM := Lib.hid hnm
  have HV := Lib.hid hv
  have HU := Lib.hid hu
  clear hnm hv hu
  go_enter Tryd.func63, Tryd.ntmps63
  go_wp2_with fail
  go_loopg [13] l.length (fun k p wr => ∃ i : Nat, k = l.length - i ∧ i ≤ l.length ∧ p = .int .i64 i ∧ AgreeTo i l m ∧ Below W.heap.size W wr)
  case atStart => exact ⟨0, by omega, by omega, rfl, AgreeTo.zero _ _, Below.refl _ _⟩
  case round =>
    obtain ⟨i, hk, hin, rfl, hij, hbl⟩ := hrel
    have HK := Lib.hid (And.intro hk hij)
    clear hk hij
    by_cases hlt : i < l.length
    · have hdl : decide (((i : Nat) : Int) < ((l.length : Nat) : Int)) = true := by rw [decide_eq_true_eq]; omega
      have hlm : i < m.length := by have := HNM.out; omega
      obtain ⟨q2, p2, x, rfl, hq2, hgx, fx⟩ := str_at HV.out hlt
      obtain ⟨q3, p3, y, rfl, hq3, hgy, fy⟩ := str_at HU.out hlm
      have gx := fx ⟨wr, hbl⟩
      have gy := fy ⟨wr, hbl⟩
      have HG := Lib.hid (And.intro hgx hgy)
      clear fx fy hgx hgy
      by_cases he : x = y
      · have hd : (x == y) = true := by simp [he]
        have HE := Lib.hid he
        clear he
        go_wp2_with fail
        go_quiet (fail)
        go_wp2_with fail
        go_roundg (l.length - (i + 1))
        case measure => have := HK.out.1; omega
        case rel => exact ⟨i + 1, rfl, by omega, by go_num, HK.out.2.succ HG.out.1 (by rw [HE.out]; exact HG.out.2), below_drewN hbl _⟩
      · have hd : (x == y) = false := by simp [he]
        have HE := Lib.hid he
        clear he
        go_wp2_with fail
        go_quiet (fail)
        go_wp2_with fail
        go_ret
        exact ⟨ret_bool (by have := AgreeTo.ne HG.out.1 HG.out.2 HE.out; simpa using this), below_drewN hbl _⟩
    · have hdl : decide (((i : Nat) : Int) < ((l.length : Nat) : Int)) = false := by rw [decide_eq_false_iff_not]; omega
      go_wp2_with fail
      go_ret
      exact ⟨ret_bool (by have := HK.out.2.eq (by omega) HNM.out; simp [this]), hbl⟩
theorem spTexts_any (W : World) (v u : Value) (l m : List Bytes) (hv : SlB W W.heap.size v l) (hu : SlB W W.heap.size u m) : Calls Tryd.prog 65 #[v, u] W fun e w' => e = .returned (.bool (decide (l = m))) ∧ Below W.heap.size W w' := by
  obtain ⟨A, c, rfl, hc, hm⟩ := hv.val
  obtain ⟨A', c', rfl, hc', hm'⟩ := hu.val
  by_cases hnm : l.length = m.length
  rotate_left
  · have hne : (((l.length : Nat) : Int) != ((m.length : Nat) : Int)) = true := by simp; omega
    have hd : decide (l = m) = false := by simp; intro e; exact hnm (by rw [e])
    go_enter Tryd.func65, Tryd.ntmps65
    go_wp2_with fail
    go_ret
    exact ⟨ret_bool hd.symm, Below.refl _ _⟩
  have hne : (((l.length : Nat) : Int) != ((m.length : Nat) : Int)) = false := by simp [hnm]
  have HNM := Lib.hid hnm
  have HV := Lib.hid hv
  have HU := Lib.hid hu
  clear hnm hv hu
  go_enter Tryd.func65, Tryd.ntmps65
  go_wp2_with fail
  go_loopg [5] l.length (fun k p wr => ∃ i : Nat, k = l.length - i ∧ i ≤ l.length ∧ p = .int .i64 i ∧ AgreeTo i l m ∧ Below W.heap.size W wr)
  case atStart => exact ⟨0, by omega, by omega, rfl, AgreeTo.zero _ _, Below.refl _ _⟩
  case round =>
    obtain ⟨i, hk, hin, rfl, hij, hbl⟩ := hrel
    have HK := Lib.hid (And.intro hk hij)
    clear hk hij
    by_cases hlt : i < l.length
    · have hdl : decide (((i : Nat) : Int) < ((l.length : Nat) : Int)) = true := by rw [decide_eq_true_eq]; omega
      have hlm : i < m.length := by have := HNM.out; omega
      obtain ⟨q2, p2, x, rfl, hq2, hgx, fx⟩ := str_at HV.out hlt
      obtain ⟨q3, p3, y, rfl, hq3, hgy, fy⟩ := str_at HU.out hlm
      have gx := fx ⟨wr, hbl⟩
      have gy := fy ⟨wr, hbl⟩
      have HG := Lib.hid (And.intro hgx hgy)
      clear fx fy hgx hgy
      by_cases he : x = y
      · have hd : (x == y) = true := by simp [he]
        have HE := Lib.hid he
        clear he
        go_wp2_with fail
        go_quiet (fail)
        go_wp2_with fail
        go_roundg (l.length - (i + 1))
        case measure => have := HK.out.1; omega
        case rel => exact ⟨i + 1, rfl, by omega, by go_num, HK.out.2.succ HG.out.1 (by rw [HE.out]; exact HG.out.2), below_drewN hbl _⟩
      · have hd : (x == y) = false := by simp [he]
        have HE := Lib.hid he
        clear he
        go_wp2_with fail
        go_quiet (fail)
        go_wp2_with fail
        go_ret
        exact ⟨ret_bool (by have := AgreeTo.ne HG.out.1 HG.out.2 HE.out; simpa using this), below_drewN hbl _⟩
    · have hdl : decide (((i : Nat) : Int) < ((l.length : Nat) : Int)) = false := by rw [decide_eq_false_iff_not]; omega
      go_wp2_with fail
      go_ret
      exact ⟨ret_bool (by have := HK.out.2.eq (by omega) HNM.out; simp [this]), hbl⟩
/-- how much a row of words holds -/
def strW (l : List Bytes) : Nat := l.length + (l.map List.length).sum
def strTo (l : List Bytes) (i : Nat) : Nat := ((l.take i).map List.length).sum
theorem strTo_succ {l : List Bytes} {i : Nat} {s : Bytes} (h : l[i]? = some s) : strTo l (i + 1) = strTo l i + s.length := by
  obtain ⟨hi, rfl⟩ := List.getElem?_eq_some_iff.1 h
  unfold strTo
  rw [List.take_succ_eq_append_getElem hi, List.map_append, List.sum_append]
  simp
theorem strTo_le (l : List Bytes) (i : Nat) : strTo l i ≤ (l.map List.length).sum := by
  have h := congrArg (fun l : List Bytes => (l.map List.length).sum) (List.take_append_drop i l)
  simp only [List.map_append, List.sum_append] at h
  unfold strTo
  omega
theorem strTo_all (l : List Bytes) : strTo l l.length = (l.map List.length).sum := by unfold strTo; rw [List.take_length]
theorem strW_mem {l : List Bytes} {s : Bytes} (h : s ∈ l) : s.length ≤ strW l := by
  obtain ⟨i, hi⟩ := List.mem_iff_getElem?.1 h
  have h1 := strTo_succ hi
  have h2 := strTo_le l (i + 1)
  unfold strW
  omega
set_option maxHeartbeats 1000000 in
theorem szStr_any (W : World) (v : Value) (l : List Bytes) (hv : SlB W W.heap.size v l) (hsz : ∀ s ∈ l, s.length ≤ 9223372036854775807) : Calls Tryd.prog 31 #[v, .int .i64 1048576] W fun e w' => e = .returned (.int .i64 (szOut 1048576 (strW l))) ∧ W = w' := by
  obtain ⟨A, c, rfl, hc, hm⟩ := hv.val
  have HV := Lib.hid hv
  have HSZ := Lib.hid hsz
  clear hv hsz
  by_cases h1 : (1048576 : Int) - (l.length : Int) < 0
  · have hr : szOut 1048576 (strW l) = -1 := szOut_no (by unfold strW; omega)
    have HR := Lib.hid hr
    clear hr
    go_enter Tryd.func31, Tryd.ntmps31
    go_wp2_with fail
    go_ret
    exact ⟨ret_int HR.out.symm, rfl⟩
  · go_enter Tryd.func31, Tryd.ntmps31
    go_wp2_with fail
    go_loopg [1, 5] l.length (fun k a p wr => ∃ i : Nat, k = l.length - i ∧ i ≤ l.length ∧ a = .int .i64 (1048576 - (l.length : Int) - (strTo l i : Int)) ∧ 0 ≤ (1048576 : Int) - (l.length : Int) - (strTo l i : Int) ∧ p = .int .i64 i ∧ wr = W)
    case atStart => exact ⟨0, by omega, by omega, by simp [strTo], by simp [strTo]; omega, rfl, rfl⟩
    case round =>
      obtain ⟨i, hk, hin, rfl, h0, rfl, rfl⟩ := hrel
      have HK := Lib.hid hk
      clear hk
      by_cases hlt : i < l.length
      · have hdl : decide (((i : Nat) : Int) < ((l.length : Nat) : Int)) = true := by rw [decide_eq_true_eq]; omega
        obtain ⟨q2, p2, x, rfl, hq2, hgx, fx⟩ := str_at HV.out hlt
        have gx := fx ⟨wr, Below.refl _ _⟩
        have hxl := HSZ.out x (List.mem_of_getElem? hgx)
        have hs := strTo_succ hgx
        have HG := Lib.hid hs
        have hle := strTo_le l (i + 1)
        have HLE := Lib.hid hle
        clear fx hgx hs hle
        generalize hst : strTo l i = st at *
        have HST := Lib.hid hst
        clear hst
        by_cases h2 : (1048576 : Int) - (l.length : Int) - (st : Int) - (x.length : Int) < 0
        · have hr : szOut 1048576 (strW l) = -1 := szOut_no (by have := HG.out; have := HLE.out; unfold strW; omega)
          have HR := Lib.hid hr
          clear hr
          go_wp2_with fail
          go_ret
          exact ⟨ret_int HR.out.symm, rfl⟩
        · go_wp2_with fail
          go_roundg (l.length - (i + 1))
          case measure => have := HK.out; omega
          case rel => exact ⟨i + 1, rfl, by omega, by rw [HG.out]; go_num, by rw [HG.out]; omega, by go_num, rfl⟩
      · have hdl : decide (((i : Nat) : Int) < ((l.length : Nat) : Int)) = false := by rw [decide_eq_false_iff_not]; omega
        obtain rfl : i = l.length := by omega
        have hr : szOut 1048576 (strW l) = 1048576 - (l.length : Int) - (strTo l l.length : Int) := by
          have e : strW l = l.length + strTo l l.length := by rw [strTo_all]; rfl
          rw [szOut_yes (by omega)]
          omega
        have HR := Lib.hid hr
        clear hr
        go_wp2_with fail
        go_ret
        exact ⟨ret_int HR.out.symm, rfl⟩
theorem toStr_any (w : World) (v : Value) (l : List Bytes) (hv : SlB w w.heap.size v l) (hl : l.length ≤ 1048576) :
    Calls Tryd.prog 32 #[v] w fun e w' => ∃ u, e = .returned u ∧ Fr strRow 1 9 w' w.heap.size u l ∧ Below w.heap.size w w' := by
  obtain ⟨A, c, rfl, hc, hm⟩ := hv.val
  obtain ⟨i0, hi, hz0, hz1, hz2⟩ := info_parts infoStr
  have hmk := fun W => run_make_rowN (P := Tryd.prog) 35 9 i0 _ Tryd.underlying35 hi hz0 .i64 .i64 l.length l.length (Nat.le_refl _) (by rw [hz2]; omega) (by omega) W
  rw [hz1] at hmk
  clear hi hz0 hz1 hz2
  have HV := Lib.hid hv
  clear hv
  go_enter Tryd.func32, Tryd.ntmps32
  go_wp2_with fail
  go_loopg [4] l.length (fun k p wr => ∃ (i : Nat) (cur : Array Value), k = l.length - i ∧ i ≤ l.length ∧ p = .int .i64 i ∧ Blk wr w.heap.size 9 cur ∧ cur.size = l.length * 1 ∧ Filled strRow 1 l i cur ∧ Below w.heap.size w wr)
  case atStart => exact ⟨0, _, by omega, by omega, rfl, Blk.new _ _ _, by simp [size_madeCells], Filled.zero _, by (repeat (first | with_reducible assumption | with_reducible exact Below.refl _ _ | with_reducible refine Below.setCell ?_ (by first | omega | (simp; done) | (simp; omega)) _ | with_reducible refine Below.alloc ?_ (by first | omega | (simp; done) | (simp; omega)) _ | with_reducible refine below_drewN ?_ _ | with_reducible refine Below.drew ?_))⟩
  case round =>
    obtain ⟨i, cur, hk, hin, rfl, hB, hsz, hfill, hbl⟩ := hrel
    have HK := Lib.hid (And.intro hk (And.intro hsz hfill))
    clear hk hfill hsz
    by_cases hlt : i < l.length
    · obtain ⟨b, o, x, rfl, hb, hg, f0⟩ := str_at HV.out hlt
      have g0 := f0 ⟨wr, hbl⟩
      have HG := Lib.hid hg
      clear f0 hg
      have hfz := hB.frozen i
      obtain ⟨y0, hy0⟩ : ∃ y, wr.cell? ⟨w.heap.size, i, none⟩ = some y := ⟨_, (hB.cell _).trans (Array.getElem?_eq_getElem (by have := HK.out.2.1; omega))⟩
      go_wp2_with fail
      go_roundg (l.length - (i + 1))
      case measure => have := HK.out.1; omega
      case rel => exact ⟨i + 1, putRow cur (i * 1) (strRow x), rfl, by omega, by go_num, by simpa [putRow, strRow] using hB.set_ i _, by rw [putRow_size]; exact HK.out.2.1, HK.out.2.2.put (fun _ => rfl) HG.out (by have := HK.out.2.1; omega), Below.setCell hbl (by simp) _⟩
    · obtain rfl : i = l.length := by omega
      go_wp2_with fail
      go_ret
      refine ⟨_, rfl, .inr ⟨w.heap.size, l.length, cur, rfl, Nat.le_refl _, Nat.le_refl _, by unfold maxLen; omega, hB, fun i' s hs => HK.out.2.2 i' s (List.getElem?_eq_some_iff.1 hs).1 hs⟩, hbl⟩
def mkIn (k n : Nat) : List Bytes := (List.range n).map (fun i => mkW (k + i))
theorem mkIn_len (k n : Nat) : (mkIn k n).length = n := by simp [mkIn]
theorem mkIn_at (k : Nat) {n i : Nat} (h : i < n) : (mkIn k n)[i]? = some (mkW (k + i)) := by simp [mkIn, h]
theorem markStr_any (w : World) (lo : Nat) (v : Value) (l : List Bytes) (k : Nat) (hv : Fr strRow 1 9 w lo v l) (hk0 : 1 ≤ k) (hk1 : k ≤ 1000000) (hl : l.length ≤ 1048576) :
    Calls Tryd.prog 34 #[v, .int .i64 (k : Int)] w fun e w' => e = .returned (.int .i64 ((k + l.length : Nat) : Int)) ∧ w.grownBy w' v.ownBlock ∧ Fr strRow 1 9 w' lo v (mkIn k l.length) := by
  rcases hv.form with ⟨rfl, rfl⟩ | ⟨g, cap, cur0, rfl, hlo, hc, hm, hB0, hx0⟩
  · go_enter Tryd.func34, Tryd.ntmps34
    go_wp2_with fail
    go_loopg [1, 5] 0 (fun n a b wr => n = 0 ∧ a = .int .i64 (k : Int) ∧ b = .int .i64 0 ∧ wr = w)
    case atStart => exact ⟨rfl, rfl, rfl, rfl⟩
    case round =>
      obtain ⟨rfl, rfl, rfl, rfl⟩ := hrel
      go_wp2_with fail
      go_ret
      exact ⟨by simp, grown_refl _ _, .inl ⟨rfl, rfl⟩⟩
  · have hs0 := full_of_cells (row := strRow) (k := 1) (fun _ => rfl) (by omega) hx0
    clear hx0
    go_enter Tryd.func34, Tryd.ntmps34
    go_wp2_with fail
    go_loopg [1, 5] l.length (fun n a b wr => ∃ (i : Nat) (cur : Array Value), n = l.length - i ∧ i ≤ l.length ∧ a = .int .i64 ((k + i : Nat) : Int) ∧ b = .int .i64 i ∧ Blk wr g 9 cur ∧ l.length * 1 ≤ cur.size ∧ Filled strRow 1 (mkIn k l.length) i cur ∧ w.grownBy wr (some g))
    case atStart => exact ⟨0, cur0, by omega, by omega, by simp, rfl, hB0, hs0, Filled.zero _, grown_refl _ _⟩
    case round =>
      obtain ⟨i, cur, hk, hin, rfl, rfl, hB, hsz, hfill, hg⟩ := hrel
      have HK := Lib.hid (And.intro hk (And.intro hsz hfill))
      clear hk hfill hsz
      by_cases hlt : i < l.length
      · have hdl : decide (((i : Nat) : Int) < ((l.length : Nat) : Int)) = true := by rw [decide_eq_true_eq]; omega
        have MT := Lib.hid (markText_any (k + i) (by omega) (by omega))
        have hwk : ((k + i : Nat) : Int) + 1 = ((k + i + 1 : Nat) : Int) := by omega
        have HWK := Lib.hid hwk
        clear hwk
        generalize hki : k + i = ki at *
        have HKI := Lib.hid hki
        have hkb : ki ≤ 100000000 := by omega
        clear hki
        go_wp2_with fail
        refine (MT.out wr).mono ?_
        rintro e w1 ⟨rfl, hb1⟩
        have hB1 := hB.below hb1 hB.lt
        have hfz := hB1.frozen
        obtain ⟨y0, hy0⟩ : ∃ y, w1.cell? ⟨g, i, none⟩ = some y := ⟨_, (hB1.cell _).trans (Array.getElem?_eq_getElem (by have := HK.out.2.1; omega))⟩
        have HG := Lib.hid (And.intro hB1 hb1)
        clear hB1 hb1
        go_wp2_with fail
        go_roundg (l.length - (i + 1))
        case measure => have := HK.out.1; omega
        case rel => exact ⟨i + 1, putRow cur (i * 1) (strRow (mkW ki)), rfl, by omega, by have := HKI.out; have := HWK.out; congr 1; omega, by go_num, by simpa [putRow, strRow] using HG.out.1.set_ i _, by rw [putRow_size]; exact HK.out.2.1, HK.out.2.2.put (fun _ => rfl) (by rw [← HKI.out]; exact mkIn_at _ hlt) (by have := HK.out.2.1; omega), grown_set (grown_bel hg HG.out.2) _ _⟩
      · have hdl : decide (((i : Nat) : Int) < ((l.length : Nat) : Int)) = false := by rw [decide_eq_false_iff_not]; omega
        obtain rfl : i = l.length := by omega
        go_wp2_with fail
        go_ret
        exact ⟨rfl, hg, .inr ⟨g, cap, cur, by rw [mkIn_len], hlo, by rw [mkIn_len]; exact hc, by unfold maxLen; omega, hB, fun i' s hs => HK.out.2.2 i' s (by have := (List.getElem?_eq_some_iff.1 hs).1; rw [mkIn_len] at this; exact this) hs⟩⟩
end Go.Proofs.YtgoobhmbfjimoaaDoor
