
/- Rows of words: same, copied, sized, marked, held. -/
import Derived.Test.YtppefinpekhbeaaGreatDoorMks
import Derived.Test.YtppefinpekhbeaaGreatDoorLasts
import Derived.Test.YtppefinpekhbeaaGreatDoorImWs
import Derived.Test.YtppefinpekhbeaaGreatDoorMark
import Derived.BigQuiet
namespace Go.Proofs.YtppefinpekhbeaaGreatDoor
set_option maxRecDepth 100000
set_option linter.unusedSimpArgs false
set_option linter.unusedVariables false
open Go.RowKit
attribute [local go_sem] bs_toList bs_get bs_size

theorem eqStr_any (W : World) (v u : Value) (l m : List Bytes) (hv : SlB W W.heap.size v l) (hu : SlB W W.heap.size u m) : Calls Tryz.prog 23 #[v, u] W fun e w' => e = .returned (.bool (decide (l = m))) ∧ Below W.heap.size W w' := by
  obtain ⟨A, c, rfl, hc, hm⟩ := hv.val
  obtain ⟨A', c', rfl, hc', hm'⟩ := hu.val
  by_cases hnm : l.length = m.length
  rotate_left
  · have hne : (((l.length : Nat) : Int) != ((m.length : Nat) : Int)) = true := by simp; omega
    have hd : decide (l = m) = false := by simp; intro e; exact hnm (by rw [e])
    go_enter Tryz.func23, Tryz.ntmps23
    go_wp2_with fail
    go_ret
    exact ⟨ret_bool hd.symm, Below.refl _ _⟩
  have hne : (((l.length : Nat) : Int) != ((m.length : Nat) : Int)) = false := by simp [hnm]
  have HNM := Lib.hid hnm
  have HV := Lib.hid hv
  have HU := Lib.hid hu
  clear hnm hv hu
  go_enter Tryz.func23, Tryz.ntmps23
  go_wp2_with fail
  go_loopg [5] l.length (fun k p wr => ∃ i : Nat, k = l.length - i ∧ i ≤ l.length ∧ p = .int .i64 i ∧ AgreeTo i l m ∧ Below W.heap.size W wr)
  case atStart => exact ⟨0, by omega, by omega, rfl, AgreeTo.zero _ _, Below.refl _ _⟩
  case round =>
    obtain ⟨i, hk, hin, rfl, hij, hbl⟩ := hrel
    have HK := Lib.hid (And.intro hk hij)
    clear hk hij
    by_cases hlt : i < l.length
    · have hdl : decide (((i : Nat) : Int) < ((l.length : Nat) : Int)) = true := by rw [decide_eq_true_eq]; omega
      have hlm : i < m.length := by have := HNM.out; omega
      obtain ⟨q2, p2, x, rfl, hq2, hgx, fx⟩ := str_at HV.out hlt
      obtain ⟨q3, p3, y, rfl, hq3, hgy, fy⟩ := str_at HU.out hlm
      have gx := fx ⟨wr, hbl⟩
      have gy := fy ⟨wr, hbl⟩
      have HG := Lib.hid (And.intro hgx hgy)
      clear fx fy hgx hgy
      by_cases he : x = y
      · have hd : (x == y) = true := by simp [he]
        have HE := Lib.hid he
        clear he
        go_wp2_with fail
        go_quiet (fail)
        go_wp2_with fail
        go_roundg (l.length - (i + 1))
        case measure => have := HK.out.1; omega
        case rel => exact ⟨i + 1, rfl, by omega, by go_num, HK.out.2.succ HG.out.1 (by rw [HE.out]; exact HG.out.2), below_drewN hbl _⟩
      · have hd : (x == y) = false := by simp [he]
        have HE := Lib.hid he
        clear he
        go_wp2_with fail
        go_quiet (fail)
        go_wp2_with fail
        go_ret
        exact ⟨ret_bool (by have := AgreeTo.ne HG.out.1 HG.out.2 HE.out; simpa using this), below_drewN hbl _⟩
    · have hdl : decide (((i : Nat) : Int) < ((l.length : Nat) : Int)) = false := by rw [decide_eq_false_iff_not]; omega
      go_wp2_with fail
      go_ret
      exact ⟨ret_bool (by have := HK.out.2.eq (by omega) HNM.out; simp [this]), hbl⟩
theorem imEqual_any (W : World) (v u : Value) (l m : List Bytes) (hv : SlB W W.heap.size v l) (hu : SlB W W.heap.size u m) : Calls Tryz.prog 66 #[v, u] W fun e w' => e = .returned (.bool (decide (l = m))) ∧ Below W.heap.size W w' := by
  obtain ⟨A, c, rfl, hc, hm⟩ := hv.val
  obtain ⟨A', c', rfl, hc', hm'⟩ := hu.val
  by_cases hnm : l.length = m.length
  rotate_left
  · have hne : (((l.length : Nat) : Int) != ((m.length : Nat) : Int)) = true := by simp; omega
    have hd : decide (l = m) = false := by simp; intro e; exact hnm (by rw [e])
    go_enter Tryz.func66, Tryz.ntmps66
    go_wp2_with fail
    go_ret
    exact ⟨ret_bool hd.symm, Below.refl _ _⟩
  have hne : (((l.length : Nat) : Int) != ((m.length : Nat) : Int)) = false := by simp [hnm]
  have HNM := Lib.hid hnm
  have HV := Lib.hid hv
  have HU := Lib.hid hu
  clear hnm hv hu
  go_enter Tryz.func66, Tryz.ntmps66
  go_wp2_with fail
  go_loopg [13] l.length (fun k p wr => ∃ i : Nat, k = l.length - i ∧ i ≤ l.length ∧ p = .int .i64 i ∧ AgreeTo i l m ∧ Below W.heap.size W wr)
  case atStart => exact ⟨0, by omega, by omega, rfl, AgreeTo.zero _ _, Below.refl _ _⟩
  case round =>
    obtain ⟨i, hk, hin, rfl, hij, hbl⟩ := hrel
    have HK := Lib.hid (And.intro hk hij)
    clear hk hij
    by_cases hlt : i < l.length
    · have hdl : decide (((i : Nat) : Int) < ((l.length : Nat) : Int)) = true := by rw [decide_eq_true_eq]; omega
      have hlm : i < m.length := by have := HNM.out; omega
      obtain ⟨q2, p2, x, rfl, hq2, hgx, fx⟩ := str_at HV.out hlt
      obtain ⟨q3, p3, y, rfl, hq3, hgy, fy⟩ := str_at HU.out hlm
      have gx := fx ⟨wr, hbl⟩
      have gy := fy ⟨wr, hbl⟩
      have HG := Lib.hid (And.intro hgx hgy)
      clear fx fy hgx hgy
      by_cases he : x = y
      · have hd : (x == y) = true := by simp [he]
        have HE := Lib.hid he
        clear he
        go_wp2_with fail
        go_quiet (fail)
        go_wp2_with fail
        go_roundg (l.length - (i + 1))
        case measure => have := HK.out.1; omega
        case rel => exact ⟨i + 1, rfl, by omega, by go_num, HK.out.2.succ HG.out.1 (by rw [HE.out]; exact HG.out.2), below_drewN hbl _⟩
      · have hd : (x == y) = false := by simp [he]
        have HE := Lib.hid he
        clear he
        go_wp2_with fail
        go_quiet (fail)
        go_wp2_with fail
        go_ret
        exact ⟨ret_bool (by have := AgreeTo.ne HG.out.1 HG.out.2 HE.out; simpa using this), below_drewN hbl _⟩
    · have hdl : decide (((i : Nat) : Int) < ((l.length : Nat) : Int)) = false := by rw [decide_eq_false_iff_not]; omega
      go_wp2_with fail
      go_ret
      exact ⟨ret_bool (by have := HK.out.2.eq (by omega) HNM.out; simp [this]), hbl⟩
/-- how much a row of words holds -/
def strW (l : List Bytes) : Nat := l.length + (l.map List.length).sum
def strTo (l : List Bytes) (i : Nat) : Nat := ((l.take i).map List.length).sum
theorem strTo_succ {l : List Bytes} {i : Nat} {s : Bytes} (h : l[i]? = some s) : strTo l (i + 1) = strTo l i + s.length := by
  obtain ⟨hi, rfl⟩ := List.getElem?_eq_some_iff.1 h
  unfold strTo
  rw [List.take_succ_eq_append_getElem hi, List.map_append, List.sum_append]
  simp
theorem strTo_le (l : List Bytes) (i : Nat) : strTo l i ≤ (l.map List.length).sum := by
  have h := congrArg (fun l : List Bytes => (l.map List.length).sum) (List.take_append_drop i l)
  simp only [List.map_append, List.sum_append] at h
  unfold strTo
  omega
theorem strTo_all (l : List Bytes) : strTo l l.length = (l.map List.length).sum := by unfold strTo; rw [List.take_length]
theorem strW_mem {l : List Bytes} {s : Bytes} (h : s ∈ l) : s.length ≤ strW l := by
  obtain ⟨i, hi⟩ := List.mem_iff_getElem?.1 h
  have h1 := strTo_succ hi
  have h2 := strTo_le l (i + 1)
  unfold strW
  omega
def mkIn (k n : Nat) : List Bytes := (List.range n).map (fun i => mkW (k + i))
theorem mkIn_len (k n : Nat) : (mkIn k n).length = n := by simp [mkIn]
theorem mkIn_at (k : Nat) {n i : Nat} (h : i < n) : (mkIn k n)[i]? = some (mkW (k + i)) := by simp [mkIn, h]
theorem markStr_any (w : World) (lo : Nat) (v : Value) (l : List Bytes) (k : Nat) (hv : Fr strRow 1 9 w lo v l) (hk0 : 1 ≤ k) (hk1 : k ≤ 1000000) (hl : l.length ≤ 1048576) :
    Calls Tryz.prog 26 #[v, .int .i64 (k : Int)] w fun e w' => e = .returned (.int .i64 ((k + l.length : Nat) : Int)) ∧ w.grownBy w' v.ownBlock ∧ Fr strRow 1 9 w' lo v (mkIn k l.length) := by
  rcases hv.form with ⟨rfl, rfl⟩ | ⟨g, cap, cur0, rfl, hlo, hc, hm, hB0, hx0⟩
  · go_enter Tryz.func26, Tryz.ntmps26
    go_wp2_with fail
    go_loopg [1, 5] 0 (fun n a b wr => n = 0 ∧ a = .int .i64 (k : Int) ∧ b = .int .i64 0 ∧ wr = w)
    case atStart => exact ⟨rfl, rfl, rfl, rfl⟩
    case round =>
      obtain ⟨rfl, rfl, rfl, rfl⟩ := hrel
      go_wp2_with fail
      go_ret
      exact ⟨by simp, grown_refl _ _, .inl ⟨rfl, rfl⟩⟩
  · have hs0 := full_of_cells (row := strRow) (k := 1) (fun _ => rfl) (by omega) hx0
    clear hx0
    go_enter Tryz.func26, Tryz.ntmps26
    go_wp2_with fail
    go_loopg [1, 5] l.length (fun n a b wr => ∃ (i : Nat) (cur : Array Value), n = l.length - i ∧ i ≤ l.length ∧ a = .int .i64 ((k + i : Nat) : Int) ∧ b = .int .i64 i ∧ Blk wr g 9 cur ∧ l.length * 1 ≤ cur.size ∧ Filled strRow 1 (mkIn k l.length) i cur ∧ w.grownBy wr (some g))
    case atStart => exact ⟨0, cur0, by omega, by omega, by simp, rfl, hB0, hs0, Filled.zero _, grown_refl _ _⟩
    case round =>
      obtain ⟨i, cur, hk, hin, rfl, rfl, hB, hsz, hfill, hg⟩ := hrel
      have HK := Lib.hid (And.intro hk (And.intro hsz hfill))
      clear hk hfill hsz
      by_cases hlt : i < l.length
      · have hdl : decide (((i : Nat) : Int) < ((l.length : Nat) : Int)) = true := by rw [decide_eq_true_eq]; omega
        have MT := Lib.hid (markText_any (k + i) (by omega) (by omega))
        have hwk : ((k + i : Nat) : Int) + 1 = ((k + i + 1 : Nat) : Int) := by omega
        have HWK := Lib.hid hwk
        clear hwk
        generalize hki : k + i = ki at *
        have HKI := Lib.hid hki
        have hkb : ki ≤ 100000000 := by omega
        clear hki
        go_wp2_with fail
        refine (MT.out wr).mono ?_
        rintro e w1 ⟨rfl, hb1⟩
        have hB1 := hB.below hb1 hB.lt
        have hfz := hB1.frozen
        obtain ⟨y0, hy0⟩ : ∃ y, w1.cell? ⟨g, i, none⟩ = some y := ⟨_, (hB1.cell _).trans (Array.getElem?_eq_getElem (by have := HK.out.2.1; omega))⟩
        have HG := Lib.hid (And.intro hB1 hb1)
        clear hB1 hb1
        go_wp2_with fail
        go_roundg (l.length - (i + 1))
        case measure => have := HK.out.1; omega
        case rel => exact ⟨i + 1, putRow cur (i * 1) (strRow (mkW ki)), rfl, by omega, by have := HKI.out; have := HWK.out; congr 1; omega, by go_num, by simpa [putRow, strRow] using HG.out.1.set_ i _, by rw [putRow_size]; exact HK.out.2.1, HK.out.2.2.put (fun _ => rfl) (by rw [← HKI.out]; exact mkIn_at _ hlt) (by have := HK.out.2.1; omega), grown_set (grown_bel hg HG.out.2) _ _⟩
      · have hdl : decide (((i : Nat) : Int) < ((l.length : Nat) : Int)) = false := by rw [decide_eq_false_iff_not]; omega
        obtain rfl : i = l.length := by omega
        go_wp2_with fail
        go_ret
        exact ⟨rfl, hg, .inr ⟨g, cap, cur, by rw [mkIn_len], hlo, by rw [mkIn_len]; exact hc, by unfold maxLen; omega, hB, fun i' s hs => HK.out.2.2 i' s (by have := (List.getElem?_eq_some_iff.1 hs).1; rw [mkIn_len] at this; exact this) hs⟩⟩
end Go.Proofs.YtppefinpekhbeaaGreatDoor
