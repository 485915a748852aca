
/- Rows of words: same, copied, sized, marked, held. -/
import Derived.Test.YtgakjhaepdigpaaGreatDoorMks
import Derived.Test.YtgakjhaepdigpaaGreatDoorLasts
import Derived.Test.YtgakjhaepdigpaaGreatDoorImWs
import Derived.Test.YtgakjhaepdigpaaGreatDoorZm11
import Derived.BigQuiet
namespace Go.Proofs.YtgakjhaepdigpaaGreatDoor
set_option maxRecDepth 100000
set_option linter.unusedSimpArgs false
set_option linter.unusedVariables false
open Go.RowKit
attribute [local go_sem] bs_toList bs_get bs_size

theorem imEqual_any (W : World) (v u : Value) (l m : List Bytes) (hv : SlB W W.heap.size v l) (hu : SlB W W.heap.size u m) : Calls Tryz.prog 87 #[v, u] W fun e w' => e = .returned (.bool (decide (l = m))) ∧ Below W.heap.size W w' := by
  obtain ⟨A, c, rfl, hc, hm⟩ := hv.val
  obtain ⟨A', c', rfl, hc', hm'⟩ := hu.val
  by_cases hnm : l.length = m.length
  rotate_left
  · have hne : (((l.length : Nat) : Int) != ((m.length : Nat) : Int)) = true := by simp; omega
    have hd : decide (l = m) = false := by simp; intro e; exact hnm (by rw [e])
    go_enter Tryz.func87, Tryz.ntmps87
    go_wp2_with fail
    go_ret
    exact ⟨ret_bool hd.symm, Below.refl _ _⟩
  have hne : (((l.length : Nat) : Int) != ((m.length : Nat) : Int)) = false := by simp [hnm]
  have HNM := Lib.hid hnm
  have HV := Lib.hid hv
  have HU := Lib.hid hu
  clear hnm hv hu
  go_enter Tryz.func87, Tryz.ntmps87
  go_wp2_with fail
  go_loopg [13] l.length (fun k p wr => ∃ i : Nat, k = l.length - i ∧ i ≤ l.length ∧ p = .int .i64 i ∧ AgreeTo i l m ∧ Below W.heap.size W wr)
  case atStart => exact ⟨0, by omega, by omega, rfl, AgreeTo.zero _ _, Below.refl _ _⟩
  case round =>
    obtain ⟨i, hk, hin, rfl, hij, hbl⟩ := hrel
    have HK := Lib.hid (And.intro hk hij)
    clear hk hij
    by_cases hlt : i < l.length
    · have hdl : decide (((i : Nat) : Int) < ((l.length : Nat) : Int)) = true := by rw [decide_eq_true_eq]; omega
      have hlm : i < m.length := by have := HNM.out; omega
      obtain ⟨q2, p2, x, rfl, hq2, hgx, fx⟩ := str_at HV.out hlt
      obtain ⟨q3, p3, y, rfl, hq3, hgy, fy⟩ := str_at HU.out hlm
      have gx := fx ⟨wr, hbl⟩
      have gy := fy ⟨wr, hbl⟩
      have HG := Lib.hid (And.intro hgx hgy)
      clear fx fy hgx hgy
      by_cases he : x = y
      · have hd : (x == y) = true := by simp [he]
        have HE := Lib.hid he
        clear he
        go_wp2_with fail
        go_quiet (fail)
        go_wp2_with fail
        go_roundg (l.length - (i + 1))
        case measure => have := HK.out.1; omega
        case rel => exact ⟨i + 1, rfl, by omega, by go_num, HK.out.2.succ HG.out.1 (by rw [HE.out]; exact HG.out.2), below_drewN hbl _⟩
      · have hd : (x == y) = false := by simp [he]
        have HE := Lib.hid he
        clear he
        go_wp2_with fail
        go_quiet (fail)
        go_wp2_with fail
        go_ret
        exact ⟨ret_bool (by have := AgreeTo.ne HG.out.1 HG.out.2 HE.out; simpa using this), below_drewN hbl _⟩
    · have hdl : decide (((i : Nat) : Int) < ((l.length : Nat) : Int)) = false := by rw [decide_eq_false_iff_not]; omega
      go_wp2_with fail
      go_ret
      exact ⟨ret_bool (by have := HK.out.2.eq (by omega) HNM.out; simp [this]), hbl⟩
theorem spTexts_any (W : World) (v u : Value) (l m : List Bytes) (hv : SlB W W.heap.size v l) (hu : SlB W W.heap.size u m) : Calls Tryz.prog 154 #[v, u] W fun e w' => e = .returned (.bool (decide (l = m))) ∧ Below W.heap.size W w' := by
  obtain ⟨A, c, rfl, hc, hm⟩ := hv.val
  obtain ⟨A', c', rfl, hc', hm'⟩ := hu.val
  by_cases hnm : l.length = m.length
  rotate_left
  · have hne : (((l.length : Nat) : Int) != ((m.length : Nat) : Int)) = true := by simp; omega
    have hd : decide (l = m) = false := by simp; intro e; exact hnm (by rw [e])
    go_enter Tryz.func154, Tryz.ntmps154
    go_wp2_with fail
    go_ret
    exact ⟨ret_bool hd.symm, Below.refl _ _⟩
  have hne : (((l.length : Nat) : Int) != ((m.length : Nat) : Int)) = false := by simp [hnm]
  have HNM := Lib.hid hnm
  have HV := Lib.hid hv
  have HU := Lib.hid hu
  clear hnm hv hu
  go_enter Tryz.func154, Tryz.ntmps154
  go_wp2_with fail
  go_loopg [5] l.length (fun k p wr => ∃ i : Nat, k = l.length - i ∧ i ≤ l.length ∧ p = .int .i64 i ∧ AgreeTo i l m ∧ Below W.heap.size W wr)
  case atStart => exact ⟨0, by omega, by omega, rfl, AgreeTo.zero _ _, Below.refl _ _⟩
  case round =>
    obtain ⟨i, hk, hin, rfl, hij, hbl⟩ := hrel
    have HK := Lib.hid (And.intro hk hij)
    clear hk hij
    by_cases hlt : i < l.length
    · have hdl : decide (((i : Nat) : Int) < ((l.length : Nat) : Int)) = true := by rw [decide_eq_true_eq]; omega
      have hlm : i < m.length := by have := HNM.out; omega
      obtain ⟨q2, p2, x, rfl, hq2, hgx, fx⟩ := str_at HV.out hlt
      obtain ⟨q3, p3, y, rfl, hq3, hgy, fy⟩ := str_at HU.out hlm
      have gx := fx ⟨wr, hbl⟩
      have gy := fy ⟨wr, hbl⟩
      have HG := Lib.hid (And.intro hgx hgy)
      clear fx fy hgx hgy
      by_cases he : x = y
      · have hd : (x == y) = true := by simp [he]
        have HE := Lib.hid he
        clear he
        go_wp2_with fail
        go_quiet (fail)
        go_wp2_with fail
        go_roundg (l.length - (i + 1))
        case measure => have := HK.out.1; omega
        case rel => exact ⟨i + 1, rfl, by omega, by go_num, HK.out.2.succ HG.out.1 (by rw [HE.out]; exact HG.out.2), below_drewN hbl _⟩
      · have hd : (x == y) = false := by simp [he]
        have HE := Lib.hid he
        clear he
        go_wp2_with fail
        go_quiet (fail)
        go_wp2_with fail
        go_ret
        exact ⟨ret_bool (by have := AgreeTo.ne HG.out.1 HG.out.2 HE.out; simpa using this), below_drewN hbl _⟩
    · have hdl : decide (((i : Nat) : Int) < ((l.length : Nat) : Int)) = false := by rw [decide_eq_false_iff_not]; omega
      go_wp2_with fail
      go_ret
      exact ⟨ret_bool (by have := HK.out.2.eq (by omega) HNM.out; simp [this]), hbl⟩
/-- how much a row of words holds -/
def strW (l : List Bytes) : Nat := l.length + (l.map List.length).sum
def strTo (l : List Bytes) (i : Nat) : Nat := ((l.take i).map List.length).sum
theorem strTo_succ {l : List Bytes} {i : Nat} {s : Bytes} (h : l[i]? = some s) : strTo l (i + 1) = strTo l i + s.length := by
  obtain ⟨hi, rfl⟩ := List.getElem?_eq_some_iff.1 h
  unfold strTo
  rw [List.take_succ_eq_append_getElem hi, List.map_append, List.sum_append]
  simp
theorem strTo_le (l : List Bytes) (i : Nat) : strTo l i ≤ (l.map List.length).sum := by
  have h := congrArg (fun l : List Bytes => (l.map List.length).sum) (List.take_append_drop i l)
  simp only [List.map_append, List.sum_append] at h
  unfold strTo
  omega
theorem strTo_all (l : List Bytes) : strTo l l.length = (l.map List.length).sum := by unfold strTo; rw [List.take_length]
theorem strW_mem {l : List Bytes} {s : Bytes} (h : s ∈ l) : s.length ≤ strW l := by
  obtain ⟨i, hi⟩ := List.mem_iff_getElem?.1 h
  have h1 := strTo_succ hi
  have h2 := strTo_le l (i + 1)
  unfold strW
  omega
def mkIn (k n : Nat) : List Bytes := (List.range n).map (fun i => mkW (k + i))
theorem mkIn_len (k n : Nat) : (mkIn k n).length = n := by simp [mkIn]
theorem mkIn_at (k : Nat) {n i : Nat} (h : i < n) : (mkIn k n)[i]? = some (mkW (k + i)) := by simp [mkIn, h]
end Go.Proofs.YtgakjhaepdigpaaGreatDoor
