
/- Rows of numbers: same, marked, held. -/
import Derived.Test.YtgfneifejafddaaGreatDoorRunI
import Derived.BigQuiet
namespace Go.Proofs.YtgfneifejafddaaGreatDoor
set_option maxRecDepth 100000
set_option linter.unusedSimpArgs false
set_option linter.unusedVariables false
open Go.RowKit
attribute [local go_sem] bs_toList bs_get bs_size

set_option maxHeartbeats 1000000 in
theorem eqInt_same (W : World) (v u : Value) (l : List Int) (hv : SlN W W.heap.size v l) (hu : SlN W W.heap.size u l) : Calls Tryz.prog 13 #[v, u] W fun e w' => e = .returned (.bool true) ∧ Below W.heap.size W w' := by
  have HV := Lib.hid hv
  have HU := Lib.hid hu
  obtain ⟨A, c, rfl, hc, hm⟩ := hv.val
  obtain ⟨A', c', rfl, hc', hm'⟩ := hu.val
  clear hv hu
  go_enter Tryz.func13, Tryz.ntmps13
  go_wp2_with fail
  go_loopg [5] l.length (fun k i wr => ∃ j : Nat, k = l.length - j ∧ j ≤ l.length ∧ i = .int .i64 j ∧ Below W.heap.size W wr)
  case atStart => exact ⟨0, by omega, by omega, rfl, Below.refl _ _⟩
  case round =>
    obtain ⟨j, hk, hj, rfl, hbl⟩ := hrel
    have HK := Lib.hid hk
    clear hk
    by_cases hlt : j < l.length
    · have hdl : decide (((j : Nat) : Int) < ((l.length : Nat) : Int)) = true := by rw [decide_eq_true_eq]; omega
      obtain ⟨q2, p2, x, rfl, hq2, hgx, fx⟩ := num_at HV.out hlt
      obtain ⟨q3, p3, y, rfl, hq3, hgy, fy⟩ := num_at HU.out hlt
      obtain rfl : x = y := Option.some.inj (hgx.symm.trans hgy)
      have gx := fx ⟨wr, hbl⟩
      have gy := fy ⟨wr, hbl⟩
      clear fx fy hgx hgy
      go_wp2_with fail
      go_quiet (fail)
      go_wp2_with fail
      go_roundg (l.length - (j + 1))
      case measure => have := HK.out; omega
      case rel => exact ⟨j + 1, rfl, by omega, by go_num, below_drewN hbl _⟩
    · have hdl : decide (((j : Nat) : Int) < ((l.length : Nat) : Int)) = false := by rw [decide_eq_false_iff_not]; omega
      go_wp2_with fail
      go_ret
      exact ⟨rfl, hbl⟩
def markIn (k : Int) (n : Nat) : List Int := (List.range n).map (fun i : Nat => k + (i : Int))
theorem markIn_len (k : Int) (n : Nat) : (markIn k n).length = n := by simp [markIn]
theorem markIn_at (k : Int) {n i : Nat} (h : i < n) : (markIn k n)[i]? = some (k + i) := by simp [markIn, h]
theorem markInt_any (w : World) (lo : Nat) (v : Value) (l : List Int) (k : Int) (hv : Fr intRow 1 3 w lo v l) (hk0 : 0 ≤ k) (hk1 : k ≤ 100000000) (hl : l.length ≤ 10000000) :
    Calls Tryz.prog 16 #[v, .int .i64 k] w fun e w' => e = .returned (.int .i64 (k + (l.length : Int))) ∧ w.grownBy w' v.ownBlock ∧ Fr intRow 1 3 w' lo v (markIn k l.length) := by
  rcases hv.form with ⟨rfl, rfl⟩ | ⟨g, cap, cur0, rfl, hlo, hc, hm, hB0, hx0⟩
  · go_enter Tryz.func16, Tryz.ntmps16
    go_wp2
    go_loopg [1, 5] 0 (fun n a b wr => n = 0 ∧ a = .int .i64 k ∧ b = .int .i64 0 ∧ wr = w)
    case atStart => exact ⟨rfl, rfl, rfl, rfl⟩
    case round =>
      obtain ⟨rfl, rfl, rfl, rfl⟩ := hrel
      go_wp2
      go_ret
      exact ⟨by simp, grown_refl _ _, .inl ⟨rfl, rfl⟩⟩
  · have hs0 := full_of_cells (row := intRow) (k := 1) (fun _ => rfl) (by omega) hx0
    clear hx0
    go_enter Tryz.func16, Tryz.ntmps16
    go_wp2
    go_loopg [1, 5] l.length (fun n a b wr => ∃ (i : Nat) (cur : Array Value), n = l.length - i ∧ i ≤ l.length ∧ a = .int .i64 (k + (i : Int)) ∧ b = .int .i64 i ∧ Blk wr g 3 cur ∧ l.length * 1 ≤ cur.size ∧ Filled intRow 1 (markIn k l.length) i cur ∧ w.grownBy wr (some g))
    case atStart => exact ⟨0, cur0, by omega, by omega, by simp, rfl, hB0, hs0, Filled.zero _, grown_refl _ _⟩
    case round =>
      obtain ⟨i, cur, hk, hin, rfl, rfl, hB, hsz, hfill, hg⟩ := hrel
      have HK := Lib.hid (And.intro hk (And.intro hsz hfill))
      clear hk hfill hsz
      by_cases hlt : i < l.length
      · have hfz := hB.frozen
        obtain ⟨y0, hy0⟩ : ∃ y, wr.cell? ⟨g, i, none⟩ = some y := ⟨_, (hB.cell _).trans (Array.getElem?_eq_getElem (by have := HK.out.2.1; omega))⟩
        go_wp2_with fail
        go_roundg (l.length - (i + 1))
        case measure => have := HK.out; omega
        case rel => exact ⟨i + 1, putRow cur (i * 1) (intRow (k + (i : Int))), rfl, by omega, by go_num, by go_num, by simpa [putRow, intRow] using hB.set_ i _, by rw [putRow_size]; exact HK.out.2.1, HK.out.2.2.put (fun _ => rfl) (markIn_at _ hlt) (by have := HK.out.2.1; omega), grown_set hg _ _⟩
      · obtain rfl : i = l.length := by omega
        go_wp2
        go_ret
        exact ⟨rfl, hg, .inr ⟨g, cap, cur, by rw [markIn_len], hlo, by rw [markIn_len]; exact hc, by unfold maxLen; omega, hB, fun i' s hs => HK.out.2.2 i' s (by have := (List.getElem?_eq_some_iff.1 hs).1; rw [markIn_len] at this; exact this) hs⟩⟩
theorem heldInt_any (w : World) (B : Nat) (v : Value) (n : Nat) (k : Int) (hv : SlN w B v (markIn k n)) (hk0 : 0 ≤ k) (hk1 : k ≤ 100000000) (hl : n ≤ 10000000) :
    Calls Tryz.prog 17 #[v, .int .i64 k] w fun e w' => e = .returned (.int .i64 (k + (n : Int))) ∧ w = w' := by
  obtain ⟨A, c, rfl, hc, hm⟩ := hv.val
  rw [markIn_len] at hc hv ⊢
  go_enter Tryz.func17, Tryz.ntmps17
  go_wp2
  go_loopg [1, 5] n (fun m a b wr => ∃ i : Nat, m = n - i ∧ i ≤ n ∧ a = .int .i64 (k + (i : Int)) ∧ b = .int .i64 i ∧ wr = w)
  case atStart => exact ⟨0, by omega, by omega, by simp, rfl, rfl⟩
  case round =>
    obtain ⟨i, hk, hin, rfl, rfl, rfl⟩ := hrel
    have HK := Lib.hid hk
    clear hk
    by_cases hlt : i < n
    · obtain ⟨b, o, p, rfl, hb, hg, f0⟩ := num_at hv (i := i) (by rw [markIn_len]; exact hlt)
      rw [markIn_at k hlt] at hg
      injection hg with hg
      subst hg
      have g0 := f0 ⟨wr, Below.refl _ _⟩
      clear f0
      go_wp2_with fail
      go_roundg (n - (i + 1))
      case measure => have := HK.out; omega
      case rel => exact ⟨i + 1, rfl, by omega, by go_num, by go_num, rfl⟩
    · obtain rfl : i = n := by omega
      go_wp2
      go_ret
      exact ⟨rfl, rfl⟩
end Go.Proofs.YtgfneifejafddaaGreatDoor
