/- Words with a space between: the reference's TokText. -/
import Derived.Test.YtgakjhaepdigpaaGreatDoorBas
import Derived.Test.YtgakjhaepdigpaaGreatDoorRows
import Derived.Deep.Light
namespace Go.Proofs.YtgakjhaepdigpaaGreatDoor
set_option maxRecDepth 100000
set_option linter.unusedSimpArgs false
set_option linter.unusedVariables false
open Go.RowKit
attribute [local go_sem] bs_toList bs_get bs_size

/-- what has been joined of the first i words -/
def joinTo (l : List Bytes) (i : Nat) : Bytes := joinL (l.take i)
theorem joinTo_succ {l : List Bytes} {i : Nat} {s : Bytes} (h : l[i]? = some s) : joinTo l (i + 1) = (if 0 < i then joinTo l i ++ [32] else joinTo l i) ++ s := by
  have hi := (List.getElem?_eq_some_iff.1 h).1
  have he : l[i] = s := by rw [List.getElem?_eq_getElem hi] at h; exact Option.some.inj h
  unfold joinTo
  rw [List.take_succ_eq_append_getElem hi, he]
  by_cases h0 : 0 < i
  · rw [if_pos h0, joinL_snoc s (by intro e; have := congrArg List.length e; rw [List.length_take] at this; simp only [List.length_nil] at this; omega)]
    simp
  · obtain rfl : i = 0 := by omega
    simp [joinL]
theorem joinL_take_le (l : List Bytes) : ∀ i, (joinTo l i).length ≤ (joinL l).length := by
  have key : ∀ (l : List Bytes) (i : Nat), (joinL (l.take i)).length ≤ (joinL l).length := by
    intro l
    induction l with
    | nil => intro i; simp
    | cons w l ih =>
      intro i
      cases i with
      | zero => simp [joinL]
      | succ i =>
        rw [List.take_succ_cons, joinL_cons, joinL_cons]
        cases l with
        | nil => simp
        | cons v l =>
          cases i with
          | zero => simp
          | succ i =>
            have := ih (i + 1)
            rw [List.take_succ_cons] at this ⊢
            simp only [List.length_append, List.length_cons] at this ⊢
            omega
  exact key l
theorem spTokText_any (l : List Bytes) (v : Value) (w : World) (hv : SlB w w.heap.size v l) (hl : (joinL l).length ≤ 100000000) :
    Calls Tryz.prog 31 #[v] w fun e w' => e = .returned (.string (bs (joinL l))) ∧ w = w' := by
  obtain ⟨A, c, rfl, hc, hm⟩ := hv.val
  go_enter Tryz.func31, Tryz.ntmps31
  go_wp2_with fail
  go_loopg [3, 4] l.length (fun k o i wr => ∃ j : Nat, k = l.length - j ∧ j ≤ l.length ∧ i = .int .i64 j ∧ o = .string (bs (joinTo l j)) ∧ wr = w)
  case atStart => exact ⟨0, by omega, by omega, rfl, by simp [joinTo, joinL, bs], rfl⟩
  case round =>
    obtain ⟨j, hk, hj, rfl, rfl, rfl⟩ := hrel
    have HK := Lib.hid hk
    clear hk
    by_cases hlt : j < l.length
    · obtain ⟨b, o, x, rfl, hb, hg, f0⟩ := str_at hv hlt
      have g0 := f0 ⟨wr, Below.refl _ _⟩
      have hs := joinTo_succ hg
      have hle := joinL_take_le l (j + 1)
      have HS := Lib.hid hs
      clear f0 hg
      by_cases h0 : 0 < j
      · rw [if_pos h0] at hs HS
        have hlen := congrArg List.length hs
        simp only [List.length_append, List.length_singleton] at hlen
        have d1 : decide ((0 : Int) < (j : Int)) = true := by simp; omega
        have d2 : decide (0 < j) = true := by simp; omega
        have hcat : ¬ 9223372036854775807 < (joinTo l j).length + 1 := by omega
        have hcat2 : ¬ 9223372036854775807 < (joinTo l j).length + 1 + x.length := by omega
        clear hs hlen hle
        go_wp2_with fail
        go_roundg (l.length - (j + 1))
        case measure => have := HK.out; omega
        case rel => exact ⟨j + 1, rfl, by omega, by go_num, by rw [HS.out, ← bs_append, ← bs_append]; rfl, rfl⟩
      · rw [if_neg h0] at hs HS
        have hlen := congrArg List.length hs
        simp only [List.length_append] at hlen
        have d1 : decide ((0 : Int) < (j : Int)) = false := by simp; omega
        have d2 : decide (0 < j) = false := by simp; omega
        have hcat : ¬ 9223372036854775807 < (joinTo l j).length + x.length := by omega
        clear hs hlen hle h0
        go_wp2_with fail
        go_roundg (l.length - (j + 1))
        case measure => have := HK.out; omega
        case rel => exact ⟨j + 1, rfl, by omega, by go_num, by rw [HS.out, ← bs_append], rfl⟩
    · obtain rfl : j = l.length := by omega
      go_wp2_with fail
      go_ret
      exact ⟨ret_bs (by simp [joinTo]), rfl⟩
end Go.Proofs.YtgakjhaepdigpaaGreatDoor


/- Trees in the laws' own hands: how much they hold, their copies, their equality. -/
namespace Go.Proofs.YtgakjhaepdigpaaGreatDoor
set_option maxRecDepth 100000
set_option linter.unusedSimpArgs false
set_option linter.unusedVariables false
open Go.RowKit
attribute [local go_sem] bs_toList bs_get bs_size

theorem szOut_sub {n : Int} {a b : Nat} (h : 0 ≤ n - a) : szOut (n - a) b = szOut n (a + b) := by unfold szOut; split <;> split <;> omega
theorem szExprS_n : ∀ (k : Nat) (l : List Ex) (v : Value) (W : World) (n : Int), SizeOf.sizeOf l ≤ k → 0 ≤ n → n ≤ 10000000 → ExS W W.heap.size v l →
    Calls Tryz.prog 139 #[v, .int .i64 n] W fun e w' => e = .returned (.int .i64 (szOut n (wtL l))) ∧ Below W.heap.size W w' := by
  intro k
  induction k using Nat.strongRecOn with
  | _ k ih =>
    intro l v W n hk h0 h1 hv
    have one : ∀ (e : Ex) (v : Value) (W : World) (n : Int), SizeOf.sizeOf e < k → 0 ≤ n → n ≤ 10000000 → ExV W W.heap.size v e →
        Calls Tryz.prog 89 #[v, .int .i64 n] W fun r w' => r = .returned (.int .i64 (szOut n e.wt)) ∧ Below W.heap.size W w' := by
      intro e v W n hek h0 h1 hv
      obtain ⟨p, q, s, A, c, m, rfl, rfl, hs, hc, hm, hkv⟩ := hv.form
      rw [bs_size] at hs
      have hsk := Ex.size_kids (.mk p q s m)
      simp only [Ex.kids] at hsk
      have hw := Ex.wt_mk p q s m
      by_cases hneg : n - (s.length : Int) < 0
      · have hr : szOut n (Ex.mk p q s m).wt = -1 := by rw [hw]; exact szOut_no (by omega)
        have HR := Lib.hid hr
        clear hr hw
        go_enter Tryz.func89, Tryz.ntmps89
        go_wp2_with fail
        go_ret
        exact ⟨ret_int HR.out.symm, by (repeat (first | with_reducible assumption | with_reducible exact Below.refl _ _ | with_reducible refine Below.setCell ?_ (by first | omega | (simp; done) | (simp; omega)) _ | with_reducible refine Below.alloc ?_ (by first | omega | (simp; done) | (simp; omega)) _ | with_reducible refine below_drewN ?_ _ | with_reducible refine Below.drew ?_))⟩
      · have hr : szOut (n - s.length) (wtL m) = szOut n (Ex.mk p q s m).wt := by rw [hw]; exact szOut_sub (by omega)
        have hB : Below W.heap.size W (W.alloc (.cells #[.int .i64 p, .int .i64 q, .string (bs s), .slice A m.length c] 55)) := by (repeat (first | with_reducible assumption | with_reducible exact Below.refl _ _ | with_reducible refine Below.setCell ?_ (by first | omega | (simp; done) | (simp; omega)) _ | with_reducible refine Below.alloc ?_ (by first | omega | (simp; done) | (simp; omega)) _ | with_reducible refine below_drewN ?_ _ | with_reducible refine Below.drew ?_))
        have hc := ih (SizeOf.sizeOf m) (by omega) m _ _ (n - s.length) (Nat.le_refl _) (by omega) (by omega) (hkv.ext hB)
        rw [hr] at hc
        have HC := Lib.hid hc
        have hz : (Ex.mk p q s m).wt = (Ex.mk p q s m).wt := rfl
        clear hc hr hw hz ih
        generalize (Ex.mk p q s m).wt = wq at *
        by_cases h2 : n - (wq : Int) < 0
        · have e2 : szOut n wq = -1 := szOut_no (by omega)
          rw [e2] at HC
          have E2 := Lib.hid e2
          clear e2
          go_enter Tryz.func89, Tryz.ntmps89
          go_wp2_with fail
          refine HC.out.mono ?_
          rintro e w1 ⟨rfl, hb1⟩
          go_wp2_with fail
          go_ret
          exact ⟨ret_int E2.out.symm, by (repeat (first | with_reducible assumption | with_reducible exact Below.refl _ _ | with_reducible refine Below.setCell ?_ (by first | omega | (simp; done) | (simp; omega)) _ | with_reducible refine Below.alloc ?_ (by first | omega | (simp; done) | (simp; omega)) _ | with_reducible refine below_drewN ?_ _ | with_reducible refine Below.drew ?_ | with_reducible refine Below.trans ?_ (Below.mono hb1 (by first | omega | (simp; done) | (simp; omega)))))⟩
        · have e2 : szOut n wq = n - wq := szOut_yes (by omega)
          rw [e2] at HC
          have E2 := Lib.hid e2
          clear e2
          go_enter Tryz.func89, Tryz.ntmps89
          go_wp2_with fail
          refine HC.out.mono ?_
          rintro e w1 ⟨rfl, hb1⟩
          go_wp2_with fail
          go_ret
          exact ⟨ret_int E2.out.symm, by (repeat (first | with_reducible assumption | with_reducible exact Below.refl _ _ | with_reducible refine Below.setCell ?_ (by first | omega | (simp; done) | (simp; omega)) _ | with_reducible refine Below.alloc ?_ (by first | omega | (simp; done) | (simp; omega)) _ | with_reducible refine below_drewN ?_ _ | with_reducible refine Below.drew ?_ | with_reducible refine Below.trans ?_ (Below.mono hb1 (by first | omega | (simp; done) | (simp; omega)))))⟩
    obtain ⟨A, c, rfl, hc, hm⟩ := hv.val
    have hall := wtTo_all l
    have ONE := Lib.hid one
    clear one ih
    by_cases hneg : n - (l.length : Int) < 0
    · have hr : szOut n (wtL l) = -1 := szOut_no (by omega)
      have HR := Lib.hid hr
      clear hr hall
      go_enter Tryz.func139, Tryz.ntmps139
      go_wp2_with fail
      go_ret
      exact ⟨ret_int HR.out.symm, Below.refl _ _⟩
    · have HA := Lib.hid hall
      clear hall
      go_enter Tryz.func139, Tryz.ntmps139
      go_wp2_with fail
      go_loopg [1, 5] l.length (fun g a i wr => ∃ j : Nat, g = l.length - j ∧ j ≤ l.length ∧ i = .int .i64 j ∧ a = .int .i64 (n - l.length - wtTo l j) ∧ 0 ≤ n - l.length - wtTo l j ∧ Below W.heap.size W wr)
      case atStart => exact ⟨0, by omega, by omega, rfl, by simp [wtTo_zero], by rw [wtTo_zero]; omega, Below.refl _ _⟩
      case round =>
        obtain ⟨j, hk2, hj, rfl, rfl, hpos, hbl⟩ := hrel
        have HK := Lib.hid hk2
        clear hk2
        by_cases hlt : j < l.length
        · obtain ⟨b, o, p, q, s', A', c', m, rfl, hb, hg, hs', hm', hc', hk', f0, f1, f2, f3⟩ := ex_at hv hlt
          have g0 := f0 ⟨wr, hbl⟩; have g1 := f1 ⟨wr, hbl⟩; have g2 := f2 ⟨wr, hbl⟩; have g3 := f3 ⟨wr, hbl⟩
          have hsz := Ex.size_mem hg
          have hst := wtTo_succ hg
          have hle := wtTo_le l j
          have HG := Lib.hid (And.intro hg hst)
          clear f0 f1 f2 f3 hg hst
          have hcall := ONE.out (.mk p q s' m) _ wr (n - l.length - wtTo l j) (by omega) hpos (by omega) ⟨_, rfl, by rw [bs_size] at hs'; exact hs', (hk'.keep hbl (Nat.le_refl _)).more hbl.size⟩
          have HC := Lib.hid hcall
          clear hcall
          by_cases h2 : n - l.length - wtTo l j - ((Ex.mk p q s' m).wt : Int) < 0
          · have e2 : szOut (n - l.length - wtTo l j) (Ex.mk p q s' m).wt = -1 := szOut_no (by omega)
            rw [e2] at HC
            clear e2
            go_wp2_with fail
            refine HC.out.mono ?_
            rintro e w1 ⟨rfl, hb1⟩
            go_wp2_with fail
            go_ret
            refine ⟨ret_int (Eq.symm (szOut_no ?_)), hbl.ext hb1⟩
            have h3 := HG.out.2
            have h4 := wtTo_le l (j + 1)
            have h5 := HA.out
            omega
          · have e2 : szOut (n - l.length - wtTo l j) (Ex.mk p q s' m).wt = n - l.length - wtTo l j - (Ex.mk p q s' m).wt := szOut_yes (by omega)
            rw [e2] at HC
            clear e2
            go_wp2_with fail
            refine HC.out.mono ?_
            rintro e w1 ⟨rfl, hb1⟩
            go_wp2_with fail
            go_roundg (l.length - (j + 1))
            case measure => have := HK.out; omega
            case rel => exact ⟨j + 1, rfl, by omega, by go_num, by rw [HG.out.2]; congr 1; omega, by rw [HG.out.2]; omega, hbl.ext hb1⟩
        · obtain rfl : j = l.length := by omega
          go_wp2_with fail
          go_ret
          refine ⟨ret_int (Eq.symm ?_), hbl⟩
          rw [HA.out, szOut_yes (by omega)]
          omega
end Go.Proofs.YtgakjhaepdigpaaGreatDoor
