
/- Lines with a newline between: the reference's and the program's TextJoin. -/
import Derived.Test.YtgfdakgibjplkaaGreatDoorTokS
import Derived.Test.YtgfdakgibjplkaaGreatDoorEnv
namespace Go.Proofs.YtgfdakgibjplkaaGreatDoor
set_option maxRecDepth 100000
open Go.RowKit
attribute [local go_sem] bs_toList bs_get bs_size

def joinN : List Bytes → Bytes
  | [] => []
  | [w] => w
  | w :: v :: l => w ++ 10 :: joinN (v :: l)
theorem joinN_cons (w : Bytes) (l : List Bytes) : joinN (w :: l) = w ++ (match l with | [] => [] | v :: l' => 10 :: joinN (v :: l')) := by cases l <;> simp [joinN]
theorem joinN_snoc {l : List Bytes} (w : Bytes) (h : l ≠ []) : joinN (l ++ [w]) = joinN l ++ 10 :: w := by
  induction l with
  | nil => exact absurd rfl h
  | cons a l ih =>
    cases l with
    | nil => rfl
    | cons b l =>
      have := ih (by simp)
      simp only [List.cons_append, joinN] at this ⊢
      rw [this]
      simp
/-- what has been joined of the first i words -/
def lnTo (l : List Bytes) (i : Nat) : Bytes := joinN (l.take i)
theorem lnTo_succ {l : List Bytes} {i : Nat} {s : Bytes} (h : l[i]? = some s) : lnTo l (i + 1) = (if 0 < i then lnTo l i ++ [10] else lnTo l i) ++ s := by
  have hi := (List.getElem?_eq_some_iff.1 h).1
  have he : l[i] = s := by rw [List.getElem?_eq_getElem hi] at h; exact Option.some.inj h
  unfold lnTo
  rw [List.take_succ_eq_append_getElem hi, he]
  by_cases h0 : 0 < i
  · rw [if_pos h0, joinN_snoc s (by intro e; have := congrArg List.length e; rw [List.length_take] at this; simp only [List.length_nil] at this; omega)]
    simp
  · obtain rfl : i = 0 := by omega
    simp [joinN]
theorem lnTo_le (l : List Bytes) : ∀ i, (lnTo l i).length ≤ (joinN l).length := by
  have key : ∀ (l : List Bytes) (i : Nat), (joinN (l.take i)).length ≤ (joinN l).length := by
    intro l
    induction l with
    | nil => intro i; simp
    | cons w l ih =>
      intro i
      cases i with
      | zero => simp [joinN]
      | succ i =>
        rw [List.take_succ_cons, joinN_cons, joinN_cons]
        cases l with
        | nil => simp
        | cons v l =>
          cases i with
          | zero => simp
          | succ i =>
            have := ih (i + 1)
            rw [List.take_succ_cons] at this ⊢
            simp only [List.length_append, List.length_cons] at this ⊢
            omega
  exact key l
theorem spTextJoin_any (l : List Bytes) (v : Value) (w : World) (hv : SlB w w.heap.size v l) (hl : (joinN l).length ≤ 100000000) :
    Calls Tryz.prog 44 #[v] w fun e w' => e = .returned (.string (bs (joinN l))) ∧ w = w' := by
  obtain ⟨A, c, rfl, hc, hm⟩ := hv.val
  go_enter Tryz.func44, Tryz.ntmps44
  go_wp2_with fail
  go_loopg [3, 4] l.length (fun k o i wr => ∃ j : Nat, k = l.length - j ∧ j ≤ l.length ∧ i = .int .i64 j ∧ o = .string (bs (lnTo l j)) ∧ wr = w)
  case atStart => exact ⟨0, by omega, by omega, rfl, by simp [lnTo, joinN, bs], rfl⟩
  case round =>
    obtain ⟨j, hk, hj, rfl, rfl, rfl⟩ := hrel
    have HK := Lib.hid hk
    clear hk
    by_cases hlt : j < l.length
    · obtain ⟨b, o, x, rfl, hb, hg, f0⟩ := str_at hv hlt
      have g0 := f0 ⟨wr, Below.refl _ _⟩
      have hs := lnTo_succ hg
      have hle := lnTo_le l (j + 1)
      have HS := Lib.hid hs
      clear f0 hg
      by_cases h0 : 0 < j
      · rw [if_pos h0] at hs HS
        have hlen := congrArg List.length hs
        simp only [List.length_append, List.length_singleton] at hlen
        have d1 : decide ((0 : Int) < (j : Int)) = true := by simp; omega
        have d2 : decide (0 < j) = true := by simp; omega
        have hcat : ¬ 9223372036854775807 < (lnTo l j).length + 1 := by omega
        have hcat2 : ¬ 9223372036854775807 < (lnTo l j).length + 1 + x.length := by omega
        clear hs hlen hle
        go_wp2_with fail
        go_roundg (l.length - (j + 1))
        case measure => have := HK.out; omega
        case rel => exact ⟨j + 1, rfl, by omega, by go_num, by rw [HS.out, ← bs_append, ← bs_append]; rfl, rfl⟩
      · rw [if_neg h0] at hs HS
        have hlen := congrArg List.length hs
        simp only [List.length_append] at hlen
        have d1 : decide ((0 : Int) < (j : Int)) = false := by simp; omega
        have d2 : decide (0 < j) = false := by simp; omega
        have hcat : ¬ 9223372036854775807 < (lnTo l j).length + x.length := by omega
        clear hs hlen hle h0
        go_wp2_with fail
        go_roundg (l.length - (j + 1))
        case measure => have := HK.out; omega
        case rel => exact ⟨j + 1, rfl, by omega, by go_num, by rw [HS.out, ← bs_append], rfl⟩
    · obtain rfl : j = l.length := by omega
      go_wp2_with fail
      go_ret
      exact ⟨ret_bs (by simp [lnTo]), rfl⟩
theorem libJoinN (l : List Bytes) : Lib.join l [10] = joinN l := by
  match l with
  | [] => rfl
  | [w] => rw [Lib.join_one]; rfl
  | w :: v :: l =>
    rw [Lib.join_cons, joinN, ← libJoinN (v :: l), Lib.join_cons]
    simp [Lib.joinTail]
theorem joinLn_any (l : List Bytes) (v : Value) (w : World) (hv : SlB w w.heap.size v l) (hl : (joinN l).length ≤ 100000000) (hn : l.length ≤ 100000000) :
    Calls Tryz.prog 80 #[v, .string (bs [10])] w fun e w' => e = .returned (.string (bs (joinN l))) ∧ Below w.heap.size w w' := by
  obtain ⟨A, c, rfl, hc, hm, hh⟩ := hv
  cases l with
  | nil => exact (Tryz.strings_Join_none A c _ w).mono fun e w' ⟨he, hw⟩ => ⟨he, by rw [hw]; exact Below.refl _ _⟩
  | cons a l =>
    obtain ⟨b, o, rfl, hb, hx⟩ := hh (by simp)
    have hd : ((a :: l).map bs).map (·.data.toList) = a :: l := by
      rw [List.map_map]
      conv => rhs; rw [← List.map_id (a :: l)]
      apply List.map_congr_left
      intro x _
      simp [bs_data]
    have h := Tryz.strings_Join b o c ((a :: l).map bs) (bs [10]) w (fun j x hj => by
      rw [List.getElem?_map, Option.map_eq_some_iff] at hj
      obtain ⟨s, hs, rfl⟩ := hj
      have := hx j s hs 0 _ rfl
      simpa using this) hb (by simp at hn ⊢; omega) (by simpa using hc) (by rw [hd, bs_data, libJoinN]; omega)
    rw [hd, bs_data, libJoinN, List.length_map] at h
    exact h
theorem imTextJoin_any (l : List Bytes) (v : Value) (w : World) (hv : SlB w w.heap.size v l) (hl : (joinN l).length ≤ 100000000) (hn : l.length ≤ 100000000) :
    Calls Tryz.prog 46 #[v] w fun e w' => e = .returned (.string (bs (joinN l))) ∧ Below w.heap.size w w' := by
  go_enter Tryz.func46, Tryz.ntmps46
  go_wp2_with fail
  refine (joinLn_any l v w hv hl hn).mono ?_
  rintro e w1 ⟨rfl, hb⟩
  go_wp2_with fail
  go_ret
  exact ⟨rfl, hb⟩
end Go.Proofs.YtgfdakgibjplkaaGreatDoor
