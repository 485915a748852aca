/- Programs' texts. No program in sight. -/
import Derived.Test.YtgakjhaepdigpaaGreatDoorZm21
import Derived.Test.YtgakjhaepdigpaaGreatDoorBas
import Derived.Lib.SplitLaws
import Derived.Lib.IndexBytes
import Derived.Lib.IndexLaws
import Derived.Test.YtgakjhaepdigpaaGreatDoorZm8
import Derived.Test.YtgakjhaepdigpaaGreatDoorWds
import Derived.Test.YtgakjhaepdigpaaGreatDoorStSp
import Derived.Test.YtgakjhaepdigpaaGreatDoorShf
import Derived.Test.YtgakjhaepdigpaaGreatDoorPsT
import Derived.Test.YtgakjhaepdigpaaGreatDoorZm19
import Derived.Test.YtgakjhaepdigpaaGreatDoorZm11
import Derived.Test.YtgakjhaepdigpaaGreatDoorRsI
import Derived.Test.YtgakjhaepdigpaaGreatDoorDwPQ
import Derived.Test.YtgakjhaepdigpaaGreatDoorRdDr
import Derived.Test.YtgakjhaepdigpaaGreatDoorZn1
import Derived.Test.YtgakjhaepdigpaaGreatDoorZn2
import Derived.Test.YtgakjhaepdigpaaGreatDoorZm9
namespace Go.Proofs.YtgakjhaepdigpaaGreatDoor
set_option maxRecDepth 100000
set_option linter.unusedSimpArgs false
set_option linter.unusedVariables false
open Go.RowKit

def joinN : List Bytes → Bytes
  | [] => []
  | [w] => w
  | w :: v :: l => w ++ 10 :: joinN (v :: l)
theorem joinN_cons (w : Bytes) (l : List Bytes) : joinN (w :: l) = w ++ (match l with | [] => [] | v :: l' => 10 :: joinN (v :: l')) := by cases l <;> simp [joinN]
theorem joinN_snoc {l : List Bytes} (w : Bytes) (h : l ≠ []) : joinN (l ++ [w]) = joinN l ++ 10 :: w := by
  induction l with
  | nil => exact absurd rfl h
  | cons a l ih =>
    cases l with
    | nil => rfl
    | cons b l =>
      have := ih (by simp)
      simp only [List.cons_append, joinN] at this ⊢
      rw [this]
      simp
noncomputable def smTxt (s : Sm) : Bytes := if smOkB s then smText s else []
theorem joinN_le (k : Nat) : ∀ l : List Bytes, (∀ w ∈ l, w.length ≤ k) → (joinN l).length ≤ l.length * (k + 1)
  | [], _ => by simp [joinN]
  | [w], h => by have := h w (by simp); simp only [joinN, List.length_cons, List.length_nil]; omega
  | w :: v :: l, h => by
    have h1 := h w (by simp)
    have h2 := joinN_le k (v :: l) (fun x hx => h x (by simp [hx]))
    rw [joinN, List.length_append, List.length_cons, List.length_cons, Nat.add_mul]
    omega
theorem smTxt_len (s : Sm) : (smTxt s).length ≤ 116 := by
  unfold smTxt
  by_cases h : smOkB s = true
  · rw [if_pos h]
    rw [smOkB_form, Bool.and_eq_true, decide_eq_true_eq] at h
    exact h.2
  · rw [if_neg h]; simp
noncomputable def prJoin (l : List Sm) : Bytes := joinN (l.map smTxt)
noncomputable def prTxt (l : List Sm) : Bytes := if progOkB l then prJoin l else []
theorem prJoin_len {l : List Sm} (h : l.length ≤ 16) : (prJoin l).length ≤ 2000 := by
  have := joinN_le 116 (l.map smTxt) (fun w hw => by obtain ⟨s, _, rfl⟩ := List.mem_map.1 hw; exact smTxt_len s)
  rw [List.length_map] at this
  unfold prJoin
  omega
theorem prOk_len {l : List Sm} (h : progOkB l = true) : l.length ≤ 16 := by
  simp only [progOkB, Bool.and_eq_true, decide_eq_true_eq] at h; exact h.2
theorem prOk_all {l : List Sm} (h : progOkB l = true) {i : Nat} {s : Sm} (hs : l[i]? = some s) : smOkB s = true := by
  simp only [progOkB, Bool.and_eq_true, List.all_eq_true] at h; exact h.1.1 s (List.mem_of_getElem? hs)
theorem take_map {l : List Sm} {j : Nat} {s : Sm} (h : l[j]? = some s) : (l.take (j + 1)).map smTxt = (l.take j).map smTxt ++ [smTxt s] := by
  have hi := (List.getElem?_eq_some_iff.1 h).1
  have he : l[j] = s := by rw [List.getElem?_eq_getElem hi] at h; exact Option.some.inj h
  rw [List.take_succ_eq_append_getElem hi, List.map_append, he]
  rfl
end Go.Proofs.YtgakjhaepdigpaaGreatDoor


/- Plain Lean: a text is cut at a byte. No program in sight, no condition. -/
namespace Go.Proofs.YtgakjhaepdigpaaGreatDoor
set_option maxRecDepth 100000
set_option linter.unusedSimpArgs false
set_option linter.unusedVariables false
open Go.RowKit

/-- the pieces between bytes c -/
def cutB (c : UInt8) : Bytes → List Bytes
  | [] => [[]]
  | x :: s => if x = c then [] :: cutB c s else match cutB c s with | [] => [[x]] | r :: rs => (x :: r) :: rs
theorem cutB_ne (c : UInt8) (s : Bytes) : cutB c s ≠ [] := by
  cases s with
  | nil => simp [cutB]
  | cons x s =>
    unfold cutB
    split
    · simp
    · split <;> simp
theorem cutB_ex (c : UInt8) (s : Bytes) : ∃ r rs, cutB c s = r :: rs := by
  cases h : cutB c s with
  | nil => exact absurd h (cutB_ne c s)
  | cons r rs => exact ⟨r, rs, rfl⟩
theorem cutB_self (c : UInt8) (s : Bytes) : cutB c (c :: s) = [] :: cutB c s := by simp [cutB]
theorem cutB_app {c : UInt8} {s : Bytes} {r : Bytes} {rs : List Bytes} (h : cutB c s = r :: rs) : ∀ (x : Bytes), (∀ y ∈ x, y ≠ c) → cutB c (x ++ s) = (x ++ r) :: rs
  | [], _ => h
  | y :: x, hx => by
    have ih := cutB_app h x (fun z hz => hx z (List.mem_cons_of_mem _ hz))
    rw [List.cons_append, cutB, if_neg (hx y (List.mem_cons_self ..)), ih]
    rfl
theorem cutB_none {c : UInt8} {x : Bytes} (hx : ∀ y ∈ x, y ≠ c) : cutB c x = [x] := by
  have := cutB_app (show cutB c [] = [[]] from rfl) x hx
  simpa using this
theorem mem_take_ne {s : Bytes} {c : UInt8} {f i : Nat} (h : ∀ (t : Nat) (x : UInt8), f ≤ t → t < i → s[t]? = some x → x ≠ c) : ∀ y ∈ (s.drop f).take (i - f), y ≠ c := by
  intro y hy
  obtain ⟨k, hk, rfl⟩ := List.mem_iff_getElem.1 hy
  have hk2 := hk
  rw [List.length_take, List.length_drop] at hk2
  refine h (f + k) _ (by omega) (by omega) ?_
  rw [List.getElem_take, List.getElem_drop]
  exact List.getElem?_eq_getElem _
theorem cutB_at {s : Bytes} {c : UInt8} {f i : Nat} (hf : f ≤ i) (hc : s[i]? = some c) (h : ∀ (t : Nat) (x : UInt8), f ≤ t → t < i → s[t]? = some x → x ≠ c) : cutB c (s.drop f) = (s.drop f).take (i - f) :: cutB c (s.drop (i + 1)) := by
  obtain ⟨hi, hg⟩ := List.getElem?_eq_some_iff.1 hc
  have h1 : s.drop f = (s.drop f).take (i - f) ++ c :: s.drop (i + 1) := by
    conv => lhs; rw [← List.take_append_drop (i - f) (s.drop f)]
    rw [List.drop_drop, show f + (i - f) = i by omega, List.drop_eq_getElem_cons hi, hg]
  conv => lhs; rw [h1]
  rw [cutB_app (cutB_self c _) _ (mem_take_ne h)]
  simp
theorem cutB_end {s : Bytes} {c : UInt8} {f : Nat} (h : ∀ (t : Nat) (x : UInt8), f ≤ t → t < s.length → s[t]? = some x → x ≠ c) : cutB c (s.drop f) = [s.drop f] := by
  refine cutB_none ?_
  have := mem_take_ne (f := f) (i := s.length) h
  rw [List.take_of_length_le (by simp)] at this
  exact this
/-- how many pieces -/
theorem cutB_len (c : UInt8) : ∀ s : Bytes, (cutB c s).length = s.count c + 1
  | [] => rfl
  | x :: s => by
    have ih := cutB_len c s
    unfold cutB
    split
    · next h => subst h; simp [ih]
    · next h =>
      obtain ⟨r, rs, e⟩ := cutB_ex c s
      rw [e] at ih ⊢
      simp only [List.length_cons] at ih ⊢
      rw [List.count_cons_of_ne (by simpa using h)]
      exact ih
theorem cutB_mem_len {c : UInt8} : ∀ (s : Bytes) (r : Bytes), r ∈ cutB c s → r.length ≤ s.length
  | [], r, h => by simp [cutB] at h; simp [h]
  | x :: s, r, h => by
    unfold cutB at h
    split at h
    · rw [List.mem_cons] at h
      rcases h with rfl | h
      · simp
      · have := cutB_mem_len s r h
        simp; omega
    · obtain ⟨r0, rs, e⟩ := cutB_ex c s
      rw [e, List.mem_cons] at h
      rcases h with rfl | h
      · have := cutB_mem_len s r0 (by rw [e]; exact List.mem_cons_self ..)
        simp; omega
      · have := cutB_mem_len s r (by rw [e]; exact List.mem_cons_of_mem _ h)
        simp; omega
theorem cutB_no (c : UInt8) : ∀ (s : Bytes) (r : Bytes), r ∈ cutB c s → ∀ y ∈ r, y ≠ c
  | [], r, h, y, hy => by simp [cutB] at h; subst h; simp at hy
  | x :: s, r, h, y, hy => by
    unfold cutB at h
    split at h
    · rw [List.mem_cons] at h
      rcases h with rfl | h
      · simp at hy
      · exact cutB_no c s r h y hy
    · next hx =>
      obtain ⟨r0, rs, e⟩ := cutB_ex c s
      rw [e, List.mem_cons] at h
      rcases h with rfl | h
      · rw [List.mem_cons] at hy
        rcases hy with rfl | hy
        · exact hx
        · exact cutB_no c s r0 (by rw [e]; exact List.mem_cons_self ..) y hy
      · exact cutB_no c s r (by rw [e]; exact List.mem_cons_of_mem _ h) y hy
/-- how much the first pieces hold -/
def sumR (rows : List Bytes) (i : Nat) : Nat := ((rows.take i).map (fun r => r.length + 1)).sum
theorem sumR_zero (rows : List Bytes) : sumR rows 0 = 0 := rfl
theorem sumR_succ {rows : List Bytes} {i : Nat} {r : Bytes} (h : rows[i]? = some r) : sumR rows (i + 1) = sumR rows i + (r.length + 1) := by
  obtain ⟨hi, rfl⟩ := List.getElem?_eq_some_iff.1 h
  unfold sumR
  rw [List.take_succ_eq_append_getElem hi, List.map_append, List.sum_append]
  simp only [List.map_cons, List.map_nil, List.sum_cons, List.sum_nil]
  omega
theorem sumR_le (rows : List Bytes) (i : Nat) : sumR rows i ≤ (rows.map (fun r => r.length + 1)).sum := by
  unfold sumR
  conv => rhs; rw [← List.take_append_drop i rows]
  rw [List.map_append, List.sum_append]
  omega
theorem cutB_sum (c : UInt8) : ∀ s : Bytes, ((cutB c s).map (fun r => r.length + 1)).sum = s.length + 1
  | [] => rfl
  | x :: s => by
    have ih := cutB_sum c s
    unfold cutB
    split
    · simp only [List.map_cons, List.sum_cons, List.length_nil, List.length_cons]; omega
    · obtain ⟨r, rs, e⟩ := cutB_ex c s
      rw [e] at ih ⊢
      simp only [List.map_cons, List.sum_cons, List.length_cons] at ih ⊢
      omega
theorem cutB_sumR (c : UInt8) (s : Bytes) (i : Nat) : sumR (cutB c s) i ≤ s.length + 1 := by
  have := sumR_le (cutB c s) i
  rw [cutB_sum] at this
  exact this
theorem sumR_take (rows : List Bytes) (n i : Nat) (h : i ≤ n) : sumR (rows.take n) i = sumR rows i := by
  unfold sumR
  rw [List.take_take, Nat.min_eq_left h]
/-- the library's pieces are these -/
theorem splitK_cut (c : UInt8) : ∀ (n : Nat) (s : Bytes), s.length ≤ n → Lib.splitK [c] 0 (Lib.count s [c]) s = cutB c s := by
  intro n
  induction n with
  | zero =>
    intro s hs
    obtain rfl : s = [] := by cases s; rfl; simp at hs
    rw [Lib.count_one]
    rfl
  | succ n ih =>
    intro s hs
    rw [Lib.count_one]
    by_cases hm : Lib.indexByte s c = -1
    · have h0 : ∀ y ∈ s, y ≠ c := by
        intro y hy e
        subst e
        obtain ⟨k, hk, rfl⟩ := List.mem_iff_getElem.1 hy
        exact Lib.indexByte_none hm k (List.getElem?_eq_getElem hk)
      rw [cutB_none h0, List.count_eq_zero.2 (fun h => h0 c h rfl)]
      rfl
    · have hge := Lib.indexByte_ge s c
      obtain ⟨i, hi⟩ : ∃ i : Nat, Lib.indexByte s c = i := ⟨(Lib.indexByte s c).toNat, by omega⟩
      obtain ⟨h1, h2⟩ := Lib.indexByte_some hi
      obtain ⟨hil, hg⟩ := List.getElem?_eq_some_iff.1 h1
      have hcut := cutB_at (s := s) (f := 0) (i := i) (Nat.zero_le _) h1 (fun t x _ ht hx e => h2 t ht (by rw [hx, e]))
      rw [List.drop_zero, Nat.sub_zero] at hcut
      have hcnt : s.count c = (s.drop (i + 1)).count c + 1 := by
        have h3 := cutB_len c s
        rw [hcut, List.length_cons, cutB_len] at h3
        omega
      have hd : (s.drop (i + 1)).length ≤ n := by rw [List.length_drop]; omega
      have ih2 := ih (s.drop (i + 1)) hd
      rw [Lib.count_one] at ih2
      rw [hcnt, hcut, ← ih2]
      have hx : Lib.index s [c] = (i : Int) := by rw [Lib.index_one, hi]
      rw [Lib.splitK, hx, if_neg (by simp)]
      simp
end Go.Proofs.YtgakjhaepdigpaaGreatDoor


/- A text is cut at a byte: the reference's walk; the library's. -/
namespace Go.Proofs.YtgakjhaepdigpaaGreatDoor
set_option maxRecDepth 100000
set_option linter.unusedSimpArgs false
set_option linter.unusedVariables false
open Go.RowKit
attribute [local go_sem] bs_toList bs_get bs_size

theorem bs_extS (s : Bytes) (i j : Nat) : (bs s).extract i j = bs ((s.drop i).take (j - i)) := by
  apply ByteArray.ext
  rw [ByteArray.data_extract]
  simp [bs]
set_option maxHeartbeats 1000000 in
theorem spCut_text (s : Bytes) (c : UInt8) (w : World) (hs : s.length ≤ 100000) : Calls Tryz.prog 147 #[.string (bs s), .int .u8 (c.toNat : Int)] w fun e w' => ∃ u, e = .returned u ∧ GtS w.heap.size w' u (cutB c s) ∧ Below w.heap.size w w' := by
  go_enter Tryz.func147, Tryz.ntmps147
  go_wp2_with fail
  go_loopg [5, 6, 7] (s.length + 1) (fun n o f a wr => ∃ (fr i : Nat) (l0 : List Bytes), n = s.length + 1 - i ∧ i ≤ s.length + 1 ∧ a = .int .i64 (i : Int) ∧ f = .int .i64 (fr : Int) ∧ fr ≤ i ∧ GtS w.heap.size wr o l0 ∧ l0.length ≤ i ∧ Below w.heap.size w wr ∧ ((i ≤ s.length ∧ cutB c s = l0 ++ cutB c (s.drop fr) ∧ (∀ (t : Nat) (x : UInt8), fr ≤ t → t < i → s[t]? = some x → x ≠ c)) ∨ (i = s.length + 1 ∧ cutB c s = l0)))
  case atStart => exact ⟨0, 0, [], by omega, by omega, rfl, rfl, by omega, gt_empty strRow 1 9 w _ (Nat.le_refl _) (Below.refl _ _), by simp, by (repeat (first | with_reducible assumption | with_reducible exact Below.refl _ _ | with_reducible refine Below.setCell ?_ (by first | omega | (simp; done) | (simp; omega)) _ | with_reducible refine Below.alloc ?_ (by first | omega | (simp; done) | (simp; omega)) _ | with_reducible refine below_drewN ?_ _ | with_reducible refine Below.drew ?_)), .inl ⟨by omega, by simp, fun t x h1 h2 => by omega⟩⟩
  case round =>
    obtain ⟨fr, i, l0, hn, hi, rfl, rfl, hfi, hG, hl0, hbl, hor⟩ := hrel
    have HN := Lib.hid hn
    clear hn
    rcases hor with ⟨hle, hcut, hno⟩ | ⟨hend, hcut⟩
    · have HC := Lib.hid (And.intro hcut hno)
      clear hcut hno
      by_cases hlt : i < s.length
      · have hne : ((i : Int) == ((s.length : Nat) : Int)) = false := by rw [beq_eq_false_iff_ne]; omega
        have hne2 : ¬ i = s.length := by omega
        by_cases hc : s[i] = c
        · have hq : s[i].toNat = c.toNat := by rw [hc]
          have hq2 : ((s[i].toNat : Int) == (c.toNat : Int)) = true := by simp [hq]
          have HX := Lib.hid (cutB_at hfi (show s[i]? = some c by rw [List.getElem?_eq_getElem hlt, hc]) HC.out.2)
          have hx : (bs s).extract fr i = bs ((s.drop fr).take (i - fr)) := bs_extS s fr i
          generalize (s.drop fr).take (i - fr) = pc at *
          obtain ⟨Au, cu, rfl, _, _⟩ := hG.val
          have HG := Lib.hid hG
          have hz := hbl.size
          clear hc hG
          go_wp2_with (first | (at_builtin; refine app_plain rtStr (by rfl) (.tmp 26) (.tmp 31) (by rfl) w.heap.size (.slice Au l0.length cu) l0 (by rfl) (HG.out.ext (by (repeat (first | with_reducible assumption | with_reducible exact Below.refl _ _ | with_reducible refine Below.setCell ?_ (by first | omega | (simp; done) | (simp; omega)) _ | with_reducible refine Below.alloc ?_ (by first | omega | (simp; done) | (simp; omega)) _ | with_reducible refine below_drewN ?_ _ | with_reducible refine Below.drew ?_)))) ⟨wr.heap.size, 0, none⟩ 1 [pc] (by rfl) (World.news_of_block (heap_alloc_new wr _)) Nat.zero_lt_one (by simp; omega) (by simp; omega) ?_; intro g' cap' w3 hG3 hgr3 hat3) | fail)
          go_roundg (s.length + 1 - (i + 1))
          case measure => have := HN.out; omega
          case rel => exact ⟨i + 1, i + 1, _, rfl, by omega, by go_num, by go_num, by omega, hG3.len (by simp) rfl, by simp; omega, below_app (by (repeat (first | with_reducible assumption | with_reducible exact Below.refl _ _ | with_reducible refine Below.setCell ?_ (by first | omega | (simp; done) | (simp; omega)) _ | with_reducible refine Below.alloc ?_ (by first | omega | (simp; done) | (simp; omega)) _ | with_reducible refine below_drewN ?_ _ | with_reducible refine Below.drew ?_ | with_reducible refine Below.trans ?_ (Below.mono hbl (by first | omega | (simp; done) | (simp; omega)))))) hgr3 (fun q hq => (HG.out.lt hq).1) (by simp; omega), .inl ⟨by omega, by rw [HC.out.1, HX.out]; simp, fun t x h1 h2 => by omega⟩⟩
        · have HQ := Lib.hid hc
          have hq : ¬ s[i].toNat = c.toNat := fun h => hc (UInt8.toNat_inj.1 h)
          have hq2 : ((s[i].toNat : Int) == (c.toNat : Int)) = false := by simp; omega
          have HG := Lib.hid (And.intro hG hbl)
          clear hc hG hbl
          go_wp2_with fail
          go_roundg (s.length + 1 - (i + 1))
          case measure => have := HN.out; omega
          case rel => exact ⟨fr, i + 1, l0, rfl, by omega, by go_num, rfl, by omega, HG.out.1, by omega, HG.out.2, .inl ⟨by omega, HC.out.1, fun t x h1 h2 hx => by
            by_cases e : t = i
            · subst e
              rw [List.getElem?_eq_getElem hlt] at hx
              obtain rfl := Option.some.inj hx
              exact HQ.out
            · exact HC.out.2 t x h1 (by omega) hx⟩⟩
      · have hie : i = s.length := by omega
        have hne : ((i : Int) == ((s.length : Nat) : Int)) = true := by rw [beq_iff_eq]; omega
        have HX := Lib.hid (cutB_end (s := s) (c := c) (f := fr) (fun t x h1 h2 => HC.out.2 t x h1 (by omega)))
        have hx : (bs s).extract fr i = bs (s.drop fr) := by rw [bs_extS, List.take_of_length_le (by simp; omega)]
        generalize s.drop fr = pc at *
        obtain ⟨Au, cu, rfl, _, _⟩ := hG.val
        have HG := Lib.hid hG
        have hz := hbl.size
        have HI := Lib.hid hie
        clear hG hie
        go_wp2_with (first | (at_builtin; refine app_plain rtStr (by rfl) (.tmp 26) (.tmp 31) (by rfl) w.heap.size (.slice Au l0.length cu) l0 (by rfl) (HG.out.ext (by (repeat (first | with_reducible assumption | with_reducible exact Below.refl _ _ | with_reducible refine Below.setCell ?_ (by first | omega | (simp; done) | (simp; omega)) _ | with_reducible refine Below.alloc ?_ (by first | omega | (simp; done) | (simp; omega)) _ | with_reducible refine below_drewN ?_ _ | with_reducible refine Below.drew ?_)))) ⟨wr.heap.size, 0, none⟩ 1 [pc] (by rfl) (World.news_of_block (heap_alloc_new wr _)) Nat.zero_lt_one (by simp; omega) (by simp; omega) ?_; intro g' cap' w3 hG3 hgr3 hat3) | fail)
        go_roundg (s.length + 1 - (i + 1))
        case measure => have := HN.out; omega
        case rel => exact ⟨i + 1, i + 1, _, rfl, by omega, by go_num, by go_num, by omega, hG3.len (by simp) rfl, by simp; omega, below_app (by (repeat (first | with_reducible assumption | with_reducible exact Below.refl _ _ | with_reducible refine Below.setCell ?_ (by first | omega | (simp; done) | (simp; omega)) _ | with_reducible refine Below.alloc ?_ (by first | omega | (simp; done) | (simp; omega)) _ | with_reducible refine below_drewN ?_ _ | with_reducible refine Below.drew ?_ | with_reducible refine Below.trans ?_ (Below.mono hbl (by first | omega | (simp; done) | (simp; omega)))))) hgr3 (fun q hq => (HG.out.lt hq).1) (by simp; omega), .inr ⟨by have := HI.out; omega, by rw [HC.out.1, HX.out]⟩⟩
    · have HC := Lib.hid hcut
      have HI := Lib.hid hend
      have hgt : ¬ i ≤ s.length := by omega
      clear hcut hend
      go_wp2_with fail
      go_ret
      exact ⟨_, rfl, by rw [HC.out]; exact hG, hbl⟩
/-- the cell that the library reads ahead of a search -/
def MaxM (w : World) : Prop := ∃ m : Int, w.cell? ⟨1, 0, none⟩ = some (.int .i64 m)
theorem MaxM.keep {w w' : World} {B : Nat} (h : MaxM w) (hb : Below B w w') (hB : w.heap.size ≤ B) : MaxM w' := by
  obtain ⟨m, hm⟩ := h
  exact ⟨m, (hb.cell (p := ⟨_, 0, none⟩) (Nat.lt_of_lt_of_le (World.block_lt_of_cell? _ _ hm) hB)).trans hm⟩
theorem MaxM.ext {w w' : World} (h : MaxM w) (hb : Ext w w') : MaxM w' := h.keep hb (Nat.le_refl _)
theorem imSplit_any (s : Bytes) (c : UInt8) (w : World) (hs : s.length ≤ 100000000) (hm : MaxM w) : Calls Tryz.prog 99 #[.string (bs s), .string (bs [c])] w fun e w' => ∃ u, e = .returned u ∧ Fr strRow 1 9 w' w.heap.size u (cutB c s) ∧ Below w.heap.size w w' := by
  obtain ⟨m, hm⟩ := hm
  have h : Calls Tryz.prog 99 #[.string (bs s), .string (bs [c])] w fun e w' => e = .returned (.slice (some ⟨w.heap.size, 0, none⟩) (Lib.countB (bs s) (bs [c]) + 1) (Lib.countB (bs s) (bs [c]) + 1)) ∧ w' = w.alloc (.cells ((Lib.splitB (bs [c]) 0 (Lib.countB (bs s) (bs [c])) (bs s)).map Value.string).toArray 9) :=
    Any.strings_Split { Tryz.laysM146 with } Tryz.laysM146.i9 (bs s) (bs [c]) m w (by rw [bs_size]; omega) hm (by rw [bs_size]; simp)
  have e1 : Lib.countB (bs s) (bs [c]) = Lib.count s [c] := by
    show Lib.count (bs s).data.toList (bs [c]).data.toList = _
    rw [bs_data, bs_data]
  have e2 : (Lib.splitB (bs [c]) 0 (Lib.count s [c]) (bs s)).map (fun x => x.data.toList) = cutB c s := by
    rw [Lib.splitB_data, bs_data, bs_data, splitK_cut c s.length s (Nat.le_refl _)]
  have e3 : Lib.splitB (bs [c]) 0 (Lib.count s [c]) (bs s) = (cutB c s).map bs := by
    rw [← e2, List.map_map]
    conv => lhs; rw [← List.map_id (Lib.splitB (bs [c]) 0 (Lib.count s [c]) (bs s))]
    apply List.map_congr_left
    intro x _
    exact (bs_of x).symm
  have e4 : Lib.count s [c] + 1 = (cutB c s).length := by rw [Lib.count_one, cutB_len]
  have e5 : (cutB c s).length ≤ maxLen := by
    rw [← e4, Lib.count_one]
    have := List.count_le_length (a := c) (l := s)
    unfold maxLen
    omega
  rw [e1, e3, e4] at h
  refine h.mono ?_
  rintro e w' ⟨rfl, rfl⟩
  refine ⟨_, rfl, .inr ⟨w.heap.size, (cutB c s).length, _, rfl, Nat.le_refl _, Nat.le_refl _, e5, Blk.new _ _ _, fun i x hx j v hv => ?_⟩, (Below.refl _ _).alloc (Nat.le_refl _) _⟩
  have hj : j = 0 := by have := (List.getElem?_eq_some_iff.1 hv).1; simp [strRow] at this; omega
  subst hj
  simp [strRow] at hv
  subst hv
  simp [hx]
end Go.Proofs.YtgakjhaepdigpaaGreatDoor


/- Plain Lean: which lines a text has, and which program they are. No program in sight, no condition. -/
namespace Go.Proofs.YtgakjhaepdigpaaGreatDoor
set_option maxRecDepth 100000
set_option linter.unusedSimpArgs false
set_option linter.unusedVariables false
open Go.RowKit

def wideB : Nat → Bytes → Bool
  | _, [] => true
  | n, c :: s => if c = 10 then wideB 0 s else decide (32 ≤ c.toNat) && decide (c.toNat ≤ 126) && decide (n + 1 ≤ 120) && wideB (n + 1) s
/-- a text is ok -/
def txOkB (s : Bytes) : Bool := wideB 0 s && decide (s.length ≤ 4000)
def linesB (s : Bytes) : List Bytes := if txOkB s then cutB 10 s else []
/-- a text is one of a program -/
noncomputable def rdPOk (s : Bytes) : Bool := (linesB s).all rdSOk && decide (1 ≤ (linesB s).length) && decide ((linesB s).length ≤ 16)
noncomputable def rdPs (s : Bytes) : List Sm := if rdPOk s then (linesB s).map rdSm else []

theorem joinN_cut (c : UInt8) (hc : c = 10) : ∀ s : Bytes, joinN (cutB c s) = s
  | [] => rfl
  | x :: s => by
    have ih := joinN_cut c hc s
    obtain ⟨r, rs, h⟩ := cutB_ex c s
    unfold cutB
    split
    · rename_i hx
      rw [h] at ih
      rw [h, joinN, ih, hx, hc]
      rfl
    · rw [h]
      rw [h] at ih
      simp only
      rw [joinN_cons] at ih ⊢
      rw [← ih]
      rfl
theorem joinN_append {l m : List Bytes} (hl : l ≠ []) (hm : m ≠ []) : joinN (l ++ m) = joinN l ++ 10 :: joinN m := by
  induction l with
  | nil => exact absurd rfl hl
  | cons a l ih =>
    cases l with
    | nil =>
      cases m with
      | nil => exact absurd rfl hm
      | cons b m => rfl
    | cons b l =>
      have := ih (by simp)
      simp only [List.cons_append, joinN] at this ⊢
      rw [this]
      simp
/-- a line that can be one of a text -/
def lineB (x : Bytes) : Prop := (∀ c ∈ x, 32 ≤ c.toNat ∧ c.toNat ≤ 126) ∧ x.length ≤ 120
theorem ten_ne {c : UInt8} (h : 32 ≤ c.toNat) : c ≠ 10 := fun e => by subst e; revert h; decide
theorem wideB_line : ∀ (x s : Bytes) (n : Nat), (∀ c ∈ x, 32 ≤ c.toNat ∧ c.toNat ≤ 126) → n + x.length ≤ 120 → wideB n (x ++ s) = wideB (n + x.length) s
  | [], s, n, _, _ => by simp
  | c :: x, s, n, h, hn => by
    have hc := h c (List.mem_cons_self ..)
    simp only [List.length_cons] at hn
    rw [List.cons_append, wideB, if_neg (ten_ne hc.1), wideB_line x s (n + 1) (fun d hd => h d (List.mem_cons_of_mem _ hd)) (by omega), decide_eq_true hc.1, decide_eq_true hc.2, decide_eq_true (show n + 1 ≤ 120 by omega)]
    simp only [Bool.true_and, List.length_cons]
    congr 1
    omega
theorem lines_join : ∀ (ls : List Bytes), ls ≠ [] → (∀ x ∈ ls, lineB x) → wideB 0 (joinN ls) = true ∧ cutB 10 (joinN ls) = ls
  | [], h, _ => absurd rfl h
  | [x], _, h => by
    have hx := h x (by simp)
    have h1 := wideB_line x [] 0 hx.1 (by have := hx.2; omega)
    rw [List.append_nil] at h1
    exact ⟨by rw [joinN, h1]; rfl, by rw [joinN]; exact cutB_none (fun y hy => ten_ne (hx.1 y hy).1)⟩
  | x :: y :: ls, _, h => by
    have hx := h x (by simp)
    obtain ⟨h2, h3⟩ := lines_join (y :: ls) (by simp) (fun z hz => h z (List.mem_cons_of_mem _ hz))
    have h1 := wideB_line x (10 :: joinN (y :: ls)) 0 hx.1 (by have := hx.2; omega)
    refine ⟨?_, ?_⟩
    · rw [joinN, h1, wideB, if_pos rfl, h2]
    · rw [joinN]
      have := cutB_app (show cutB 10 (10 :: joinN (y :: ls)) = [] :: (y :: ls) by rw [cutB_self, h3]) x (fun z hz => ten_ne (hx.1 z hz).1)
      rw [this, List.append_nil]
theorem linesB_join {ls : List Bytes} (h0 : ls ≠ []) (hn : ls.length ≤ 33) (h : ∀ x ∈ ls, lineB x) : linesB (joinN ls) = ls := by
  obtain ⟨h1, h2⟩ := lines_join ls h0 h
  have h3 := joinN_le 120 ls (fun w hw => (h w hw).2)
  unfold linesB
  rw [if_pos (by unfold txOkB; rw [h1, decide_eq_true (by omega)]; rfl), h2]
theorem isLet_lim {c : UInt8} (h : isLet c = true) : 32 < c.toNat ∧ c.toNat ≤ 126 := by
  simp only [isLet, Bool.and_eq_true, decide_eq_true_eq] at h
  omega
theorem kind_lim {w : Bytes} (h : kindL w ≠ 0) : ∀ c ∈ w, 32 ≤ c.toNat ∧ c.toNat ≤ 126 := by
  intro c hm
  unfold kindL at h
  by_cases h1 : wordB w = true
  · simp only [wordB, Bool.and_eq_true, List.all_eq_true] at h1
    have := isLet_lim (h1.1.1 c hm)
    omega
  · rw [if_neg h1] at h
    by_cases h2 : numB w = true
    · simp only [numB, Bool.and_eq_true, List.all_eq_true] at h2
      have := h2.1.1.1.1 c hm
      simp only [isDig, Bool.and_eq_true, decide_eq_true_eq] at this
      omega
    · rw [if_neg h2] at h
      by_cases h3 : markB w = true
      · obtain ⟨d, hd, rfl⟩ := markB_iff.1 h3
        simp only [List.mem_singleton] at hm
        subst hm
        revert hd
        simp only [List.mem_cons, List.not_mem_nil, or_false]
        rintro (rfl | rfl | rfl | rfl | rfl | rfl | rfl | rfl) <;> decide
      · rw [if_neg h3] at h
        exact absurd rfl h
theorem joinL_lim : ∀ (l : List Bytes), (∀ w ∈ l, ∀ c ∈ w, 32 ≤ c.toNat ∧ c.toNat ≤ 126) → ∀ c ∈ joinL l, 32 ≤ c.toNat ∧ c.toNat ≤ 126
  | [], _, c, hc => by simp [joinL] at hc
  | [w], h, c, hc => by
    rw [joinL] at hc
    exact h w (by simp) c hc
  | w :: v :: l, h, c, hc => by
    rw [joinL, List.mem_append, List.mem_cons] at hc
    rcases hc with hc | rfl | hc
    · exact h w (by simp) c hc
    · decide
    · exact joinL_lim (v :: l) (fun x hx => h x (List.mem_cons_of_mem _ hx)) c hc
theorem smTxt_line (s : Sm) : lineB (smTxt s) := by
  refine ⟨?_, by have := smTxt_len s; omega⟩
  unfold smTxt
  by_cases h : smOkB s = true
  · rw [if_pos h]
    obtain ⟨t, rfl, ht⟩ := smOkB_iff.1 h
    rw [smText_se ht.1]
    exact joinL_lim _ (fun w hw => kind_lim (SE.words_kind' t ht.1 w hw))
  · rw [if_neg h]
    intro c hc
    cases hc
theorem smTxt_ok {s : Sm} (h : smOkB s = true) : smTxt s = smText s := if_pos h
theorem all_ok {l : List Sm} (h : progOkB l = true) : ∀ s ∈ l, smOkB s = true := by
  simp only [progOkB, Bool.and_eq_true, List.all_eq_true] at h
  exact h.1.1
theorem rdPOk_lines {s : Bytes} {l : List Sm} {ls : List Bytes} (h : linesB s = l.map smTxt ++ ls) (hl : ∀ x ∈ l, smOkB x = true) : rdPOk s = (ls.all rdSOk && decide (1 ≤ l.length + ls.length) && decide (l.length + ls.length ≤ 16)) := by
  unfold rdPOk
  rw [h, List.all_append, List.length_append, List.length_map]
  have : (l.map smTxt).all rdSOk = true := by
    rw [List.all_eq_true]
    intro x hx
    obtain ⟨s, hs, rfl⟩ := List.mem_map.1 hx
    rw [smTxt_ok (hl s hs)]
    exact (rdSOk_of (hl s hs)).1
  rw [this, Bool.true_and]
/-- what is written is read back -/
theorem rdP_txt {l : List Sm} (h : progOkB l = true) : linesB (prTxt l) = l.map smTxt ∧ rdPOk (prTxt l) = true ∧ rdPs (prTxt l) = l := by
  have h0 := h
  simp only [progOkB, Bool.and_eq_true, decide_eq_true_eq] at h0
  have h1 : linesB (prTxt l) = l.map smTxt := by
    unfold prTxt
    rw [if_pos h]
    exact linesB_join (fun e => by rw [List.map_eq_nil_iff] at e; subst e; simp at h0) (by rw [List.length_map]; omega) (fun x hx => by obtain ⟨s, _, rfl⟩ := List.mem_map.1 hx; exact smTxt_line s)
  have h2 : rdPOk (prTxt l) = true := by
    rw [rdPOk_lines (ls := []) (by rw [h1, List.append_nil]) (all_ok h), decide_eq_true (show 1 ≤ l.length + [].length by simpa using h0.1.2), decide_eq_true (show l.length + [].length ≤ 16 by simpa using h0.2)]
    rfl
  refine ⟨h1, h2, ?_⟩
  unfold rdPs
  rw [if_pos h2, h1, List.map_map]
  conv => rhs; rw [← List.map_id l]
  refine List.map_congr_left (fun s hs => ?_)
  rw [Function.comp_apply, smTxt_ok (all_ok h s hs), (rdSOk_of (all_ok h s hs)).2, id]
/-- what is read is written as it stood -/
theorem rdP_back {s : Bytes} (h : rdPOk s = true) : progOkB (rdPs s) = true ∧ prTxt (rdPs s) = s := by
  have h0 := h
  unfold rdPOk at h0
  simp only [Bool.and_eq_true, List.all_eq_true, decide_eq_true_eq] at h0
  have h1 : progOkB (rdPs s) = true := by
    unfold rdPs
    rw [if_pos h]
    simp only [progOkB, Bool.and_eq_true, List.all_eq_true, decide_eq_true_eq, List.length_map]
    refine ⟨⟨fun x hx => ?_, h0.1.2⟩, h0.2⟩
    obtain ⟨y, hy, rfl⟩ := List.mem_map.1 hx
    exact (rdSm_of (h0.1.1 y hy)).1
  refine ⟨h1, ?_⟩
  have h2 : (rdPs s).map smTxt = linesB s := by
    unfold rdPs
    rw [if_pos h, List.map_map]
    conv => rhs; rw [← List.map_id (linesB s)]
    refine List.map_congr_left (fun y hy => ?_)
    rw [Function.comp_apply, smTxt_ok (rdSm_of (h0.1.1 y hy)).1, (rdSm_of (h0.1.1 y hy)).2, id]
  unfold prTxt prJoin
  rw [if_pos h1, h2]
  unfold linesB at h0 ⊢
  by_cases ht : txOkB s = true
  · rw [if_pos ht]; exact joinN_cut 10 rfl s
  · rw [if_neg ht] at h0; simp at h0
theorem rdPs_no {s : Bytes} (h : rdPOk s = false) : rdPs s = [] := by
  unfold rdPs
  rw [h]
  rfl
theorem prTxt_map {l : List Sm} (h : progOkB l = true) : prTxt l = joinN (l.map smTxt) ∧ l.map smTxt ≠ [] ∧ l.length ≤ 16 ∧ 1 ≤ l.length ∧ ∀ x ∈ l.map smTxt, lineB x := by
  have h0 := h
  simp only [progOkB, Bool.and_eq_true, decide_eq_true_eq] at h0
  exact ⟨if_pos h, fun e => by rw [List.map_eq_nil_iff] at e; subst e; simp at h0, h0.2, h0.1.2, fun x hx => by obtain ⟨s, _, rfl⟩ := List.mem_map.1 hx; exact smTxt_line s⟩
/-- two programs' texts with a newline between -/
theorem rdP_cat {a b : List Sm} (ha : progOkB a = true) (hb : progOkB b = true) : rdPOk (prTxt a ++ 10 :: prTxt b) = progOkB (a ++ b) := by
  obtain ⟨a1, a2, a3, a4, a5⟩ := prTxt_map ha
  obtain ⟨b1, b2, b3, b4, b5⟩ := prTxt_map hb
  have h1 : linesB (prTxt a ++ 10 :: prTxt b) = (a ++ b).map smTxt := by
    rw [a1, b1, ← joinN_append a2 b2, List.map_append]
    exact linesB_join (by simp [a2]) (by simp only [List.length_append, List.length_map]; omega) (fun x hx => by rw [List.mem_append] at hx; rcases hx with hx | hx; exact a5 x hx; exact b5 x hx)
  have hall : ∀ x ∈ a ++ b, smOkB x = true := fun x hx => by
    rw [List.mem_append] at hx
    rcases hx with hx | hx
    · exact all_ok ha x hx
    · exact all_ok hb x hx
  rw [rdPOk_lines (ls := []) (by rw [h1, List.append_nil]) hall]
  unfold progOkB
  rw [List.all_eq_true.2 hall]
  rfl
theorem line_nil : rdSOk [] = true := by
  have := (rdSOk_of (s := SE.none.sm) (smOkB_yes (s := SE.none) ⟨trivial, by decide⟩)).1
  rw [smText_se (t := SE.none) trivial] at this
  exact this
theorem line_say : rdSOk cSay = false := by
  cases hr : rdS cSay with
  | none => unfold rdSOk; rw [hr]; rfl
  | some t =>
    exfalso
    obtain ⟨h1, h2⟩ := rdS_iff.1 hr
    have h3 := tok_join t.words 0 (SE.words_kind' t h1.1)
    have h4 := tok_join [cSay] 0 (fun w hw => by rw [List.mem_singleton] at hw; subst hw; decide)
    unfold SE.text at h2
    rw [h2, show cSay = joinL [cSay] from rfl, h4] at h3
    have h5 := congrArg (List.map Tk.s) (Option.some.inj h3)
    rw [toks_words, toks_words] at h5
    have h6 := congrArg List.length h5
    rcases t.words_head with ⟨rfl, h7⟩ | ⟨nm, ty, e, rfl⟩ | ⟨e, rfl⟩ | ⟨a, b, rfl⟩
    · rw [h7] at h6; simp at h6
    · simp [SE.words] at h6
    · have := E.words_pos e 1
      simp [SE.words] at h6
      rw [h6] at this
      simp at this
    · simp [SE.words] at h6
/-- with one more line -/
theorem rdP_more {a : List Sm} (ha : progOkB a = true) (x : Bytes) (hx : lineB x) : linesB (prTxt a ++ 10 :: x) = a.map smTxt ++ [x] ∧ rdPOk (prTxt a ++ 10 :: x) = (rdSOk x && decide (a.length < 16)) := by
  obtain ⟨a1, a2, a3, a4, a5⟩ := prTxt_map ha
  have h1 : linesB (prTxt a ++ 10 :: x) = a.map smTxt ++ [x] := by
    rw [a1, ← joinN_snoc x a2]
    exact linesB_join (by simp) (by simp only [List.length_append, List.length_map, List.length_singleton]; omega) (fun y hy => by rw [List.mem_append, List.mem_singleton] at hy; rcases hy with hy | rfl; exact a5 y hy; exact hx)
  refine ⟨h1, ?_⟩
  rw [rdPOk_lines h1 (all_ok ha)]
  have e1 : decide (1 ≤ a.length + [x].length) = true := decide_eq_true (by simp)
  have e2 : decide (a.length + [x].length ≤ 16) = decide (a.length < 16) := by simp only [List.length_singleton]; rfl
  rw [e1, e2]
  simp
theorem rdP_say {a : List Sm} (ha : progOkB a = true) : rdPOk (prTxt a ++ 10 :: cSay) = false := by
  rw [(rdP_more ha cSay ⟨by decide, by decide⟩).2, line_say]
  rfl
theorem rdP_nil {a : List Sm} (ha : progOkB a = true) : rdPOk (prTxt a ++ [10]) = decide (a.length < 16) := by
  rw [(rdP_more ha [] ⟨by decide, by decide⟩).2, line_nil]
  rfl
end Go.Proofs.YtgakjhaepdigpaaGreatDoor


/- Whether a text is ok, and its lines: the program's walk, the reference's. -/
namespace Go.Proofs.YtgakjhaepdigpaaGreatDoor
set_option maxRecDepth 100000
set_option linter.unusedSimpArgs false
set_option linter.unusedVariables false
open Go.RowKit
attribute [local go_sem] bs_toList bs_get bs_size

theorem wide_step {s : Bytes} {i n : Nat} (h : i < s.length) : wideB n (s.drop i) = if s[i] = 10 then wideB 0 (s.drop (i + 1)) else decide (32 ≤ s[i].toNat) && decide (s[i].toNat ≤ 126) && decide (n + 1 ≤ 120) && wideB (n + 1) (s.drop (i + 1)) := by
  rw [List.drop_eq_getElem_cons h, wideB]
set_option maxHeartbeats 2000000 in
theorem imTextOk_any (s : Bytes) (w : World) (hs : s.length ≤ 100000000) : Calls Tryz.prog 98 #[.string (bs s)] w fun e w' => e = .returned (.bool (txOkB s)) ∧ w = w' := by
  go_enter Tryz.func98, Tryz.ntmps98
  go_wp2_with fail
  go_loopg [3, 7] s.length (fun k a p wr => ∃ (i n : Nat), k = s.length - i ∧ i ≤ s.length ∧ p = .int .i64 (i : Int) ∧ a = .int .i64 (n : Int) ∧ n ≤ 120 ∧ wideB 0 s = wideB n (s.drop i) ∧ wr = w)
  case atStart => exact ⟨0, 0, by omega, by omega, rfl, rfl, by omega, by simp, rfl⟩
  case round =>
        obtain ⟨i, n, hk, hi, rfl, rfl, hn, hW, rfl⟩ := hrel
        by_cases hlt : i < s.length
        · have HX := Lib.hid (And.intro hk (hW.trans (wide_step hlt)))
          clear hk hW
          by_cases hc : s[i] = 10
          · have hq : s[i].toNat = 10 := by rw [hc]; rfl
            have hq2 : ((s[i].toNat : Int) == 10) = true := by simp [hq]
            have hq3 : ((s[i].toNat : Int) != 10) = false := by simp [hq]
            have HC := Lib.hid hc
            clear hc
            go_wp2_with fail
            go_roundg (s.length - (i + 1))
            case measure => have := HX.out.1; omega
            case rel => exact ⟨i + 1, 0, rfl, by omega, by go_num, rfl, by omega, by rw [HX.out.2, if_pos HC.out], rfl⟩
          · have hq : ¬ s[i].toNat = 10 := fun e => hc (UInt8.toNat_inj.1 e)
            have hq2 : ((s[i].toNat : Int) == 10) = false := by rw [beq_eq_false_iff_ne]; omega
            have hq3 : ((s[i].toNat : Int) != 10) = true := by rw [bne_iff_ne]; omega
            have HC := Lib.hid hc
            clear hc
            by_cases h1 : s[i].toNat < 32
            · have h1' : decide ((s[i].toNat : Int) < 32) = true := by rw [decide_eq_true_eq]; omega
              go_wp2_with fail
              go_ret
              exact ⟨ret_bool (by unfold txOkB; rw [HX.out.2, if_neg HC.out, decide_eq_false (show ¬ 32 ≤ s[i].toNat by omega)]; rfl), rfl⟩
            have h1' : decide ((s[i].toNat : Int) < 32) = false := by rw [decide_eq_false_iff_not]; omega
            by_cases h2 : 126 < s[i].toNat
            · have h2' : decide ((126 : Int) < (s[i].toNat : Int)) = true := by rw [decide_eq_true_eq]; omega
              go_wp2_with fail
              go_ret
              exact ⟨ret_bool (by unfold txOkB; rw [HX.out.2, if_neg HC.out, decide_eq_false (show ¬ s[i].toNat ≤ 126 by omega), Bool.and_false, Bool.false_and]; rfl), rfl⟩
            have h2' : decide ((126 : Int) < (s[i].toNat : Int)) = false := by rw [decide_eq_false_iff_not]; omega
            by_cases h3 : 120 < n + 1
            · have h3' : decide ((120 : Int) < (n : Int) + 1) = true := by rw [decide_eq_true_eq]; omega
              go_wp2_with fail
              go_ret
              exact ⟨ret_bool (by unfold txOkB; rw [HX.out.2, if_neg HC.out, decide_eq_false (show ¬ n + 1 ≤ 120 by omega), Bool.and_false, Bool.false_and]; rfl), rfl⟩
            have h3' : decide ((120 : Int) < (n : Int) + 1) = false := by rw [decide_eq_false_iff_not]; omega
            go_wp2_with fail
            go_roundg (s.length - (i + 1))
            case measure => have := HX.out.1; omega
            case rel => exact ⟨i + 1, n + 1, rfl, by omega, by go_num, by go_num, by omega, by rw [HX.out.2, if_neg HC.out, decide_eq_true (show 32 ≤ s[i].toNat by omega), decide_eq_true (show s[i].toNat ≤ 126 by omega), decide_eq_true (show n + 1 ≤ 120 by omega)]; rfl, rfl⟩
        · obtain rfl : i = s.length := by omega
          have HX := Lib.hid (show wideB 0 s = true by rw [hW, List.drop_length]; rfl)
          clear hW
          go_wp2_with fail
          go_ret
          exact ⟨ret_bool (by unfold txOkB; rw [HX.out, Bool.true_and, Bool.eq_iff_iff]; simp; omega), rfl⟩
set_option maxHeartbeats 2000000 in
theorem spTextOk_any (s : Bytes) (w : World) (hs : s.length ≤ 100000000) : Calls Tryz.prog 146 #[.string (bs s)] w fun e w' => e = .returned (.bool (txOkB s)) ∧ w = w' := by
  go_enter Tryz.func146, Tryz.ntmps146
  go_wp2_with fail
  go_loopg [3, 4] s.length (fun k a p wr => ∃ (i n : Nat), k = s.length - i ∧ i ≤ s.length ∧ p = .int .i64 (i : Int) ∧ a = .int .i64 (n : Int) ∧ n ≤ 120 ∧ wideB 0 s = wideB n (s.drop i) ∧ wr = w)
  case atStart => exact ⟨0, 0, by omega, by omega, rfl, rfl, by omega, by simp, rfl⟩
  case round =>
        obtain ⟨i, n, hk, hi, rfl, rfl, hn, hW, rfl⟩ := hrel
        by_cases hlt : i < s.length
        · have HX := Lib.hid (And.intro hk (hW.trans (wide_step hlt)))
          clear hk hW
          by_cases hc : s[i] = 10
          · have hq : s[i].toNat = 10 := by rw [hc]; rfl
            have hq2 : ((s[i].toNat : Int) == 10) = true := by simp [hq]
            have hq3 : ((s[i].toNat : Int) != 10) = false := by simp [hq]
            have HC := Lib.hid hc
            clear hc
            go_wp2_with fail
            go_roundg (s.length - (i + 1))
            case measure => have := HX.out.1; omega
            case rel => exact ⟨i + 1, 0, rfl, by omega, by go_num, rfl, by omega, by rw [HX.out.2, if_pos HC.out], rfl⟩
          · have hq : ¬ s[i].toNat = 10 := fun e => hc (UInt8.toNat_inj.1 e)
            have hq2 : ((s[i].toNat : Int) == 10) = false := by rw [beq_eq_false_iff_ne]; omega
            have hq3 : ((s[i].toNat : Int) != 10) = true := by rw [bne_iff_ne]; omega
            have HC := Lib.hid hc
            clear hc
            by_cases h1 : s[i].toNat < 32
            · have h1' : decide ((s[i].toNat : Int) < 32) = true := by rw [decide_eq_true_eq]; omega
              go_wp2_with fail
              go_ret
              exact ⟨ret_bool (by unfold txOkB; rw [HX.out.2, if_neg HC.out, decide_eq_false (show ¬ 32 ≤ s[i].toNat by omega)]; rfl), rfl⟩
            have h1' : decide ((s[i].toNat : Int) < 32) = false := by rw [decide_eq_false_iff_not]; omega
            by_cases h2 : 126 < s[i].toNat
            · have h2' : decide ((126 : Int) < (s[i].toNat : Int)) = true := by rw [decide_eq_true_eq]; omega
              go_wp2_with fail
              go_ret
              exact ⟨ret_bool (by unfold txOkB; rw [HX.out.2, if_neg HC.out, decide_eq_false (show ¬ s[i].toNat ≤ 126 by omega), Bool.and_false, Bool.false_and]; rfl), rfl⟩
            have h2' : decide ((126 : Int) < (s[i].toNat : Int)) = false := by rw [decide_eq_false_iff_not]; omega
            by_cases h3 : 120 < n + 1
            · have h3' : decide ((120 : Int) < (n : Int) + 1) = true := by rw [decide_eq_true_eq]; omega
              go_wp2_with fail
              go_ret
              exact ⟨ret_bool (by unfold txOkB; rw [HX.out.2, if_neg HC.out, decide_eq_false (show ¬ n + 1 ≤ 120 by omega), Bool.and_false, Bool.false_and]; rfl), rfl⟩
            have h3' : decide ((120 : Int) < (n : Int) + 1) = false := by rw [decide_eq_false_iff_not]; omega
            go_wp2_with fail
            go_roundg (s.length - (i + 1))
            case measure => have := HX.out.1; omega
            case rel => exact ⟨i + 1, n + 1, rfl, by omega, by go_num, by go_num, by omega, by rw [HX.out.2, if_neg HC.out, decide_eq_true (show 32 ≤ s[i].toNat by omega), decide_eq_true (show s[i].toNat ≤ 126 by omega), decide_eq_true (show n + 1 ≤ 120 by omega)]; rfl, rfl⟩
        · obtain rfl : i = s.length := by omega
          have HX := Lib.hid (show wideB 0 s = true by rw [hW, List.drop_length]; rfl)
          clear hW
          go_wp2_with fail
          go_ret
          exact ⟨ret_bool (by unfold txOkB; rw [HX.out, Bool.true_and, Bool.eq_iff_iff]; simp; omega), rfl⟩
/-- a text's lines, in a slice of the call's own -/
def LnP (s : Bytes) (w : World) (e : Ending) (w' : World) : Prop := ∃ u, e = .returned u ∧ SlB w' w'.heap.size u (linesB s) ∧ Below w.heap.size w w'
theorem clipTx_any (v : Value) (l : List Bytes) (lo : Nat) (w : World) (hv : Fr strRow 1 9 w lo v l) :
    Calls Tryz.prog 81 #[v] w fun e w' => ∃ u, e = .returned u ∧ Fr strRow 1 9 w' lo u l ∧ w = w' := by
  rcases id hv with ⟨rfl, rfl⟩ | ⟨g, cap, cur, rfl, hlo, hc, hm, hB, hx⟩
  · go_enter Tryz.func81, Tryz.ntmps81
    go_wp2
    go_ret
    exact ⟨_, rfl, .inl ⟨rfl, rfl⟩, rfl⟩
  · go_enter Tryz.func81, Tryz.ntmps81
    go_wp2
    go_ret
    exact ⟨_, rfl, Fr.clip hv, rfl⟩
theorem spTextLines_any (s : Bytes) (w : World) (hs : s.length ≤ 100000000) : Calls Tryz.prog 102 #[.string (bs s)] w (LnP s w) := by
  have HT := Lib.hid (show linesB s = if txOkB s then cutB 10 s else [] from rfl)
  have HN := Lib.hid (show txOkB s = true → s.length ≤ 100000 from fun h => by simp only [txOkB, Bool.and_eq_true, decide_eq_true_eq] at h; omega)
  have TX := Lib.hid (spTextOk_any s w hs)
  generalize txOkB s = ok at *
  cases ok
  · go_enter Tryz.func102, Tryz.ntmps102
    go_wp2_with fail
    refine TX.out.mono ?_
    rintro r _ ⟨rfl, rfl⟩
    go_wp2_with fail
    go_ret
    refine ⟨_, rfl, ?_, by (repeat (first | with_reducible assumption | with_reducible exact Below.refl _ _ | with_reducible refine Below.setCell ?_ (by first | omega | (simp; done) | (simp; omega)) _ | with_reducible refine Below.alloc ?_ (by first | omega | (simp; done) | (simp; omega)) _ | with_reducible refine below_drewN ?_ _ | with_reducible refine Below.drew ?_))⟩
    rw [HT.out]
    exact ((gt_empty strRow 1 9 (B := w.heap.size) w _ (Nat.le_refl _) (Below.refl _ _))).sl (fun _ => rfl)
  · have SC := Lib.hid (spCut_text s 10 w (HN.out (by trivial)))
    go_enter Tryz.func102, Tryz.ntmps102
    go_wp2_with fail
    refine TX.out.mono ?_
    rintro r _ ⟨rfl, rfl⟩
    go_wp2_with fail
    refine SC.out.mono ?_
    rintro r w2 ⟨u, rfl, hG, hb⟩
    have hsl := hG.sl (fun _ => rfl)
    obtain ⟨A, c, rfl, _, _⟩ := hG.val
    have HS := Lib.hid hsl
    clear hG hsl
    go_wp2_with fail
    go_ret
    exact ⟨_, rfl, by rw [HT.out]; exact HS.out, hb⟩
theorem imTextLines_any (s : Bytes) (w : World) (hs : s.length ≤ 100000000) (hM : MaxM w) : Calls Tryz.prog 44 #[.string (bs s)] w (LnP s w) := by
  have HT := Lib.hid (show linesB s = if txOkB s then cutB 10 s else [] from rfl)
  have TX := Lib.hid (imTextOk_any s w hs)
  have SC := Lib.hid (imSplit_any s 10 w hs hM)
  generalize txOkB s = ok at *
  cases ok
  · go_enter Tryz.func44, Tryz.ntmps44
    go_wp2_with fail
    refine TX.out.mono ?_
    rintro r _ ⟨rfl, rfl⟩
    go_wp2_with fail
    go_ret
    refine ⟨_, rfl, ?_, Below.refl _ _⟩
    rw [HT.out]
    exact (show Fr strRow 1 9 w w.heap.size (.slice none 0 0) [] from .inl ⟨rfl, rfl⟩).sl
  · go_enter Tryz.func44, Tryz.ntmps44
    go_wp2_with fail
    refine TX.out.mono ?_
    rintro r _ ⟨rfl, rfl⟩
    go_wp2_with fail
    refine SC.out.mono ?_
    rintro r w2 ⟨u, rfl, hF, hb⟩
    have HF := Lib.hid hF
    obtain ⟨A, c, rfl, _, _⟩ := hF.sl.val
    clear hF
    go_wp2_with fail
    refine (clipTx_any _ _ _ w2 HF.out).mono ?_
    rintro r _ ⟨u3, rfl, hF3, rfl⟩
    have HS := Lib.hid hF3.sl
    obtain ⟨A3, c3, rfl, _, _⟩ := hF3.sl.val
    clear hF3
    go_wp2_with fail
    go_ret
    exact ⟨_, rfl, by rw [HT.out]; exact HS.out, hb⟩
end Go.Proofs.YtgakjhaepdigpaaGreatDoor


/- Programs that are read: a row of the call's own, each line's trees in blocks of their own. No condition. -/
namespace Go.Proofs.YtgakjhaepdigpaaGreatDoor
set_option maxRecDepth 100000
set_option linter.unusedSimpArgs false
set_option linter.unusedVariables false
open Go.RowKit

def fsOf (s : Sm) (A1 A2 : Option Addr) (c1 c2 : Nat) : FS := ⟨s.kind, s.name, s.typ, s.ex.kind, s.ex.n, s.ex.s, .slice A1 s.ex.kids.length c1, s.th.kind, s.th.n, s.th.s, .slice A2 s.th.kids.length c2⟩
theorem fsOf_one (s : Sm) (A1 A2 : Option Addr) (c1 c2 : Nat) : ∀ f ∈ [fsOf s A1 A2 c1 c2], ∀ u ∈ fsRow f, u.oneCell' = true := fs_one rfl rfl
theorem fsRow_inj {f g : FS} (h : fsRow f = fsRow g) : f = g := by
  obtain ⟨a, b, c, d, e, x, y, z, p, q, r⟩ := f
  obtain ⟨a', b', c', d', e', x', y', z', p', q', r'⟩ := g
  simp only [fsRow, List.cons.injEq, Value.int.injEq, Value.string.injEq, true_and, and_true] at h
  obtain ⟨h1, h2, h3, h4, h5, h6, h7, h8, h9, h10, h11⟩ := h
  have k2 := bs_inj h2
  have k3 := bs_inj h3
  have k6 := bs_inj h6
  have k10 := bs_inj h10
  subst h1 k2 k3 h4 h5 k6 h7 h8 h9 k10 h11
  rfl
/-- each line of a row: its trees in blocks between two bounds, each once; the row's own block k is none of them -/
def PgE (B : Nat) (w : World) (k : Option Nat) (fl : List FS) (l : List Sm) (ms : List (Nat × Nat)) : Prop := fl.length = l.length ∧ ms.length = l.length ∧
  (∀ (i : Nat) (f : FS) (s : Sm) (m : Nat × Nat), fl[i]? = some f → l[i]? = some s → ms[i]? = some m → SmT m.1 m.2 w (.agg (fsRow f).toArray) s ∧ B ≤ m.1 ∧ m.2 ≤ w.heap.size) ∧
  (∀ (i j : Nat) (m n : Nat × Nat), i < j → ms[i]? = some m → ms[j]? = some n → m.2 ≤ n.1) ∧
  (∀ q, k = some q → ∀ m ∈ ms, q < m.1 ∨ m.2 ≤ q)
def PgL (B : Nat) (w : World) (u : Value) (l : List Sm) : Prop := ∃ (fl : List FS) (ms : List (Nat × Nat)), GtF B w u fl ∧ PgE B w u.ownBlock fl l ms
def PgO (B : Nat) (w : World) (u : Value) (l : List Sm) : Prop := ∃ (fl : List FS) (ms : List (Nat × Nat)), Fr fsRow 11 26 w B u fl ∧ PgE B w u.ownBlock fl l ms
theorem PgE.nil (B : Nat) (w : World) (k : Option Nat) : PgE B w k [] [] [] := ⟨rfl, rfl, fun i f s m h => by simp at h, fun i j m n _ h => by simp at h, fun q _ m h => by cases h⟩
theorem PgL.nil (B : Nat) (w : World) : PgL B w (.slice none 0 0) [] := ⟨[], [], Gt.nil _ _ _ _ _, PgE.nil _ _ _⟩
theorem PgO.nil (B : Nat) (w : World) : PgO B w (.slice none 0 0) [] := ⟨[], [], .inl ⟨rfl, rfl⟩, PgE.nil _ _ _⟩
theorem PgL.pgO {B : Nat} {w : World} {u : Value} {l : List Sm} (h : PgL B w u l) : PgO B w u l := by
  obtain ⟨fl, ms, h1, h2⟩ := h
  exact ⟨fl, ms, Fr.of_owns (fun _ => rfl) h1, h2⟩
theorem PgO.clip {B : Nat} {w : World} {A : Option Addr} {n c : Nat} {l : List Sm} (h : PgO B w (.slice A n c) l) : PgO B w (.slice A n n) l := by
  obtain ⟨fl, ms, h1, h2⟩ := h
  refine ⟨fl, ms, h1.clip, ?_⟩
  have e : (Value.slice A n n).ownBlock = (Value.slice A n c).ownBlock := by cases A <;> rfl
  rw [e]
  exact h2
theorem PgE.same {B B' : Nat} {w w' : World} {k : Option Nat} {fl : List FS} {l : List Sm} {ms : List (Nat × Nat)} (h : PgE B w k fl l ms) (hz : w.heap.size ≤ w'.heap.size) (hB : B' ≤ B) (hb : ∀ m ∈ ms, ∀ b, m.1 ≤ b → b < m.2 → w'.heap[b]? = w.heap[b]?) : PgE B' w' k fl l ms := by
  obtain ⟨h1, h2, h3, h4, h5⟩ := h
  refine ⟨h1, h2, fun i f s m g1 g2 g3 => ?_, h4, h5⟩
  obtain ⟨k1, k2, k3⟩ := h3 i f s m g1 g2 g3
  exact ⟨k1.same (hb m (List.mem_of_getElem? g3)), by omega, by omega⟩
theorem PgE.lim {B : Nat} {w : World} {k : Option Nat} {fl : List FS} {l : List Sm} {ms : List (Nat × Nat)} (h : PgE B w k fl l ms) : ∀ m ∈ ms, B ≤ m.1 ∧ m.2 ≤ w.heap.size := by
  intro m hm
  obtain ⟨i, hi⟩ := List.mem_iff_getElem?.1 hm
  have hil := (List.getElem?_eq_some_iff.1 hi).1
  obtain ⟨h1, h2, h3, _⟩ := h
  obtain ⟨_, a, b⟩ := h3 i _ _ m (List.getElem?_eq_getElem (show i < fl.length by omega)) (List.getElem?_eq_getElem (show i < l.length by omega)) hi
  exact ⟨a, b⟩
theorem PgL.ext {B : Nat} {w w' : World} {u : Value} {l : List Sm} (h : PgL B w u l) (hb : Below w.heap.size w w') : PgL B w' u l := by
  obtain ⟨fl, ms, h1, h2⟩ := h
  exact ⟨fl, ms, h1.ext hb, h2.same hb.size (Nat.le_refl _) (fun m hm b k1 k2 => hb.block b (by have := (h2.lim m hm).2; omega))⟩
theorem PgO.ext {B : Nat} {w w' : World} {u : Value} {l : List Sm} (h : PgO B w u l) (hb : Below w.heap.size w w') : PgO B w' u l := by
  obtain ⟨fl, ms, h1, h2⟩ := h
  exact ⟨fl, ms, h1.ext hb, h2.same hb.size (Nat.le_refl _) (fun m hm b k1 k2 => hb.block b (by have := (h2.lim m hm).2; omega))⟩
theorem PgO.less {B B' : Nat} {w : World} {u : Value} {l : List Sm} (h : PgO B w u l) (hB : B' ≤ B) : PgO B' w u l := by
  obtain ⟨fl, ms, h1, h2⟩ := h
  exact ⟨fl, ms, h1.less hB, h2.same (Nat.le_refl _) hB (fun m hm b k1 k2 => rfl)⟩
theorem PgO.sms {B : Nat} {w : World} {u : Value} {l : List Sm} (h : PgO B w u l) : SmS w w.heap.size u l := by
  obtain ⟨fl, ms, h1, h2, h3, h4, _⟩ := h
  refine ⟨fl, h1.sl, h2, fun i f s hf hs => ?_⟩
  have hi := (List.getElem?_eq_some_iff.1 hs).1
  obtain ⟨g1, _, _⟩ := h4 i f s _ hf hs (List.getElem?_eq_getElem (show i < ms.length by omega))
  obtain ⟨f', e, g2⟩ := g1.smv
  have : fsRow f = fsRow f' := by
    have := congrArg (fun v => match v with | .agg a => a.toList | _ => []) e
    simpa using this
  rw [fsRow_inj this]
  exact g2
/-- one line more -/
theorem PgE.push {B lo hi g : Nat} {wr w2 w3 w6 : World} {u : Value} {fl : List FS} {l : List Sm} {ms : List (Nat × Nat)} {s : Sm} {f : FS} (h : PgE B wr u.ownBlock fl l ms) (hu : ∀ q, u.ownBlock = some q → q < wr.heap.size) (hT : SmT lo hi w2 (.agg (fsRow f).toArray) s)
    (hlo : wr.heap.size ≤ lo) (hhi : hi ≤ w2.heap.size) (hB : B ≤ lo) (h12 : Below wr.heap.size wr w2) (h23 : Below w2.heap.size w2 w3) (hgr : w3.grownBy w6 u.ownBlock) (hat : u.ownBlock = some g ∨ g = w3.heap.size) :
    PgE B w6 (some g) (fl ++ [f]) (l ++ [s]) (ms ++ [(lo, hi)]) := by
  have hlim := h.lim
  obtain ⟨h1, h2, h3, h4, h5⟩ := h
  have hz12 := h12.size
  have hz23 := h23.size
  have hz36 := hgr.size
  have hnew : SmT lo hi w6 (.agg (fsRow f).toArray) s := by
    refine (hT.ext h23).same (fun b k1 k2 => hgr.block b (by omega) (fun e => ?_))
    have := hu b e.symm
    omega
  refine ⟨by simp [h1], by simp [h2], fun i f' s' m g1 g2 g3 => ?_, fun i j m n hij g1 g2 => ?_, fun q e m hm => ?_⟩
  · by_cases hi' : i < l.length
    · rw [List.getElem?_append_left (by omega)] at g1 g2 g3
      obtain ⟨k1, k2, k3⟩ := h3 i f' s' m g1 g2 g3
      refine ⟨k1.same (fun b c1 c2 => ?_), k2, by omega⟩
      rw [hgr.block b (by omega) (fun e => by have := h5 b e.symm m (List.mem_of_getElem? g3); omega), h23.block b (by omega), h12.block b (by omega)]
    · rw [List.getElem?_append_right (by omega)] at g1 g2 g3
      have e0 : i - l.length = 0 := by
        have := (List.getElem?_eq_some_iff.1 g2).1
        simpa using this
      rw [show i - fl.length = 0 by omega] at g1
      rw [e0] at g2
      rw [show i - ms.length = 0 by omega] at g3
      simp at g1 g2 g3
      subst g1 g2 g3
      exact ⟨hnew, hB, by simp only; omega⟩
  · by_cases hj : j < ms.length
    · rw [List.getElem?_append_left (by omega)] at g1 g2
      exact h4 i j m n hij g1 g2
    · rw [List.getElem?_append_right (by omega)] at g2
      have e0 : j - ms.length = 0 := by
        have := (List.getElem?_eq_some_iff.1 g2).1
        simpa using this
      rw [e0] at g2
      simp at g2
      subst g2
      rw [List.getElem?_append_left (by omega)] at g1
      have := (hlim m (List.mem_of_getElem? g1)).2
      simp only
      omega
  · have e := Option.some.inj e
    subst e
    rw [List.mem_append, List.mem_singleton] at hm
    rcases hat with hat | hat
    · rcases hm with hm | rfl
      · exact h5 g hat m hm
      · left
        have := hu g hat
        simp only
        omega
    · right
      rcases hm with hm | rfl
      · have := (hlim m hm).2
        omega
      · simp only
        omega
theorem PgO.slv {B : Nat} {w : World} {u : Value} {l : List Sm} (h : PgO B w u l) : ∃ A n c, u = .slice A n c := by
  obtain ⟨fl, ms, h1, _⟩ := h
  rcases h1 with ⟨rfl, _⟩ | ⟨g, cap, cur, rfl, _⟩
  · exact ⟨_, _, _, rfl⟩
  · exact ⟨_, _, _, rfl⟩
theorem bx_now {w : World} {b : Nat} {k : Int} {nm ty : Bytes} {k1 n1 : Int} {s1 : Bytes} {v1 : Value} {k2 n2 : Int} {s2 : Bytes} {v2 : Value} (h : Blk w b 26 (cS k nm ty k1 n1 s1 v1 k2 n2 s2 v2)) :
    w.cell? ⟨b, 0, none⟩ = some (.int .i64 k) ∧ w.cell? ⟨b, 1, none⟩ = some (.string (bs nm)) ∧ w.cell? ⟨b, 2, none⟩ = some (.string (bs ty)) ∧ w.cell? ⟨b, 3, none⟩ = some (.int .i64 k1) ∧ w.cell? ⟨b, 4, none⟩ = some (.int .i64 n1) ∧ w.cell? ⟨b, 5, none⟩ = some (.string (bs s1)) ∧ w.cell? ⟨b, 6, none⟩ = some v1 ∧ w.cell? ⟨b, 7, none⟩ = some (.int .i64 k2) ∧ w.cell? ⟨b, 8, none⟩ = some (.int .i64 n2) ∧ w.cell? ⟨b, 9, none⟩ = some (.string (bs s2)) ∧ w.cell? ⟨b, 10, none⟩ = some v2 :=
  ⟨h.cell 0, h.cell 1, h.cell 2, h.cell 3, h.cell 4, h.cell 5, h.cell 6, h.cell 7, h.cell 8, h.cell 9, h.cell 10⟩
section
variable {ops : Array Oper} {rest : List Oper} {o : Oper} {a : Act} {Q : Exit → Act → World → Prop} {w : World}
theorem app_plainF1 (hgd : o.guard = none) (s x : Operand) (ho : o.op = .call { callee := .builtin .append, args := #[s, x], argTypes := #[65, 65] })
    (B : Nat) (v : Value) (l : List FS) (hs : a.eval s = v) (hv : GtF B w v l) (n : Nat) (hn : l.length = n) (f : FS) (hone : ∀ f' ∈ [f], ∀ u ∈ fsRow f', u.oneCell' = true) (g0 c0 : Nat) (hx : a.eval x = .slice (some ⟨g0, 0, none⟩) 1 c0)
    (hc : ∀ (j : Nat) (u : Value), ([f].flatMap fsRow)[j]? = some u → w.cell? ((⟨g0, 0, none⟩ : Addr).add j) = some u) (hl : n + 1 ≤ 1000000) (hB : B ≤ w.heap.size)
    (h : ∀ g cap w', GtF B w' (.slice (some ⟨g, 0, none⟩) (n + 1) cap) (l ++ [f]) → w.grownBy w' v.ownBlock → (v.ownBlock = some g ∨ g = w.heap.size) → wpList Tryz.prog ops Q rest (a.put o.dst (.slice (some ⟨g, 0, none⟩) (n + 1) cap)) w') : wpList Tryz.prog ops Q (o :: rest) a w := by
  subst hn
  exact app_plain1 (row := fsRow) (k := 11) (t := 26) (tS := 65) (l2 := [f]) (fun _ => rfl) (by decide) Tryz.underlying65 infoSt (by decide) rfl hgd s x ho B v l hs hv ⟨g0, 0, none⟩ c0 hone hx hc (by simp) hl hB h
end
end Go.Proofs.YtgakjhaepdigpaaGreatDoor


/- A program read from its text: the reference's walk, the program's. -/
namespace Go.Proofs.YtgakjhaepdigpaaGreatDoor
set_option maxRecDepth 100000
set_option linter.unusedSimpArgs false
set_option linter.unusedVariables false
open Go.RowKit
attribute [local go_sem] bs_toList bs_get bs_size cS

noncomputable def okL (L : List Bytes) : Bool := L.all rdSOk && decide (1 ≤ L.length) && decide (L.length ≤ 16)
def R6P (L : List Bytes) (w : World) (e : Ending) (w' : World) : Prop := ∃ u, e = .returned (.tuple #[u, .bool (okL L)]) ∧ PgO w.heap.size w' u (if okL L then L.map rdSm else []) ∧ Below w.heap.size w w'
theorem okL_at {L : List Bytes} {j : Nat} {s : Bytes} (h : L[j]? = some s) (hs : rdSOk s = false) : okL L = false := by
  unfold okL
  have : L.all rdSOk = false := by
    rw [List.all_eq_false]
    exact ⟨s, List.mem_of_getElem? h, by simp [hs]⟩
  rw [this]
  rfl
theorem okL_take {L : List Bytes} {j : Nat} (h : (L.take j).all rdSOk = true) (hj : j = L.length ∨ (j = 17 ∧ 17 ≤ L.length)) : progOkB ((L.take j).map rdSm) = okL L := by
  rcases hj with rfl | ⟨rfl, hj⟩
  · rw [List.take_length] at h ⊢
    unfold progOkB okL
    rw [h, List.length_map]
    have : (L.map rdSm).all smOkB = true := by
      rw [List.all_eq_true] at h ⊢
      intro x hx
      obtain ⟨y, hy, rfl⟩ := List.mem_map.1 hx
      exact (rdSm_of (h y hy)).1
    rw [this]
  · unfold progOkB okL
    rw [List.length_map, List.length_take, decide_eq_false (show ¬ min 17 L.length ≤ 16 by omega), decide_eq_false (show ¬ L.length ≤ 16 by omega), Bool.and_false, Bool.and_false]
theorem okL_len {L : List Bytes} (h : okL L = true) : L.length ≤ 16 := by
  unfold okL at h
  simp only [Bool.and_eq_true, decide_eq_true_eq] at h
  exact h.2
theorem take_rd {L : List Bytes} {j : Nat} {s : Bytes} (h : L[j]? = some s) : (L.take (j + 1)).map rdSm = (L.take j).map rdSm ++ [rdSm s] ∧ (L.take (j + 1)).all rdSOk = ((L.take j).all rdSOk && rdSOk s) := by
  rw [List.take_add_one, h]
  exact ⟨by simp, by simp⟩
set_option maxHeartbeats 4000000 in
theorem spLines6_any (L : List Bytes) (v : Value) (w : World) (hv : SlB w w.heap.size v L) (hL : ∀ x ∈ L, x.length ≤ 100000000) : Calls Tryz.prog 101 #[v] w (R6P L w) := by
  obtain ⟨A, c, rfl, hc, hm⟩ := hv.val
  go_enter Tryz.func101, Tryz.ntmps101
  go_wp2_with fail
  go_loopg [4, 5] L.length (fun k out p wr => ∃ j : Nat, k = L.length - j ∧ j ≤ L.length ∧ j ≤ 17 ∧ p = .int .i64 j ∧ PgL w.heap.size wr out ((L.take j).map rdSm) ∧ (L.take j).all rdSOk = true ∧ Below w.heap.size w wr)
  case atStart => exact ⟨0, by omega, by omega, by omega, rfl, ⟨[], [], gt_empty fsRow 11 26 w _ (Nat.le_refl _) (Below.refl _ _), PgE.nil _ _ _⟩, by simp, by (repeat (first | with_reducible assumption | with_reducible exact Below.refl _ _ | with_reducible refine Below.setCell ?_ (by first | omega | (simp; done) | (simp; omega)) _ | with_reducible refine Below.alloc ?_ (by first | omega | (simp; done) | (simp; omega)) _ | with_reducible refine below_drewN ?_ _ | with_reducible refine Below.drew ?_))⟩
  case round =>
    obtain ⟨j, hk, hj, hj17, rfl, hP, hall, hbl⟩ := hrel
    have HK := Lib.hid (And.intro hk hall)
    have hzw := hbl.size
    clear hk hall
    by_cases hlt : j < L.length ∧ j ≤ 16
    · obtain ⟨hlt, h16⟩ := hlt
      have d2 : decide ((j : Int) ≤ 16) = true := by rw [decide_eq_true_eq]; omega
      obtain ⟨b, o, s, rfl, hb, hg, hx⟩ := sl_at hv hlt
      have x0 := hx ⟨wr, hbl⟩ 0 _ rfl
      simp only [Nat.mul_one, Nat.add_zero] at x0
      have HG := Lib.hid (And.intro hg (And.intro hP hbl))
      have RS := Lib.hid (spStmtRead_any s wr (hL s (List.mem_of_getElem? hg)))
      obtain ⟨fl, ms, hG, hE⟩ := hP
      have hfl : fl.length = j := by rw [hE.1, List.length_map, List.length_take]; omega
      obtain ⟨Au, cu, rfl, _, _⟩ := hG.val
      have HE := Lib.hid (And.intro hG hE)
      have HFL := Lib.hid hfl
      clear hg hx hG hE hfl
      go_wp2_with fail
      refine RS.out.mono ?_
      rintro r w2 ⟨v2, rfl, hT2, hb2⟩
      obtain ⟨A1, A2, c1, c2, mid, rfl, _⟩ := id hT2
      have hz2 := hb2.size
      go_upto_region 6 with fail
      generalize hW4 : World.alloc _ _ = W4
      have hB4 : Blk W4 w2.heap.size 26 (cS (rdSm s).kind (rdSm s).name (rdSm s).typ (rdSm s).ex.kind (rdSm s).ex.n (rdSm s).ex.s (.slice A1 (rdSm s).ex.kids.length c1) (rdSm s).th.kind (rdSm s).th.n (rdSm s).th.s (.slice A2 (rdSm s).th.kids.length c2)) := by rw [← hW4]; exact Blk.new _ _ _
      have hb4 : Below w2.heap.size w2 W4 := by rw [← hW4]; (repeat (first | with_reducible assumption | with_reducible exact Below.refl _ _ | with_reducible refine Below.setCell ?_ (by first | omega | (simp; done) | (simp; omega)) _ | with_reducible refine Below.alloc ?_ (by first | omega | (simp; done) | (simp; omega)) _ | with_reducible refine below_drewN ?_ _ | with_reducible refine Below.drew ?_))
      have hz4 := hB4.lt
      clear hW4
      have HT := Lib.hid hT2
      clear hT2
      cases hok : rdSOk s
      · have HB := Lib.hid (okL_at HG.out.1 hok)
        clear HT RS
        go_wp2_with fail
        refine bodyPost_ret (v := .tuple #[.slice none 0 0, .bool false]) (by simp [results, Tryz.results101, go_sem, *]) rfl ?_
        exact ⟨_, by rw [HB.out], by rw [HB.out]; exact PgO.nil _ _, by have hbl := HG.out.2.2; (repeat (first | with_reducible assumption | with_reducible exact Below.refl _ _ | with_reducible refine Below.setCell ?_ (by first | omega | (simp; done) | (simp; omega)) _ | with_reducible refine Below.alloc ?_ (by first | omega | (simp; done) | (simp; omega)) _ | with_reducible refine below_drewN ?_ _ | with_reducible refine Below.drew ?_ | with_reducible refine Below.trans ?_ (Below.mono hb4 (by first | omega | (simp; done) | (simp; omega))) | with_reducible refine Below.trans ?_ (Below.mono hb2 (by first | omega | (simp; done) | (simp; omega))) | with_reducible refine Below.trans ?_ (Below.mono hbl (by first | omega | (simp; done) | (simp; omega)))))⟩
      · have HO := Lib.hid hok
        clear RS hok
        obtain ⟨y0, y1, y2, y3, y4, y5, y6, y7, y8, y9, y10⟩ := bx_now hB4
        have hbr : Below w.heap.size w wr := HG.out.2.2
        have hzr := hbr.size
        go_wp2_with (first
          | (at_builtin; refine app_plainF1 (by rfl) (.tmp 29) (.tmp 31) (by rfl) w.heap.size (.slice Au fl.length cu) fl (by rfl) ((HE.out.1.ext hb2).ext (by (repeat (first | with_reducible assumption | with_reducible exact Below.refl _ _ | with_reducible refine Below.setCell ?_ (by first | omega | (simp; done) | (simp; omega)) _ | with_reducible refine Below.alloc ?_ (by first | omega | (simp; done) | (simp; omega)) _ | with_reducible refine below_drewN ?_ _ | with_reducible refine Below.drew ?_ | with_reducible refine Below.trans ?_ (Below.mono hb4 (by first | omega | (simp; done) | (simp; omega))))))) fl.length rfl (fsOf (rdSm s) A1 A2 c1 c2) (fsOf_one _ _ _ _ _) W4.heap.size 1 (by rfl) (news_at rfl) (by have := HFL.out; omega) (by simp; omega) ?_; intro g6 cap6 w6 hG6 hgr6 hat6)
          | fail)
        go_roundg (L.length - (j + 1))
        case measure => have := HK.out.1; omega
        case rel =>
          refine ⟨j + 1, rfl, by omega, by omega, by go_num, ?_, ?_, ?_⟩
          · rw [(take_rd HG.out.1).1]
            exact ⟨fl ++ [fsOf (rdSm s) A1 A2 c1 c2], ms ++ [(wr.heap.size, w2.heap.size)], hG6, HE.out.2.push (fun q hq => (HE.out.1.lt hq).2) HT.out (Nat.le_refl _) (Nat.le_refl _) hzr hb2 (by (repeat (first | with_reducible assumption | with_reducible exact Below.refl _ _ | with_reducible refine Below.setCell ?_ (by first | omega | (simp; done) | (simp; omega)) _ | with_reducible refine Below.alloc ?_ (by first | omega | (simp; done) | (simp; omega)) _ | with_reducible refine below_drewN ?_ _ | with_reducible refine Below.drew ?_ | with_reducible refine Below.trans ?_ (Below.mono hb4 (by first | omega | (simp; done) | (simp; omega)))))) hgr6 hat6⟩
          · rw [(take_rd HG.out.1).2, HK.out.2, HO.out]; rfl
          · exact below_app (by (repeat (first | with_reducible assumption | with_reducible exact Below.refl _ _ | with_reducible refine Below.setCell ?_ (by first | omega | (simp; done) | (simp; omega)) _ | with_reducible refine Below.alloc ?_ (by first | omega | (simp; done) | (simp; omega)) _ | with_reducible refine below_drewN ?_ _ | with_reducible refine Below.drew ?_ | with_reducible refine Below.trans ?_ (Below.mono hb4 (by first | omega | (simp; done) | (simp; omega))) | with_reducible refine Below.trans ?_ (Below.mono hb2 (by first | omega | (simp; done) | (simp; omega))) | with_reducible refine Below.trans ?_ (Below.mono hbr (by first | omega | (simp; done) | (simp; omega)))))) hgr6 (fun q hq => (HE.out.1.lt hq).1) (by simp; omega)
    · have hend : j = L.length ∨ (j = 17 ∧ 17 ≤ L.length) := by omega
      have HQ := Lib.hid (okL_take HK.out.2 hend)
      have HPG := Lib.hid (And.intro hP hbl)
      have PO := Lib.hid (spProgOk_any _ _ wr hP.pgO.sms)
      rw [HQ.out] at PO
      obtain ⟨fl, ms, hG, hE⟩ := hP
      obtain ⟨Au, cu, rfl, _, _⟩ := hG.val
      by_cases hjl : j < L.length
      · have HF := Lib.hid (show okL L = false by
          rw [Bool.eq_false_iff]
          intro h
          have := okL_len h
          omega)
        rw [HF.out] at PO
        obtain rfl : j = 17 := by omega
        clear hG hE hend hlt
        go_wp2_with fail
        refine PO.out.mono ?_
        rintro r w2 ⟨rfl, hb2⟩
        go_wp2_with fail
        refine bodyPost_ret (v := .tuple #[.slice none 0 0, .bool false]) (by simp [results, Tryz.results101, go_sem, *]) rfl ?_
        exact ⟨_, by rw [HF.out], by rw [HF.out]; exact PgO.nil _ _, by have hbl := HPG.out.2; (repeat (first | with_reducible assumption | with_reducible exact Below.refl _ _ | with_reducible refine Below.setCell ?_ (by first | omega | (simp; done) | (simp; omega)) _ | with_reducible refine Below.alloc ?_ (by first | omega | (simp; done) | (simp; omega)) _ | with_reducible refine below_drewN ?_ _ | with_reducible refine Below.drew ?_ | with_reducible refine Below.trans ?_ (Below.mono hb2 (by first | omega | (simp; done) | (simp; omega))) | with_reducible refine Below.trans ?_ (Below.mono hbl (by first | omega | (simp; done) | (simp; omega)))))⟩
      · obtain rfl : j = L.length := by omega
        clear hG hE hend hlt
        cases hq : okL L
        · have HQF := Lib.hid hq
          rw [hq] at PO
          clear hq
          go_wp2_with fail
          refine PO.out.mono ?_
          rintro r w2 ⟨rfl, hb2⟩
          go_wp2_with fail
          refine bodyPost_ret (v := .tuple #[.slice none 0 0, .bool false]) (by simp [results, Tryz.results101, go_sem, *]) rfl ?_
          exact ⟨_, by rw [HQF.out], by rw [HQF.out]; exact PgO.nil _ _, by have hbl := HPG.out.2; (repeat (first | with_reducible assumption | with_reducible exact Below.refl _ _ | with_reducible refine Below.setCell ?_ (by first | omega | (simp; done) | (simp; omega)) _ | with_reducible refine Below.alloc ?_ (by first | omega | (simp; done) | (simp; omega)) _ | with_reducible refine below_drewN ?_ _ | with_reducible refine Below.drew ?_ | with_reducible refine Below.trans ?_ (Below.mono hb2 (by first | omega | (simp; done) | (simp; omega))) | with_reducible refine Below.trans ?_ (Below.mono hbl (by first | omega | (simp; done) | (simp; omega)))))⟩
        · have HQF := Lib.hid hq
          rw [hq] at PO
          clear hq
          go_wp2_with fail
          refine PO.out.mono ?_
          rintro r w2 ⟨rfl, hb2⟩
          go_wp2_with fail
          refine bodyPost_ret (v := .tuple #[.slice Au fl.length cu, .bool true]) (by simp [results, Tryz.results101, go_sem, *]) rfl ?_
          refine ⟨_, by rw [HQF.out], ?_, by have hbl := HPG.out.2; (repeat (first | with_reducible assumption | with_reducible exact Below.refl _ _ | with_reducible refine Below.setCell ?_ (by first | omega | (simp; done) | (simp; omega)) _ | with_reducible refine Below.alloc ?_ (by first | omega | (simp; done) | (simp; omega)) _ | with_reducible refine below_drewN ?_ _ | with_reducible refine Below.drew ?_ | with_reducible refine Below.trans ?_ (Below.mono hb2 (by first | omega | (simp; done) | (simp; omega))) | with_reducible refine Below.trans ?_ (Below.mono hbl (by first | omega | (simp; done) | (simp; omega)))))⟩
          rw [HQF.out, if_pos rfl]
          have h := HPG.out.1
          rw [List.take_length] at h
          exact (h.ext hb2).pgO
/-- a program as it is read -/
def RpA (s : Bytes) (w : World) (e : Ending) (w' : World) : Prop := ∃ u, e = .returned (.tuple #[u, .bool (rdPOk s)]) ∧ PgO w.heap.size w' u (rdPs s) ∧ Below w.heap.size w w'
theorem linesB_mem {s x : Bytes} (h : x ∈ linesB s) : x.length ≤ s.length ∧ s.length ≤ 4000 := by
  unfold linesB at h
  by_cases ht : txOkB s = true
  · rw [if_pos ht] at h
    simp only [txOkB, Bool.and_eq_true, decide_eq_true_eq] at ht
    exact ⟨cutB_mem_len s x h, ht.2⟩
  · rw [if_neg ht] at h
    cases h
theorem linesB_len (s : Bytes) : (linesB s).length ≤ 4001 := by
  unfold linesB
  by_cases ht : txOkB s = true
  · rw [if_pos ht]
    simp only [txOkB, Bool.and_eq_true, decide_eq_true_eq] at ht
    rw [cutB_len]
    have := List.count_le_length (a := (10 : UInt8)) (l := s)
    omega
  · rw [if_neg ht]
    simp
theorem spProgRead_any (s : Bytes) (w : World) (hs : s.length ≤ 100000000) : Calls Tryz.prog 46 #[.string (bs s)] w (RpA s w) := by
  have TL := Lib.hid (spTextLines_any s w hs)
  unfold LnP at TL
  have HQ := Lib.hid (show okL (linesB s) = rdPOk s from rfl)
  have HP := Lib.hid (show rdPs s = if okL (linesB s) then (linesB s).map rdSm else [] from rfl)
  have HL : ∀ x ∈ linesB s, x.length ≤ 100000000 := fun x hx => by have := linesB_mem hx; omega
  generalize linesB s = L at *
  go_enter Tryz.func46, Tryz.ntmps46
  go_wp2_with fail
  refine TL.out.mono ?_
  rintro r w2 ⟨u, rfl, hv, hb2⟩
  have C := Lib.hid (spLines6_any L u w2 hv HL)
  obtain ⟨A, c, rfl, _, _⟩ := hv.val
  clear hv
  go_wp2_with fail
  refine C.out.mono ?_
  rintro r w3 ⟨u3, rfl, hP, hb3⟩
  have HPG := Lib.hid hP
  obtain ⟨A3, n3, c3, rfl⟩ := hP.slv
  clear hP
  go_wp2_with fail
  refine bodyPost_ret (v := .tuple #[.slice A3 n3 c3, .bool (okL L)]) (by simp [results, Tryz.results46, go_sem, *]) rfl ?_
  exact ⟨_, by rw [HQ.out], by rw [HP.out]; exact HPG.out.less hb2.size, hb2.trans (hb3.mono hb2.size)⟩
theorem clipSt_any (A : Option Addr) (n c : Nat) (l : List Sm) (B : Nat) (w : World) (h : PgO B w (.slice A n c) l) : Calls Tryz.prog 100 #[.slice A n c] w fun e w' => e = .returned (.slice A n n) ∧ w = w' := by
  obtain ⟨fl, ms, h1, _⟩ := h
  rcases h1 with ⟨e, _⟩ | ⟨g, cap, cur, e, hlo, hc, hm, hB, hx⟩
  · obtain ⟨rfl, rfl, rfl⟩ : A = none ∧ n = 0 ∧ c = 0 := by injection e; exact ⟨‹_›, ‹_›, ‹_›⟩
    go_enter Tryz.func100, Tryz.ntmps100
    go_wp2
    go_ret
    exact ⟨rfl, rfl⟩
  · obtain ⟨rfl, rfl, rfl⟩ : A = some ⟨g, 0, none⟩ ∧ n = fl.length ∧ c = cap := by injection e; exact ⟨‹_›, ‹_›, ‹_›⟩
    clear hx e
    unfold maxLen at hm
    go_enter Tryz.func100, Tryz.ntmps100
    go_wp2
    go_ret
    exact ⟨rfl, rfl⟩
set_option maxHeartbeats 4000000 in
theorem imProgRead_any (t : Bytes) (W : World) (hs : t.length ≤ 100000000) (hM : MaxM W) (hE : EnvA W) : Calls Tryz.prog 45 #[.string (bs t)] W (RpA t W) := by
  have TL := Lib.hid (imTextLines_any t W hs hM)
  unfold LnP at TL
  have HQQ := Lib.hid (show okL (linesB t) = rdPOk t from rfl)
  have HPP := Lib.hid (show rdPs t = if okL (linesB t) then (linesB t).map rdSm else [] from rfl)
  have HL : ∀ x ∈ linesB t, x.length ≤ 100000000 := fun x hx => by have := linesB_mem hx; omega
  have hlL := linesB_len t
  generalize linesB t = L at *
  have HE := Lib.hid hE
  clear hE hM
  go_enter Tryz.func45, Tryz.ntmps45
  go_wp2_with fail
  refine TL.out.mono ?_
  rintro r w ⟨u, rfl, hv, hb2⟩
  have HBW := Lib.hid hb2
  obtain ⟨A, c, rfl, hc, hm⟩ := hv.val
  clear hb2 TL
  go_wp2_with fail
  go_loopg [4, 12] L.length (fun k out p wr => ∃ j : Nat, k = L.length - j ∧ j ≤ L.length ∧ p = .int .i64 j ∧ PgL w.heap.size wr out ((L.take j).map rdSm) ∧ (L.take j).all rdSOk = true ∧ Below w.heap.size w wr)
  case atStart => exact ⟨0, by omega, by omega, rfl, PgL.nil _ _, by simp, Below.refl _ _⟩
  case round =>
    obtain ⟨j, hk, hj, rfl, hP, hall, hbl⟩ := hrel
    have HK := Lib.hid (And.intro hk hall)
    have hzw := hbl.size
    have hzW := HBW.out.size
    clear hk hall
    by_cases hlt : j < L.length
    · obtain ⟨b, o, s, rfl, hb, hg, hx⟩ := sl_at hv hlt
      have x0 := hx ⟨wr, hbl⟩ 0 _ rfl
      simp only [Nat.mul_one, Nat.add_zero] at x0
      have HG := Lib.hid (And.intro hg (And.intro hP hbl))
      have RS := Lib.hid (imStmtRead_any s wr (HL s (List.mem_of_getElem? hg)) (HE.out.ext (HBW.out.ext hbl)))
      obtain ⟨fl, ms, hG, hEE⟩ := hP
      have hfl : fl.length = j := by rw [hEE.1, List.length_map, List.length_take]; omega
      obtain ⟨Au, cu, rfl, _, _⟩ := hG.val
      have HEE := Lib.hid (And.intro hG hEE)
      have HFL := Lib.hid hfl
      clear hg hx hG hEE hfl
      go_wp2_with fail
      refine RS.out.mono ?_
      rintro r w2 ⟨v2, rfl, hT2, hb2⟩
      obtain ⟨A1, A2, c1, c2, mid, rfl, _⟩ := id hT2
      have hz2 := hb2.size
      go_upto_region 6 with fail
      generalize hW4 : World.alloc _ _ = W4
      have hB4 : Blk W4 w2.heap.size 26 (cS (rdSm s).kind (rdSm s).name (rdSm s).typ (rdSm s).ex.kind (rdSm s).ex.n (rdSm s).ex.s (.slice A1 (rdSm s).ex.kids.length c1) (rdSm s).th.kind (rdSm s).th.n (rdSm s).th.s (.slice A2 (rdSm s).th.kids.length c2)) := by rw [← hW4]; exact Blk.new _ _ _
      have hb4 : Below w2.heap.size w2 W4 := by rw [← hW4]; (repeat (first | with_reducible assumption | with_reducible exact Below.refl _ _ | with_reducible refine Below.setCell ?_ (by first | omega | (simp; done) | (simp; omega)) _ | with_reducible refine Below.alloc ?_ (by first | omega | (simp; done) | (simp; omega)) _ | with_reducible refine below_drewN ?_ _ | with_reducible refine Below.drew ?_))
      have hz4 := hB4.lt
      clear hW4
      have HT := Lib.hid hT2
      clear hT2
      cases hok : rdSOk s
      · have HB := Lib.hid (okL_at HG.out.1 hok)
        clear HT RS
        go_wp2_with fail
        refine bodyPost_ret (v := .tuple #[.slice none 0 0, .bool false]) (by simp [results, Tryz.results45, go_sem, *]) rfl ?_
        exact ⟨_, by rw [← HQQ.out, HB.out], by rw [HPP.out, HB.out]; exact PgO.nil _ _, by have hbl := HG.out.2.2; have hbW := HBW.out; (repeat (first | with_reducible assumption | with_reducible exact Below.refl _ _ | with_reducible refine Below.setCell ?_ (by first | omega | (simp; done) | (simp; omega)) _ | with_reducible refine Below.alloc ?_ (by first | omega | (simp; done) | (simp; omega)) _ | with_reducible refine below_drewN ?_ _ | with_reducible refine Below.drew ?_ | with_reducible refine Below.trans ?_ (Below.mono hb4 (by first | omega | (simp; done) | (simp; omega))) | with_reducible refine Below.trans ?_ (Below.mono hb2 (by first | omega | (simp; done) | (simp; omega))) | with_reducible refine Below.trans ?_ (Below.mono hbl (by first | omega | (simp; done) | (simp; omega))) | with_reducible refine Below.trans ?_ (Below.mono hbW (by first | omega | (simp; done) | (simp; omega)))))⟩
      · have HO := Lib.hid hok
        clear RS hok
        obtain ⟨y0, y1, y2, y3, y4, y5, y6, y7, y8, y9, y10⟩ := bx_now hB4
        have hbr : Below w.heap.size w wr := HG.out.2.2
        go_wp2_with (first
          | (at_builtin; refine app_plainF1 (by rfl) (.tmp 23) (.tmp 25) (by rfl) w.heap.size (.slice Au fl.length cu) fl (by rfl) ((HEE.out.1.ext hb2).ext (by (repeat (first | with_reducible assumption | with_reducible exact Below.refl _ _ | with_reducible refine Below.setCell ?_ (by first | omega | (simp; done) | (simp; omega)) _ | with_reducible refine Below.alloc ?_ (by first | omega | (simp; done) | (simp; omega)) _ | with_reducible refine below_drewN ?_ _ | with_reducible refine Below.drew ?_ | with_reducible refine Below.trans ?_ (Below.mono hb4 (by first | omega | (simp; done) | (simp; omega))))))) fl.length rfl (fsOf (rdSm s) A1 A2 c1 c2) (fsOf_one _ _ _ _ _) W4.heap.size 1 (by rfl) (news_at rfl) (by have := HFL.out; omega) (by simp; omega) ?_; intro g6 cap6 w6 hG6 hgr6 hat6)
          | fail)
        go_roundg (L.length - (j + 1))
        case measure => have := HK.out.1; omega
        case rel =>
          refine ⟨j + 1, rfl, by omega, by go_num, ?_, ?_, ?_⟩
          · rw [(take_rd HG.out.1).1]
            exact ⟨fl ++ [fsOf (rdSm s) A1 A2 c1 c2], ms ++ [(wr.heap.size, w2.heap.size)], hG6, HEE.out.2.push (fun q hq => (HEE.out.1.lt hq).2) HT.out (Nat.le_refl _) (Nat.le_refl _) hzw hb2 (by (repeat (first | with_reducible assumption | with_reducible exact Below.refl _ _ | with_reducible refine Below.setCell ?_ (by first | omega | (simp; done) | (simp; omega)) _ | with_reducible refine Below.alloc ?_ (by first | omega | (simp; done) | (simp; omega)) _ | with_reducible refine below_drewN ?_ _ | with_reducible refine Below.drew ?_ | with_reducible refine Below.trans ?_ (Below.mono hb4 (by first | omega | (simp; done) | (simp; omega)))))) hgr6 hat6⟩
          · rw [(take_rd HG.out.1).2, HK.out.2, HO.out]; rfl
          · exact below_app (by (repeat (first | with_reducible assumption | with_reducible exact Below.refl _ _ | with_reducible refine Below.setCell ?_ (by first | omega | (simp; done) | (simp; omega)) _ | with_reducible refine Below.alloc ?_ (by first | omega | (simp; done) | (simp; omega)) _ | with_reducible refine below_drewN ?_ _ | with_reducible refine Below.drew ?_ | with_reducible refine Below.trans ?_ (Below.mono hb4 (by first | omega | (simp; done) | (simp; omega))) | with_reducible refine Below.trans ?_ (Below.mono hb2 (by first | omega | (simp; done) | (simp; omega))) | with_reducible refine Below.trans ?_ (Below.mono hbr (by first | omega | (simp; done) | (simp; omega)))))) hgr6 (fun q hq => (HEE.out.1.lt hq).1) (by simp; omega)
    · obtain rfl : j = L.length := by omega
      have HQ := Lib.hid (okL_take HK.out.2 (.inl rfl))
      have HPG := Lib.hid (And.intro hP hbl)
      have PO := Lib.hid (imProgOk_any _ _ wr hP.pgO.sms (HE.out.ext (HBW.out.ext hbl)).env)
      rw [HQ.out] at PO
      obtain ⟨fl, ms, hG, hEE⟩ := hP
      obtain ⟨Au, cu, rfl, _, _⟩ := hG.val
      clear hG hEE hlt
      cases hq : okL L
      · have HQF := Lib.hid hq
        rw [hq] at PO
        clear hq
        go_wp2_with fail
        refine PO.out.mono ?_
        rintro r w2 ⟨rfl, hb2⟩
        go_wp2_with fail
        refine bodyPost_ret (v := .tuple #[.slice none 0 0, .bool false]) (by simp [results, Tryz.results45, go_sem, *]) rfl ?_
        exact ⟨_, by rw [← HQQ.out, HQF.out], by rw [HPP.out, HQF.out]; exact PgO.nil _ _, by have hbl := HPG.out.2; have hbW := HBW.out; (repeat (first | with_reducible assumption | with_reducible exact Below.refl _ _ | with_reducible refine Below.setCell ?_ (by first | omega | (simp; done) | (simp; omega)) _ | with_reducible refine Below.alloc ?_ (by first | omega | (simp; done) | (simp; omega)) _ | with_reducible refine below_drewN ?_ _ | with_reducible refine Below.drew ?_ | with_reducible refine Below.trans ?_ (Below.mono hb2 (by first | omega | (simp; done) | (simp; omega))) | with_reducible refine Below.trans ?_ (Below.mono hbl (by first | omega | (simp; done) | (simp; omega))) | with_reducible refine Below.trans ?_ (Below.mono hbW (by first | omega | (simp; done) | (simp; omega)))))⟩
      · have HQF := Lib.hid hq
        rw [hq] at PO
        clear hq
        go_wp2_with fail
        refine PO.out.mono ?_
        rintro r w2 ⟨rfl, hb2⟩
        have HR := Lib.hid (HPG.out.1.ext hb2).pgO
        go_wp2_with fail
        refine (clipSt_any _ _ _ _ _ w2 HR.out).mono ?_
        rintro r _ ⟨rfl, rfl⟩
        go_wp2_with fail
        refine bodyPost_ret (v := .tuple #[.slice Au fl.length fl.length, .bool true]) (by simp [results, Tryz.results45, go_sem, *]) rfl ?_
        refine ⟨_, by rw [← HQQ.out, HQF.out], ?_, by have hbl := HPG.out.2; have hbW := HBW.out; (repeat (first | with_reducible assumption | with_reducible exact Below.refl _ _ | with_reducible refine Below.setCell ?_ (by first | omega | (simp; done) | (simp; omega)) _ | with_reducible refine Below.alloc ?_ (by first | omega | (simp; done) | (simp; omega)) _ | with_reducible refine below_drewN ?_ _ | with_reducible refine Below.drew ?_ | with_reducible refine Below.trans ?_ (Below.mono hb2 (by first | omega | (simp; done) | (simp; omega))) | with_reducible refine Below.trans ?_ (Below.mono hbl (by first | omega | (simp; done) | (simp; omega))) | with_reducible refine Below.trans ?_ (Below.mono hbW (by first | omega | (simp; done) | (simp; omega)))))⟩
        rw [HPP.out, HQF.out, if_pos rfl]
        have h := HR.out.clip
        rw [List.take_length] at h
        exact h.less HBW.out.size
end Go.Proofs.YtgakjhaepdigpaaGreatDoor
