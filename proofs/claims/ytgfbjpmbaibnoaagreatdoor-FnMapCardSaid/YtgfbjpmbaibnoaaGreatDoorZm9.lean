/- Places that are drawn twice, the same or nearly. -/
import Derived.Test.YtgfbjpmbaibnoaaGreatDoorDwGH
import Derived.Test.YtgfbjpmbaibnoaaGreatDoorAppGs
import Derived.Test.YtgfbjpmbaibnoaaGreatDoorMapS
import Derived.Test.YtgfbjpmbaibnoaaGreatDoorBas
import Derived.Lib.SplitLaws
import Derived.Lib.IndexBytes
import Derived.Lib.IndexLaws
namespace Go.Proofs.YtgfbjpmbaibnoaaGreatDoor
set_option maxRecDepth 100000
set_option linter.unusedSimpArgs false
set_option linter.unusedVariables false
open Go.RowKit
attribute [local go_sem] bs_toList bs_get bs_size

theorem CodeV.later {w w' : World} {v : Value} {l : List Int} (h : CodeV w v l) (hb : Below w.heap.size w w') : CodeV w' v l := ⟨(h.1.below hb (Nat.le_refl _)).more hb.size, h.2⟩
theorem sg_tail {w : World} {B b o n c : Nat} {s : Sg} {l : List Sg} (h : SlS w B (.slice (some ⟨b, o, none⟩) n c) (s :: l)) : SlS w B (.slice (some ⟨b, o + 4, none⟩) l.length (c - 1)) l := by
  obtain ⟨A, c', hv, hc, hm, hh⟩ := h
  obtain ⟨hA, _, rfl⟩ : some ⟨b, o, none⟩ = A ∧ n = (s :: l).length ∧ c = c' := by injection hv; exact ⟨‹_›, ‹_›, ‹_›⟩
  simp only [List.length_cons] at hc
  refine ⟨_, c - 1, rfl, by omega, by omega, fun h0 => ?_⟩
  obtain ⟨b', o', hA', hb, hx⟩ := hh (by simp)
  rw [← hA] at hA'
  obtain ⟨rfl, rfl⟩ : b = b' ∧ o = o' := by injection hA' with e; injection e; exact ⟨‹_›, ‹_›⟩
  exact ⟨b, o + 4, rfl, hb, fun i t ht j x hj => by
    have := hx (i + 1) t (by simpa using ht) j x hj
    rw [show o + (i + 1) * 4 + j = o + 4 + i * 4 + j by omega] at this
    exact this⟩
theorem sg_tail' {w : World} {B b n c : Nat} {l : List Sg} (h : SlS w B (.slice (some ⟨b, 0, none⟩) n c) l) (h0 : 0 < l.length) : SlS w B (.slice (some ⟨b, 4, none⟩) (l.length - 1) (c - 1)) l.tail := by
  cases l with
  | nil => simp at h0
  | cons s l => simpa using sg_tail h
theorem sg_tail0 {w : World} {B : Nat} {A : Option Addr} {l : List Sg} (h : l.length ≤ 1) : SlS w B (.slice A 0 0) l.tail := by
  have e : l.tail = [] := List.length_eq_zero_iff.1 (by rw [List.length_tail]; omega)
  rw [e]
  exact ⟨A, 0, rfl, Nat.le_refl _, by unfold maxLen; omega, fun h => absurd h (by simp)⟩
theorem sg_nil (w : World) (B : Nat) : SlS w B (.slice none 0 0) [] := ⟨none, 0, rfl, Nat.le_refl _, by unfold maxLen; omega, fun h => absurd h (by simp)⟩
def DrewS2 (w : World) (e : Ending) (w' : World) : Prop := ∃ (u u2 : Value) (m m2 : List Sg), e = .returned (.tuple #[u, u2]) ∧ SlS w' w'.heap.size u m ∧ SlS w' w'.heap.size u2 m2 ∧ m.length ≤ 1200 ∧ m2.length ≤ 1200 ∧ Below w.heap.size w w'
set_option maxHeartbeats 1000000 in
theorem drawSame_any (v : Value) (l : List Int) (w : World) (hv : CodeV w v l) : Calls Tryz.prog 55 #[v] w (DrewS2 w) := by
  have OP := Lib.hid (l12Open_any v l w hv)
  have OP2 := Lib.hid (fun (w' : World) (h : Below w.heap.size w w') => l12Open_any v l w' (hv.later h))
  have HV := Lib.hid hv
  obtain ⟨A, c, rfl, hc, hm⟩ := hv.1.val
  clear hv
  go_enter Tryz.func55, Tryz.ntmps55
  go_wp2_with fail
  refine OP.out.mono ?_
  rintro r w1 ⟨rfl, hR, hb1⟩
  go_wp2_with fail
  refine (l8Bent_any _ _ _ hR (by omega)).mono ?_
  rintro r w2 ⟨u, m, p2, rfl, hG, hml, hR2, hp2, hg2⟩
  have hr1 := hR.lt
  have hz := hb1.size
  have hbw2 : Below w.heap.size w w2 := hb1.trans (below_of_grown hg2 (Nat.le_refl _) hr1)
  have HX := Lib.hid (And.intro hG hbw2)
  clear hG hg2 hb1 hR hR2
  go_wp2_with fail
  refine (OP2.out _ hbw2).mono ?_
  rintro r w3 ⟨rfl, hR3, hb3⟩
  go_wp2_with fail
  refine (l8Bent_any _ _ _ hR3 (by omega)).mono ?_
  rintro r w4 ⟨u4, m4, p4, rfl, hG4, hml4, hR4, hp4, hg4⟩
  have hr3 := hR3.lt
  have hz3 := hb3.size
  have hb24 : Below w2.heap.size w2 w4 := hb3.trans (below_of_grown hg4 (Nat.le_refl _) hr3)
  have hbw4 := hbw2.ext hb24
  have HS := Lib.hid (And.intro ((HX.out.1.ext hb24).sl (fun _ => rfl)) (hG4.sl (fun _ => rfl)))
  obtain ⟨Au, cu, rfl, _, _⟩ := HX.out.1.val
  have HG4 := Lib.hid hG4
  obtain ⟨A4, c4, rfl, _, _⟩ := hG4.val
  clear hG4 hg4 hb3 hR3 hR4 HX OP OP2
  by_cases hc0 : l.length = 0
  · obtain rfl : l = [] := List.length_eq_zero_iff.1 hc0
    go_wp2_with fail
    refine bodyPost_ret (v := .tuple #[_, _]) (by simp [results, Tryz.results55, go_sem]; exact ⟨rfl, rfl⟩) rfl ?_
    exact ⟨_, _, m, m4, rfl, HS.out.1, HS.out.2, hml, hml4, hbw4⟩
  have hl0 : 0 < l.length := by omega
  have hd : decide ((0 : Int) < ((l.length : Nat) : Int)) = true := by rw [decide_eq_true_eq]; omega
  have hS0 := (HV.out.later hbw4).1
  obtain ⟨b, o, x, rfl, hb, hgx, h0⟩ := sl_at hS0 hl0
  have k0 : w4.cell? ⟨b, o, none⟩ = some (.int .u8 x) := by have := h0 ⟨w4, Below.refl _ _⟩ 0 _ rfl; simpa using this
  have hx := HV.out.2 x (List.mem_of_getElem? hgx)
  obtain ⟨ob, hob⟩ : ∃ ob, (x % 2 == 1) = ob := ⟨_, rfl⟩
  clear h0 hgx hS0
  cases ob
  · go_wp2_with fail
    refine bodyPost_ret (v := .tuple #[_, _]) (by simp [results, Tryz.results55, go_sem]; exact ⟨rfl, rfl⟩) rfl ?_
    exact ⟨_, _, m, m4, rfl, HS.out.1, HS.out.2, hml, hml4, hbw4⟩
  by_cases hm0 : m4.length = 0
  · obtain rfl : m4 = [] := List.length_eq_zero_iff.1 hm0
    go_wp2_with fail
    refine bodyPost_ret (v := .tuple #[_, _]) (by simp [results, Tryz.results55, go_sem]; exact ⟨rfl, rfl⟩) rfl ?_
    exact ⟨_, _, m, [], rfl, HS.out.1, HS.out.2, hml, hml4, hbw4⟩
  · have hpos : 0 < m4.length := by omega
    obtain ⟨g, cap, he, _, _⟩ := HG4.out.block hpos
    obtain ⟨rfl, rfl⟩ : A4 = some ⟨g, 0, none⟩ ∧ c4 = cap := by injection he; exact ⟨‹_›, ‹_›⟩
    have hd2 : decide ((0 : Int) < ((m4.length : Nat) : Int)) = true := by rw [decide_eq_true_eq]; omega
    have hcap : m4.length ≤ c4 := ‹m4.length ≤ c4›
    by_cases hc1 : c4 = 1
    · subst hc1
      go_wp2_with fail
      refine bodyPost_ret (v := .tuple #[_, _]) (by simp [results, Tryz.results55, go_sem]; exact ⟨rfl, rfl⟩) rfl ?_
      exact ⟨_, _, m, m4.tail, rfl, HS.out.1, sg_tail0 hcap, hml, by simp; omega, hbw4⟩
    · go_wp2_with fail
      refine bodyPost_ret (v := .tuple #[_, _]) (by simp [results, Tryz.results55, go_sem]; exact ⟨rfl, rfl⟩) rfl ?_
      exact ⟨_, _, m, m4.tail, rfl, HS.out.1, sg_tail' HS.out.2 hpos, hml, by simp; omega, hbw4⟩
end Go.Proofs.YtgfbjpmbaibnoaaGreatDoor


/- The law FnMapSame: the walk. -/
namespace Go.Proofs.YtgfbjpmbaibnoaaGreatDoor
set_option maxRecDepth 100000
set_option linter.unusedSimpArgs false
set_option linter.unusedVariables false
open Go.RowKit
attribute [local go_sem] bs_toList bs_get bs_size

theorem imMapTxt_any (v : Value) (l : List Sg) (w : World) (hv : SlS w w.heap.size v l) :
    Calls Tryz.prog 43 #[v] w fun e w' => e = .returned (.string (bs (mapTextL l))) ∧ Below w.heap.size w w' := by
  go_enter Tryz.func43, Tryz.ntmps43
  go_wp2_with fail
  refine (imSegsOk_any _ _ l hv).mono ?_
  rintro e w1 ⟨rfl, hE⟩
  by_cases hok : SegsOk l
  · rw [segsOkB_yes hok]
    go_wp2_with fail
    refine (imText_yes _ l _ (hv.ext hE) hok).mono ?_
    rintro e w2 ⟨rfl, hE2⟩
    go_wp2_with fail
    go_ret
    exact ⟨ret_bs (by unfold mapTextL; rw [if_pos (segsOkB_yes hok)]), hE.ext hE2⟩
  · rw [segsOkB_no hok]
    go_wp2_with fail
    go_ret
    exact ⟨ret_bs (a := []) (by unfold mapTextL; rw [if_neg (by rw [segsOkB_no hok]; decide)]), hE⟩
/-- texts compared -/
theorem eq_bs (x y : Bytes) : (x == y) = decide (x = y) := by
  by_cases h : x = y
  · subst h; simp
  · rw [decide_eq_false h]; rw [beq_eq_false_iff_ne]; exact h
theorem sg_take {w : World} {B n c k : Nat} {A : Option Addr} {l : List Sg} (h : SlS w B (.slice A n c) l) (hk : k ≤ l.length) : SlS w B (.slice A k c) (l.take k) := h.take hk
end Go.Proofs.YtgfbjpmbaibnoaaGreatDoor


/- Plain Lean: a text is cut at a byte. No program in sight, no condition. -/
namespace Go.Proofs.YtgfbjpmbaibnoaaGreatDoor
set_option maxRecDepth 100000
set_option linter.unusedSimpArgs false
set_option linter.unusedVariables false
open Go.RowKit

/-- the pieces between bytes c -/
def cutB (c : UInt8) : Bytes → List Bytes
  | [] => [[]]
  | x :: s => if x = c then [] :: cutB c s else match cutB c s with | [] => [[x]] | r :: rs => (x :: r) :: rs
theorem cutB_ne (c : UInt8) (s : Bytes) : cutB c s ≠ [] := by
  cases s with
  | nil => simp [cutB]
  | cons x s =>
    unfold cutB
    split
    · simp
    · split <;> simp
theorem cutB_ex (c : UInt8) (s : Bytes) : ∃ r rs, cutB c s = r :: rs := by
  cases h : cutB c s with
  | nil => exact absurd h (cutB_ne c s)
  | cons r rs => exact ⟨r, rs, rfl⟩
theorem cutB_self (c : UInt8) (s : Bytes) : cutB c (c :: s) = [] :: cutB c s := by simp [cutB]
theorem cutB_app {c : UInt8} {s : Bytes} {r : Bytes} {rs : List Bytes} (h : cutB c s = r :: rs) : ∀ (x : Bytes), (∀ y ∈ x, y ≠ c) → cutB c (x ++ s) = (x ++ r) :: rs
  | [], _ => h
  | y :: x, hx => by
    have ih := cutB_app h x (fun z hz => hx z (List.mem_cons_of_mem _ hz))
    rw [List.cons_append, cutB, if_neg (hx y (List.mem_cons_self ..)), ih]
    rfl
theorem cutB_none {c : UInt8} {x : Bytes} (hx : ∀ y ∈ x, y ≠ c) : cutB c x = [x] := by
  have := cutB_app (show cutB c [] = [[]] from rfl) x hx
  simpa using this
theorem mem_take_ne {s : Bytes} {c : UInt8} {f i : Nat} (h : ∀ (t : Nat) (x : UInt8), f ≤ t → t < i → s[t]? = some x → x ≠ c) : ∀ y ∈ (s.drop f).take (i - f), y ≠ c := by
  intro y hy
  obtain ⟨k, hk, rfl⟩ := List.mem_iff_getElem.1 hy
  have hk2 := hk
  rw [List.length_take, List.length_drop] at hk2
  refine h (f + k) _ (by omega) (by omega) ?_
  rw [List.getElem_take, List.getElem_drop]
  exact List.getElem?_eq_getElem _
theorem cutB_at {s : Bytes} {c : UInt8} {f i : Nat} (hf : f ≤ i) (hc : s[i]? = some c) (h : ∀ (t : Nat) (x : UInt8), f ≤ t → t < i → s[t]? = some x → x ≠ c) : cutB c (s.drop f) = (s.drop f).take (i - f) :: cutB c (s.drop (i + 1)) := by
  obtain ⟨hi, hg⟩ := List.getElem?_eq_some_iff.1 hc
  have h1 : s.drop f = (s.drop f).take (i - f) ++ c :: s.drop (i + 1) := by
    conv => lhs; rw [← List.take_append_drop (i - f) (s.drop f)]
    rw [List.drop_drop, show f + (i - f) = i by omega, List.drop_eq_getElem_cons hi, hg]
  conv => lhs; rw [h1]
  rw [cutB_app (cutB_self c _) _ (mem_take_ne h)]
  simp
theorem cutB_end {s : Bytes} {c : UInt8} {f : Nat} (h : ∀ (t : Nat) (x : UInt8), f ≤ t → t < s.length → s[t]? = some x → x ≠ c) : cutB c (s.drop f) = [s.drop f] := by
  refine cutB_none ?_
  have := mem_take_ne (f := f) (i := s.length) h
  rw [List.take_of_length_le (by simp)] at this
  exact this
/-- how many pieces -/
theorem cutB_len (c : UInt8) : ∀ s : Bytes, (cutB c s).length = s.count c + 1
  | [] => rfl
  | x :: s => by
    have ih := cutB_len c s
    unfold cutB
    split
    · next h => subst h; simp [ih]
    · next h =>
      obtain ⟨r, rs, e⟩ := cutB_ex c s
      rw [e] at ih ⊢
      simp only [List.length_cons] at ih ⊢
      rw [List.count_cons_of_ne (by simpa using h)]
      exact ih
theorem cutB_mem_len {c : UInt8} : ∀ (s : Bytes) (r : Bytes), r ∈ cutB c s → r.length ≤ s.length
  | [], r, h => by simp [cutB] at h; simp [h]
  | x :: s, r, h => by
    unfold cutB at h
    split at h
    · rw [List.mem_cons] at h
      rcases h with rfl | h
      · simp
      · have := cutB_mem_len s r h
        simp; omega
    · obtain ⟨r0, rs, e⟩ := cutB_ex c s
      rw [e, List.mem_cons] at h
      rcases h with rfl | h
      · have := cutB_mem_len s r0 (by rw [e]; exact List.mem_cons_self ..)
        simp; omega
      · have := cutB_mem_len s r (by rw [e]; exact List.mem_cons_of_mem _ h)
        simp; omega
theorem cutB_no (c : UInt8) : ∀ (s : Bytes) (r : Bytes), r ∈ cutB c s → ∀ y ∈ r, y ≠ c
  | [], r, h, y, hy => by simp [cutB] at h; subst h; simp at hy
  | x :: s, r, h, y, hy => by
    unfold cutB at h
    split at h
    · rw [List.mem_cons] at h
      rcases h with rfl | h
      · simp at hy
      · exact cutB_no c s r h y hy
    · next hx =>
      obtain ⟨r0, rs, e⟩ := cutB_ex c s
      rw [e, List.mem_cons] at h
      rcases h with rfl | h
      · rw [List.mem_cons] at hy
        rcases hy with rfl | hy
        · exact hx
        · exact cutB_no c s r0 (by rw [e]; exact List.mem_cons_self ..) y hy
      · exact cutB_no c s r (by rw [e]; exact List.mem_cons_of_mem _ h) y hy
/-- how much the first pieces hold -/
def sumR (rows : List Bytes) (i : Nat) : Nat := ((rows.take i).map (fun r => r.length + 1)).sum
theorem sumR_zero (rows : List Bytes) : sumR rows 0 = 0 := rfl
theorem sumR_succ {rows : List Bytes} {i : Nat} {r : Bytes} (h : rows[i]? = some r) : sumR rows (i + 1) = sumR rows i + (r.length + 1) := by
  obtain ⟨hi, rfl⟩ := List.getElem?_eq_some_iff.1 h
  unfold sumR
  rw [List.take_succ_eq_append_getElem hi, List.map_append, List.sum_append]
  simp only [List.map_cons, List.map_nil, List.sum_cons, List.sum_nil]
  omega
theorem sumR_le (rows : List Bytes) (i : Nat) : sumR rows i ≤ (rows.map (fun r => r.length + 1)).sum := by
  unfold sumR
  conv => rhs; rw [← List.take_append_drop i rows]
  rw [List.map_append, List.sum_append]
  omega
theorem cutB_sum (c : UInt8) : ∀ s : Bytes, ((cutB c s).map (fun r => r.length + 1)).sum = s.length + 1
  | [] => rfl
  | x :: s => by
    have ih := cutB_sum c s
    unfold cutB
    split
    · simp only [List.map_cons, List.sum_cons, List.length_nil, List.length_cons]; omega
    · obtain ⟨r, rs, e⟩ := cutB_ex c s
      rw [e] at ih ⊢
      simp only [List.map_cons, List.sum_cons, List.length_cons] at ih ⊢
      omega
theorem cutB_sumR (c : UInt8) (s : Bytes) (i : Nat) : sumR (cutB c s) i ≤ s.length + 1 := by
  have := sumR_le (cutB c s) i
  rw [cutB_sum] at this
  exact this
theorem sumR_take (rows : List Bytes) (n i : Nat) (h : i ≤ n) : sumR (rows.take n) i = sumR rows i := by
  unfold sumR
  rw [List.take_take, Nat.min_eq_left h]
/-- the library's pieces are these -/
theorem splitK_cut (c : UInt8) : ∀ (n : Nat) (s : Bytes), s.length ≤ n → Lib.splitK [c] 0 (Lib.count s [c]) s = cutB c s := by
  intro n
  induction n with
  | zero =>
    intro s hs
    obtain rfl : s = [] := by cases s; rfl; simp at hs
    rw [Lib.count_one]
    rfl
  | succ n ih =>
    intro s hs
    rw [Lib.count_one]
    by_cases hm : Lib.indexByte s c = -1
    · have h0 : ∀ y ∈ s, y ≠ c := by
        intro y hy e
        subst e
        obtain ⟨k, hk, rfl⟩ := List.mem_iff_getElem.1 hy
        exact Lib.indexByte_none hm k (List.getElem?_eq_getElem hk)
      rw [cutB_none h0, List.count_eq_zero.2 (fun h => h0 c h rfl)]
      rfl
    · have hge := Lib.indexByte_ge s c
      obtain ⟨i, hi⟩ : ∃ i : Nat, Lib.indexByte s c = i := ⟨(Lib.indexByte s c).toNat, by omega⟩
      obtain ⟨h1, h2⟩ := Lib.indexByte_some hi
      obtain ⟨hil, hg⟩ := List.getElem?_eq_some_iff.1 h1
      have hcut := cutB_at (s := s) (f := 0) (i := i) (Nat.zero_le _) h1 (fun t x _ ht hx e => h2 t ht (by rw [hx, e]))
      rw [List.drop_zero, Nat.sub_zero] at hcut
      have hcnt : s.count c = (s.drop (i + 1)).count c + 1 := by
        have h3 := cutB_len c s
        rw [hcut, List.length_cons, cutB_len] at h3
        omega
      have hd : (s.drop (i + 1)).length ≤ n := by rw [List.length_drop]; omega
      have ih2 := ih (s.drop (i + 1)) hd
      rw [Lib.count_one] at ih2
      rw [hcnt, hcut, ← ih2]
      have hx : Lib.index s [c] = (i : Int) := by rw [Lib.index_one, hi]
      rw [Lib.splitK, hx, if_neg (by simp)]
      simp
end Go.Proofs.YtgfbjpmbaibnoaaGreatDoor
