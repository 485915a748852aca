
/- Places that are drawn twice, the same or nearly. -/
import Derived.Test.YtppefinpekhbeaaDwGH
import Derived.Test.YtppefinpekhbeaaAppGs
namespace Go.Proofs.Ytppefinpekhbeaa
set_option maxRecDepth 100000
set_option linter.unusedSimpArgs false
set_option linter.unusedVariables false
open Go.RowKit
attribute [local go_sem] bs_toList bs_get bs_size

theorem CodeV.later {w w' : World} {v : Value} {l : List Int} (h : CodeV w v l) (hb : Below w.heap.size w w') : CodeV w' v l := ⟨(h.1.below hb (Nat.le_refl _)).more hb.size, h.2⟩
theorem sg_tail {w : World} {B b o n c : Nat} {s : Sg} {l : List Sg} (h : SlS w B (.slice (some ⟨b, o, none⟩) n c) (s :: l)) : SlS w B (.slice (some ⟨b, o + 4, none⟩) l.length (c - 1)) l := by
  obtain ⟨A, c', hv, hc, hm, hh⟩ := h
  obtain ⟨hA, _, rfl⟩ : some ⟨b, o, none⟩ = A ∧ n = (s :: l).length ∧ c = c' := by injection hv; exact ⟨‹_›, ‹_›, ‹_›⟩
  simp only [List.length_cons] at hc
  refine ⟨_, c - 1, rfl, by omega, by omega, fun h0 => ?_⟩
  obtain ⟨b', o', hA', hb, hx⟩ := hh (by simp)
  rw [← hA] at hA'
  obtain ⟨rfl, rfl⟩ : b = b' ∧ o = o' := by injection hA' with e; injection e; exact ⟨‹_›, ‹_›⟩
  exact ⟨b, o + 4, rfl, hb, fun i t ht j x hj => by
    have := hx (i + 1) t (by simpa using ht) j x hj
    rw [show o + (i + 1) * 4 + j = o + 4 + i * 4 + j by omega] at this
    exact this⟩
theorem sg_tail' {w : World} {B b n c : Nat} {l : List Sg} (h : SlS w B (.slice (some ⟨b, 0, none⟩) n c) l) (h0 : 0 < l.length) : SlS w B (.slice (some ⟨b, 4, none⟩) (l.length - 1) (c - 1)) l.tail := by
  cases l with
  | nil => simp at h0
  | cons s l => simpa using sg_tail h
theorem sg_tail0 {w : World} {B : Nat} {A : Option Addr} {l : List Sg} (h : l.length ≤ 1) : SlS w B (.slice A 0 0) l.tail := by
  have e : l.tail = [] := List.length_eq_zero_iff.1 (by rw [List.length_tail]; omega)
  rw [e]
  exact ⟨A, 0, rfl, Nat.le_refl _, by unfold maxLen; omega, fun h => absurd h (by simp)⟩
theorem sg_nil (w : World) (B : Nat) : SlS w B (.slice none 0 0) [] := ⟨none, 0, rfl, Nat.le_refl _, by unfold maxLen; omega, fun h => absurd h (by simp)⟩
def DrewS2 (w : World) (e : Ending) (w' : World) : Prop := ∃ (u u2 : Value) (m m2 : List Sg), e = .returned (.tuple #[u, u2]) ∧ SlS w' w'.heap.size u m ∧ SlS w' w'.heap.size u2 m2 ∧ m.length ≤ 1200 ∧ m2.length ≤ 1200 ∧ Below w.heap.size w w'
set_option maxHeartbeats 1000000 in
theorem drawSame_any (v : Value) (l : List Int) (w : World) (hv : CodeV w v l) : Calls Try.prog 23 #[v] w (DrewS2 w) := by
  have OP := Lib.hid (l12Open_any v l w hv)
  have OP2 := Lib.hid (fun (w' : World) (h : Below w.heap.size w w') => l12Open_any v l w' (hv.later h))
  have HV := Lib.hid hv
  obtain ⟨A, c, rfl, hc, hm⟩ := hv.1.val
  clear hv
  go_enter Try.func23, Try.ntmps23
  go_wp2_with fail
  refine OP.out.mono ?_
  rintro r w1 ⟨rfl, hR, hb1⟩
  go_wp2_with fail
  refine (l8Bent_any _ _ _ hR (by omega)).mono ?_
  rintro r w2 ⟨u, m, p2, rfl, hG, hml, hR2, hp2, hg2⟩
  have hr1 := hR.lt
  have hz := hb1.size
  have hbw2 : Below w.heap.size w w2 := hb1.trans (below_of_grown hg2 (Nat.le_refl _) hr1)
  have HX := Lib.hid (And.intro hG hbw2)
  clear hG hg2 hb1 hR hR2
  go_wp2_with fail
  refine (OP2.out _ hbw2).mono ?_
  rintro r w3 ⟨rfl, hR3, hb3⟩
  go_wp2_with fail
  refine (l8Bent_any _ _ _ hR3 (by omega)).mono ?_
  rintro r w4 ⟨u4, m4, p4, rfl, hG4, hml4, hR4, hp4, hg4⟩
  have hr3 := hR3.lt
  have hz3 := hb3.size
  have hb24 : Below w2.heap.size w2 w4 := hb3.trans (below_of_grown hg4 (Nat.le_refl _) hr3)
  have hbw4 := hbw2.ext hb24
  have HS := Lib.hid (And.intro ((HX.out.1.ext hb24).sl (fun _ => rfl)) (hG4.sl (fun _ => rfl)))
  obtain ⟨Au, cu, rfl, _, _⟩ := HX.out.1.val
  have HG4 := Lib.hid hG4
  obtain ⟨A4, c4, rfl, _, _⟩ := hG4.val
  clear hG4 hg4 hb3 hR3 hR4 HX OP OP2
  by_cases hc0 : l.length = 0
  · obtain rfl : l = [] := List.length_eq_zero_iff.1 hc0
    go_wp2_with fail
    refine bodyPost_ret (v := .tuple #[_, _]) (by simp [results, Try.results23, go_sem]; exact ⟨rfl, rfl⟩) rfl ?_
    exact ⟨_, _, m, m4, rfl, HS.out.1, HS.out.2, hml, hml4, hbw4⟩
  have hl0 : 0 < l.length := by omega
  have hd : decide ((0 : Int) < ((l.length : Nat) : Int)) = true := by rw [decide_eq_true_eq]; omega
  have hS0 := (HV.out.later hbw4).1
  obtain ⟨b, o, x, rfl, hb, hgx, h0⟩ := sl_at hS0 hl0
  have k0 : w4.cell? ⟨b, o, none⟩ = some (.int .u8 x) := by have := h0 ⟨w4, Below.refl _ _⟩ 0 _ rfl; simpa using this
  have hx := HV.out.2 x (List.mem_of_getElem? hgx)
  obtain ⟨ob, hob⟩ : ∃ ob, (x % 2 == 1) = ob := ⟨_, rfl⟩
  clear h0 hgx hS0
  cases ob
  · go_wp2_with fail
    refine bodyPost_ret (v := .tuple #[_, _]) (by simp [results, Try.results23, go_sem]; exact ⟨rfl, rfl⟩) rfl ?_
    exact ⟨_, _, m, m4, rfl, HS.out.1, HS.out.2, hml, hml4, hbw4⟩
  by_cases hm0 : m4.length = 0
  · obtain rfl : m4 = [] := List.length_eq_zero_iff.1 hm0
    go_wp2_with fail
    refine bodyPost_ret (v := .tuple #[_, _]) (by simp [results, Try.results23, go_sem]; exact ⟨rfl, rfl⟩) rfl ?_
    exact ⟨_, _, m, [], rfl, HS.out.1, HS.out.2, hml, hml4, hbw4⟩
  · have hpos : 0 < m4.length := by omega
    obtain ⟨g, cap, he, _, _⟩ := HG4.out.block hpos
    obtain ⟨rfl, rfl⟩ : A4 = some ⟨g, 0, none⟩ ∧ c4 = cap := by injection he; exact ⟨‹_›, ‹_›⟩
    have hd2 : decide ((0 : Int) < ((m4.length : Nat) : Int)) = true := by rw [decide_eq_true_eq]; omega
    have hcap : m4.length ≤ c4 := ‹m4.length ≤ c4›
    by_cases hc1 : c4 = 1
    · subst hc1
      go_wp2_with fail
      refine bodyPost_ret (v := .tuple #[_, _]) (by simp [results, Try.results23, go_sem]; exact ⟨rfl, rfl⟩) rfl ?_
      exact ⟨_, _, m, m4.tail, rfl, HS.out.1, sg_tail0 hcap, hml, by simp; omega, hbw4⟩
    · go_wp2_with fail
      refine bodyPost_ret (v := .tuple #[_, _]) (by simp [results, Try.results23, go_sem]; exact ⟨rfl, rfl⟩) rfl ?_
      exact ⟨_, _, m, m4.tail, rfl, HS.out.1, sg_tail' HS.out.2 hpos, hml, by simp; omega, hbw4⟩
end Go.Proofs.Ytppefinpekhbeaa
