
/- The kind of a word, where it is a name or a number; words that are drawn. -/
import Derived.Test.YtgoobhmbfjimoaaDoorAto
import Derived.Test.YtgoobhmbfjimoaaDoorDwPQ
namespace Go.Proofs.YtgoobhmbfjimoaaDoor
set_option maxRecDepth 100000
set_option linter.unusedSimpArgs false
set_option linter.unusedVariables false
open Go.RowKit
attribute [local go_sem] bs_toList bs_get bs_size

theorem imTokNum_any (s : Bytes) (w : World) (hs : s.length ≤ 100000000) (hE : EnvA w) : Calls Tryd.prog 67 #[.int .i64 2, .string (bs s)] w fun e w' => e = .returned (.bool (numB s)) ∧ Below w.heap.size w w' := by
  have C := Lib.hid (imNumber_any s w hs hE)
  clear hE
  go_enter Tryd.func67, Tryd.ntmps67
  go_wp2_with fail
  refine C.out.mono ?_
  rintro e w1 ⟨n, rfl, _, hb⟩
  go_wp2_with fail
  go_ret
  exact ⟨rfl, hb⟩
theorem imKind_word (s : Bytes) (w : World) (hs : s.length ≤ 100000000) (hw : wordB s = true) : Calls Tryd.prog 30 #[.string (bs s)] w fun e w' => e = .returned (.int .i64 1) ∧ w = w' := by
  have C := Lib.hid (imTokWord_any s w (by omega))
  rw [hw] at C
  clear hw
  go_enter Tryd.func30, Tryd.ntmps30
  go_wp2_with fail
  go_loopg [3] 0 (fun n a wr => n = 0 ∧ a = .int .i64 1 ∧ wr = w)
  case atStart => exact ⟨rfl, rfl, rfl⟩
  case round =>
    obtain ⟨rfl, rfl, rfl⟩ := hrel
    go_wp2_with fail
    refine C.out.mono ?_
    rintro e _ ⟨rfl, rfl⟩
    go_wp2_with fail
    go_ret
    exact ⟨rfl, rfl⟩
theorem imKind_num (s : Bytes) (w : World) (hs : s.length ≤ 100000000) (hw : wordB s = false) (hn : numB s = true) (hE : EnvA w) : Calls Tryd.prog 30 #[.string (bs s)] w fun e w' => e = .returned (.int .i64 2) ∧ Below w.heap.size w w' := by
  have C := Lib.hid (imTokWord_any s w (by omega))
  have C2 := Lib.hid (imTokNum_any s w hs hE)
  rw [hw] at C
  rw [hn] at C2
  clear hw hn hE
  go_enter Tryd.func30, Tryd.ntmps30
  go_wp2_with fail
  go_loopg [3] 1 (fun n a wr => ((n = 1 ∧ a = .int .i64 1) ∨ (n = 0 ∧ a = .int .i64 2)) ∧ wr = w)
  case atStart => exact ⟨.inl ⟨rfl, rfl⟩, rfl⟩
  case round =>
    obtain ⟨⟨rfl, rfl⟩ | ⟨rfl, rfl⟩, rfl⟩ := hrel
    · go_wp2_with fail
      refine C.out.mono ?_
      rintro e _ ⟨rfl, rfl⟩
      go_wp2_with fail
      go_roundg 0
      case measure => omega
      case rel => exact ⟨.inr ⟨rfl, rfl⟩, rfl⟩
    · go_wp2_with fail
      refine C2.out.mono ?_
      rintro e w1 ⟨rfl, hb⟩
      go_wp2_with fail
      go_ret
      exact ⟨rfl, hb⟩
def WordP (rb p : Nat) (w : World) (e : Ending) (w' : World) : Prop := ∃ (s : Bytes) (p' : Nat), e = .returned (.string (bs s)) ∧ s.length ≤ 100 ∧ Rd w' rb p' ∧ p' ≤ p + 2 ∧ w.grownBy w' (some rb)
theorem mem_short {l : List Bytes} {s : Bytes} (h : s ∈ l) (hl : l.all (fun x => decide (x.length ≤ 100)) = true) : s.length ≤ 100 := by
  rw [List.all_eq_true] at hl
  simpa using hl s h
def someW : List Bytes := [[108, 101, 116], [115, 97, 121], [120], [121], [97, 115], [105, 110, 116], [49], [50, 48], [48], [43], [42], [40], [41], [58], [61], [60], [45], [49, 48, 48, 48, 48, 48, 48]]
def bentW : List Bytes := [[], [88], [48, 49], [97, 98, 99, 100, 101, 102, 103, 104, 105], [49, 48, 48, 48, 48, 48, 49], [43, 45], [63], [97, 49], [45, 49]]
set_option maxHeartbeats 1000000 in
theorem l3Some_any (rb p : Nat) (w : World) (h : Rd w rb p) (hp : p ≤ 100000) : Calls Tryd.prog 85 #[.pointer (some ⟨rb, 0, none⟩)] w (WordP rb p w) := by
  have hrb := h.lt
  have OF := Lib.hid (of_any rb p w.heap.size someW (w.alloc (.cells (someW.map (fun s => Value.string (bs s))).toArray 9)) (h.alloc _) (by omega) (by simp [someW]) (by simp [someW]) (by omega) (Blk.new _ _ _))
  clear h
  go_enter Tryd.func85, Tryd.ntmps85
  go_wp2_with fail
  refine OF.out.mono ?_
  rintro e w1 ⟨s, rfl, hm, hR, hg⟩
  have HX := Lib.hid (And.intro (mem_short hm (by decide)) (And.intro hR hg))
  clear hm hR hg
  go_wp2_with fail
  go_ret
  obtain ⟨h1, hR, hg⟩ := HX.out
  exact ⟨s, _, rfl, h1, hR, by omega, grown_tr (grown_al (grown_rfl _ _) _) hg⟩
set_option maxHeartbeats 1000000 in
theorem l3Bent_any (rb p : Nat) (w : World) (h : Rd w rb p) (hp : p ≤ 90000) : Calls Tryd.prog 61 #[.pointer (some ⟨rb, 0, none⟩)] w (fun e w' => ∃ s : Bytes, e = .returned (.string (bs s)) ∧ s.length ≤ 100 ∧ w.grownBy w' (some rb)) := by
  have PK := Lib.hid (pick_any rb p 8 w h (by omega) (by omega) (by omega))
  have hrb := h.lt
  clear h
  go_enter Tryd.func61, Tryd.ntmps61
  go_wp2_with fail
  refine PK.out.mono ?_
  rintro e w1 ⟨k, rfl, hk1, hk2, hR1, hg1⟩
  have hz1 := hg1.size
  by_cases hk : k = 0
  · subst hk
    have OF := Lib.hid (of_any rb (p + 1) w1.heap.size bentW (w1.alloc (.cells (bentW.map (fun s => Value.string (bs s))).toArray 9)) (hR1.alloc _) (by omega) (by simp [bentW]) (by simp [bentW]) (by omega) (Blk.new _ _ _))
    have HG := Lib.hid hg1
    clear hR1 hg1
    go_wp2_with fail
    refine OF.out.mono ?_
    rintro e w2 ⟨s, rfl, hm, hR, hg⟩
    have HX := Lib.hid (And.intro (mem_short hm (by decide)) hg)
    clear hm hR hg
    go_wp2_with fail
    go_ret
    obtain ⟨h1, hg⟩ := HX.out
    exact ⟨s, rfl, h1, grown_tr (grown_al HG.out _) hg⟩
  · have hd : (k == 0) = false := by simpa using hk
    have SM := Lib.hid (l3Some_any rb (p + 1) w1 hR1 (by omega))
    have HG := Lib.hid hg1
    clear hR1 hg1
    go_wp2_with fail
    refine SM.out.mono ?_
    rintro e w2 ⟨s, p', rfl, h1, hR, hp', hg⟩
    go_wp2_with fail
    go_ret
    exact ⟨s, rfl, h1, grown_tr HG.out hg⟩
theorem drawWord_any (v : Value) (l : List Int) (w : World) (hv : CodeV w v l) : Calls Tryd.prog 27 #[v] w fun e w' => ∃ s : Bytes, e = .returned (.string (bs s)) ∧ s.length ≤ 100 ∧ Below w.heap.size w w' := by
  have OP := Lib.hid (l12Open_any v l w hv)
  obtain ⟨A, c, rfl, hc, hm⟩ := hv.1.val
  clear hv
  go_enter Tryd.func27, Tryd.ntmps27
  go_wp2_with fail
  refine OP.out.mono ?_
  rintro e w1 ⟨rfl, hR, hb⟩
  have BE := Lib.hid (l3Bent_any w.heap.size 0 w1 hR (by omega))
  have hlt := hR.lt
  clear hR
  go_wp2_with fail
  refine BE.out.mono ?_
  rintro e w2 ⟨s, rfl, h1, hg⟩
  go_wp2_with fail
  go_ret
  exact ⟨s, rfl, h1, hb.trans (below_of_grown hg (Nat.le_refl _) hlt)⟩
end Go.Proofs.YtgoobhmbfjimoaaDoor
