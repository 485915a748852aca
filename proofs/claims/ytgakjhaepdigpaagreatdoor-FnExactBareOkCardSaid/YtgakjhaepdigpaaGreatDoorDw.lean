
/- The reader of a code: a number, one of a list. -/
import Derived.Test.YtgakjhaepdigpaaGreatDoorRdDr
import Derived.BigQuiet
namespace Go.Proofs.YtgakjhaepdigpaaGreatDoor
set_option maxRecDepth 100000
set_option linter.unusedSimpArgs false
set_option linter.unusedVariables false
open Go.RowKit
attribute [local go_sem] bs_toList bs_get bs_size

theorem tmod_pos {a b : Int} (ha : 0 ≤ a) (hb : 0 < b) : 0 ≤ a.tmod b ∧ a.tmod b < b := by
  rw [Int.tmod_eq_emod_of_nonneg ha]
  exact ⟨Int.emod_nonneg _ (by omega), Int.emod_lt_of_pos _ hb⟩
theorem w64_in {n : Int} (h : -9223372036854775808 ≤ n ∧ n ≤ 9223372036854775807) : wrap64 n = n := by unfold wrap64; omega
theorem pick_last {X n : Int} (h0 : 0 ≤ X) (h1 : X < 1099511627776) (hn : 0 < n) : 0 ≤ (bits .xor .i64 X (wrap64 (X.tdiv 64))).tmod n ∧ (bits .xor .i64 X (wrap64 (X.tdiv 64))).tmod n < n := by
  have e : X.tdiv 64 = X / 64 := Int.tdiv_eq_ediv_of_nonneg h0
  rw [e, show wrap64 (X / 64) = X / 64 by unfold wrap64; omega]
  exact tmod_pos (xor_nonneg h0 (by omega) (by omega) (by omega)) hn
/-- what pick tells -/
def Picked (rb p n : Nat) (w : World) (e : Ending) (w' : World) : Prop := ∃ k : Int, e = .returned (.int .i64 k) ∧ 0 ≤ k ∧ k < n ∧ Rd w' rb (p + 1) ∧ w.grownBy w' (some rb)
set_option maxHeartbeats 4000000 in
theorem pick_all (rb p n : Nat) (w : World) (h : Rd w rb p) (hp : p ≤ 1000000) (h0 : 1 ≤ n) (hn : n ≤ 1000000) : Calls Tryz.prog 109 #[.pointer (some ⟨rb, 0, none⟩), .int .i64 (n : Int)] w (fun e w' => Picked rb p n w e w' ∧ w'.heap.size = w.heap.size) := by
  obtain ⟨A, c, l, h1, h2, h3, h4⟩ := h
  have hw1 : IntKind.i64.wrap ((p : Int) + 1) = (p : Int) + 1 := by rw [IntKind.wrap_i64]; omega
  have hw2 : IntKind.i64.wrap ((p : Int) + 1 - 1) = (p : Int) := by rw [IntKind.wrap_i64]; omega
  have c0 := h1.cell 0
  have c1 := h1.cell 1
  have z1 := h1.frozen 1
  simp at c0 c1
  have h1' := h1.set_ 1 (.int .i64 ((p : Int) + 1))
  have d0 := h1'.cell 0
  have d1 := h1'.cell 1
  simp at d0 d1
  have hgr : w.grownBy (w.setCell ⟨rb, 1, none⟩ (.int .i64 ((p : Int) + 1))) (some rb) := grown_st (grown_rfl w _) _ _
  have hRd : Rd (w.setCell ⟨rb, 1, none⟩ (.int .i64 ((p : Int) + 1))) rb (p + 1) := ⟨A, c, l, by simpa using h1', h2, h3, h4.grown hgr (fun q e => by have := Option.some.inj e; omega) (by have := h1.lt; omega)⟩
  have HR := Lib.hid (And.intro hRd hgr)
  have hn1 : decide ((n : Int) < 1) = false := by simp; omega
  have HN := Lib.hid (And.intro h0 hn)
  clear hRd hgr h1 h1'
  by_cases hl : l.length = 0
  · rw [hl] at c0 d0
    clear h4 h3 h2
    go_enter Tryz.func109, Tryz.ntmps109
    go_wp2_with fail
    go_ret
    exact ⟨⟨0, rfl, by omega, by have := HN.out; omega, HR.out.1, HR.out.2⟩, World.size_setCell _ _ _⟩
  have hl0 : (((l.length : Nat) : Int) == 0) = false := by simp; exact fun e => hl (by simp [e])
  by_cases hlt : p < l.length
  · obtain ⟨b, o, x, rfl, hb, hg, hx⟩ := byte_at h4 hlt
    have hxr := h3 x (List.mem_of_getElem? hg)
    have dx := HR.out.2.cell hx (fun e => by have := Option.some.inj e; simp at this; omega)
    have hd : decide ((p : Int) < (l.length : Int)) = true := by simpa using hlt
    have HX := Lib.hid hxr
    clear h4 h3 h2 hx hg hxr
    go_enter Tryz.func109, Tryz.ntmps109
    go_wp2_with fail
    go_ret
    have hx0 := HX.out
    have hn0 := HN.out
    rw [show wrap64 x = x by unfold wrap64; omega]
    have hm := tmod_pos (a := x) (b := (n : Int)) (by omega) (by omega)
    exact ⟨⟨_, rfl, hm.1, hm.2, HR.out.1, HR.out.2⟩, World.size_setCell _ _ _⟩
  · have hd : decide ((p : Int) < (l.length : Int)) = false := by simpa using hlt
    have hlp : 0 < l.length := by omega
    have hm1 : p % l.length < l.length := Nat.mod_lt _ hlp
    have hm2 : (p * 7 + 3) % l.length < l.length := Nat.mod_lt _ hlp
    obtain ⟨b, o, x, rfl, hb, hg, hx⟩ := byte_at h4 hm1
    obtain ⟨b', o', y, hbb, hb', hg', hy⟩ := byte_at h4 hm2
    cases hbb
    have hxr := h3 x (List.mem_of_getElem? hg)
    have hyr := h3 y (List.mem_of_getElem? hg')
    have dx := HR.out.2.cell hx (fun e => by have := Option.some.inj e; simp at this; omega)
    have dy := HR.out.2.cell hy (fun e => by have := Option.some.inj e; simp at this; omega)
    have q1 : IntKind.i64.wrap ((p : Int) * 7) = (p : Int) * 7 := by rw [IntKind.wrap_i64]; omega
    have q2 : IntKind.i64.wrap ((p : Int) * 7 + 3) = (p : Int) * 7 + 3 := by rw [IntKind.wrap_i64]; omega
    have q3 : (p : Int).tmod (l.length : Int) = ((p % l.length : Nat) : Int) := by rw [Int.tmod_eq_emod_of_nonneg (by omega)]; rfl
    have q4 : ((p : Int) * 7 + 3).tmod (l.length : Int) = (((p * 7 + 3) % l.length : Nat) : Int) := by rw [Int.tmod_eq_emod_of_nonneg (by omega)]; rfl
    have q5 : IntKind.i64.wrap x = x := by rw [IntKind.wrap_i64]; omega
    have q6 : IntKind.i64.wrap y = y := by rw [IntKind.wrap_i64]; omega
    have q7 : IntKind.i64.wrap (x * 131) = x * 131 := by rw [IntKind.wrap_i64]; omega
    have q8 : IntKind.i64.wrap (y * 1117) = y * 1117 := by rw [IntKind.wrap_i64]; omega
    have HP := Lib.hid (show 0 ≤ (p : Int) / (l.length : Int) ∧ (p : Int) / (l.length : Int) ≤ 1000000 from ⟨Int.ediv_nonneg (by omega) (by omega), by
      have : (p : Int) / (l.length : Int) ≤ p := Int.ediv_le_self _ (by omega)
      omega⟩)
    generalize p % l.length = i1 at *
    generalize (p * 7 + 3) % l.length = i2 at *
    clear h4 h3 hx hy hg hg'
    go_enter Tryz.func109, Tryz.ntmps109
    go_wp2_with fail
    have hlt2 : rb < (w.setCell ⟨rb, 1, none⟩ (.int .i64 ((p : Int) + 1))).heap.size := HR.out.1.lt
    generalize hW : w.setCell ⟨rb, 1, none⟩ (.int .i64 ((p : Int) + 1)) = W2 at *
    have hsz : W2.heap.size = w.heap.size := by rw [← hW]; exact World.size_setCell _ _ _
    clear hW
    go_quiet (fail)
    go_wp2_with fail
    go_ret
    refine ⟨⟨_, rfl, ?_⟩, hsz⟩
    have hp0 := HP.out
    have hn0 := HN.out
    generalize hX : wrap64 (x * 131 + y * 1117 + (p : Int) * 29 + wrap64 (wrap64 ((p : Int) / (l.length : Int)) * 53)) = X
    have hXr : 0 ≤ X ∧ X < 1099511627776 := by
      rw [← hX]
      generalize (p : Int) / (l.length : Int) = q at hp0 ⊢
      rw [w64_in (n := q) (by omega), w64_in (n := q * 53) (by omega), w64_in (by omega)]
      omega
    have hm := pick_last (X := X) (n := (n : Int)) hXr.1 hXr.2 (by omega)
    exact ⟨hm.1, hm.2, HR.out.1.drewN _, grown_bel HR.out.2 (below_drewN (Below.refl _ _) _)⟩
theorem pick_any (rb p n : Nat) (w : World) (h : Rd w rb p) (hp : p ≤ 1000000) (h0 : 1 ≤ n) (hn : n ≤ 1000000) : Calls Tryz.prog 109 #[.pointer (some ⟨rb, 0, none⟩), .int .i64 (n : Int)] w (Picked rb p n w) :=
  (pick_all rb p n w h hp h0 hn).mono (fun _ _ h => h.1)
/-- one of a list -/
def PickedS (rb p : Nat) (l : List Bytes) (w : World) (e : Ending) (w' : World) : Prop := ∃ s : Bytes, e = .returned (.string (bs s)) ∧ s ∈ l ∧ Rd w' rb (p + 1) ∧ w.grownBy w' (some rb)
def PickedN (rb p : Nat) (w : World) (e : Ending) (w' : World) : Prop := ∃ n : Int, e = .returned (.int .i64 n) ∧ Rd w' rb (p + 1) ∧ w.grownBy w' (some rb)
theorem of_any (rb p g : Nat) (l : List Bytes) (w : World) (h : Rd w rb p) (hp : p ≤ 1000000) (h0 : 1 ≤ l.length) (hn : l.length ≤ 1000000) (hg : g ≠ rb) (hb : Blk w g 9 (l.map (fun s => Value.string (bs s))).toArray) :
    Calls Tryz.prog 110 #[.pointer (some ⟨rb, 0, none⟩), .slice (some ⟨g, 0, none⟩) l.length l.length] w (PickedS rb p l w) := by
  have PK := Lib.hid (pick_any rb p l.length w h hp h0 hn)
  have KB := Lib.hid (fun (w' : World) (hgr : w.grownBy w' (some rb)) => blk_gr hb hgr hg)
  clear h hb
  go_enter Tryz.func110, Tryz.ntmps110
  go_wp2_with fail
  refine PK.out.mono ?_
  rintro r w1 ⟨k, rfl, hk0, hk1, hR, hgr⟩
  obtain ⟨i, rfl⟩ := Int.eq_ofNat_of_zero_le hk0
  have hi : i < l.length := by omega
  have hc : w1.cell? ⟨g, i, none⟩ = some (.string (bs l[i])) := by rw [(KB.out w1 hgr).cell]; simp [hi]
  have hm : l[i] ∈ l := List.getElem_mem hi
  generalize l[i] = s at *
  have HX := Lib.hid (And.intro hm (And.intro hR hgr))
  clear hm hR hgr KB PK
  go_wp2_with fail
  go_ret
  exact ⟨s, rfl, HX.out.1, HX.out.2.1, HX.out.2.2⟩
theorem num_any (rb p g : Nat) (l : List Int) (w : World) (h : Rd w rb p) (hp : p ≤ 1000000) (h0 : 1 ≤ l.length) (hn : l.length ≤ 1000000) (hg : g ≠ rb) (hb : Blk w g 3 (l.map (fun s => Value.int .i64 s)).toArray) :
    Calls Tryz.prog 120 #[.pointer (some ⟨rb, 0, none⟩), .slice (some ⟨g, 0, none⟩) l.length l.length] w (PickedN rb p w) := by
  have PK := Lib.hid (pick_any rb p l.length w h hp h0 hn)
  have KB := Lib.hid (fun (w' : World) (hgr : w.grownBy w' (some rb)) => blk_gr hb hgr hg)
  clear h hb
  go_enter Tryz.func120, Tryz.ntmps120
  go_wp2_with fail
  refine PK.out.mono ?_
  rintro r w1 ⟨k, rfl, hk0, hk1, hR, hgr⟩
  obtain ⟨i, rfl⟩ := Int.eq_ofNat_of_zero_le hk0
  have hi : i < l.length := by omega
  have hc : w1.cell? ⟨g, i, none⟩ = some (.int .i64 l[i]) := by rw [(KB.out w1 hgr).cell]; simp [hi]
  generalize l[i] = s at *
  have HX := Lib.hid (And.intro hR hgr)
  clear hR hgr KB PK
  go_wp2_with fail
  go_ret
  exact ⟨s, rfl, HX.out.1, HX.out.2⟩
end Go.Proofs.YtgakjhaepdigpaaGreatDoor
