
/- Without types: the program's walk. -/
import Derived.Test.YtgakjhaepdigpaaGreatDoorZm4
import Derived.Lib.SliceRun
namespace Go.Proofs.YtgakjhaepdigpaaGreatDoor
set_option maxRecDepth 100000
set_option linter.unusedSimpArgs false
set_option linter.unusedVariables false
open Go.RowKit
attribute [local go_sem] bs_toList bs_get bs_size

theorem clip_ex (b o n c : Nat) (w : World) (hc : n ≤ c) (hm : c ≤ 9223372036854775807) : Calls Tryz.prog 183 #[.slice (some ⟨b, o, none⟩) n c] w fun e w' => e = .returned (.slice (some ⟨b, o, none⟩) n n) ∧ w = w' := by
  go_enter Tryz.func183, Tryz.ntmps183
  go_wp2
  go_ret
  exact ⟨rfl, rfl⟩
theorem clip_none (w : World) : Calls Tryz.prog 183 #[.slice none 0 0] w fun e w' => e = .returned (.slice none 0 0) ∧ w = w' := by
  go_enter Tryz.func183, Tryz.ntmps183
  go_wp2
  go_ret
  exact ⟨rfl, rfl⟩
theorem eqnil_ex (w : World) (a : Option Addr) (n c n' c' : Nat) : (binOp .eql 22 (.slice a n c) (.slice none n' c')).run Tryz.prog w = .ok (.bool a.isNone) w := Lib.run_eql_slice_nil w _ _ a n c n' c' Tryz.underlying22
theorem sclone_none (c : Nat) (w : World) : Calls Tryz.prog 184 #[.slice none 0 c] w fun e w' => e = .returned (.slice none 0 0) ∧ w = w' := by
  have q := eqnil_ex
  go_enter Tryz.func184, Tryz.ntmps184
  go_wp2
  go_ret
  exact ⟨rfl, rfl⟩
theorem sclone_zero (a : Addr) (c : Nat) (w : World) : Calls Tryz.prog 184 #[.slice (some a) 0 c] w fun e w' => (∃ (g cap : Nat), e = .returned (.slice (some ⟨g, 0, none⟩) 0 cap) ∧ cap ≤ 9223372036854775807) ∧ Below w.heap.size w w' := by
  obtain ⟨i0, hi, hz0, hz1, hz2⟩ := info_parts infoExpr
  have q := eqnil_ex
  go_enter Tryz.func184, Tryz.ntmps184
  go_wp2_with fail
  go_ret
  exact ⟨⟨_, _, rfl, by omega⟩, by (repeat (first | with_reducible assumption | with_reducible exact Below.refl _ _ | with_reducible refine Below.setCell ?_ (by first | omega | (simp; done) | (simp; omega)) _ | with_reducible refine Below.alloc ?_ (by first | omega | (simp; done) | (simp; omega)) _ | with_reducible refine below_drewN ?_ _ | with_reducible refine Below.drew ?_))⟩
theorem sclone_two (b o c : Nat) (f0 f1 : FE) (w : World) (hc : ∀ (j : Nat) (u : Value), ([f0, f1].flatMap feRow)[j]? = some u → w.cell? ((⟨b, o, none⟩ : Addr).add j) = some u) (h1 : ∀ s ∈ [f0, f1], ∀ u ∈ feRow s, u.oneCell' = true) :
    Calls Tryz.prog 184 #[.slice (some ⟨b, o, none⟩) 2 c] w fun e w' => (∃ (g cap : Nat) (cur : Array Value), e = .returned (.slice (some ⟨g, 0, none⟩) 2 cap) ∧ 2 ≤ cap ∧ cap ≤ 9223372036854775807 ∧ w.heap.size ≤ g ∧ Blk w' g 24 cur ∧ 8 ≤ cur.size) ∧ Below w.heap.size w w' := by
  have q := eqnil_ex
  have HC := Lib.hid hc
  clear hc
  go_enter Tryz.func184, Tryz.ntmps184
  go_wp2_with (at_builtin; refine app_plain1 (row := feRow) (k := 4) (t := 24) (tS := 22) (fun _ => rfl) (by decide) Tryz.underlying22 infoExpr (by decide) rfl (by rfl) (.tmp 5) (.tmp 6) (by rfl) w.heap.size (.slice (some ⟨w.heap.size, 0, none⟩) 0 0) [] (by rfl) (gt_empty feRow 4 24 w _ (Nat.le_refl _) (Below.refl _ _)) ⟨b, o, none⟩ c [f0, f1] h1 (by rfl) (fun j u hj => Lib.cell?_alloc_some _ (HC.out j u hj)) (by simp) (by simp) (by simp) ?_; intro g cap w6 hG6 hgr6 hat6)
  have HG := Lib.hid (And.intro hG6 (And.intro hgr6 hat6))
  clear hG6 hgr6 hat6
  go_wp2_with fail
  go_ret
  obtain ⟨hG6, hgr6, hat6⟩ := HG.out
  refine ⟨?_, below_app (show Below w.heap.size w _ from by (repeat (first | with_reducible assumption | with_reducible exact Below.refl _ _ | with_reducible refine Below.setCell ?_ (by first | omega | (simp; done) | (simp; omega)) _ | with_reducible refine Below.alloc ?_ (by first | omega | (simp; done) | (simp; omega)) _ | with_reducible refine below_drewN ?_ _ | with_reducible refine Below.drew ?_))) hgr6 (by intro q hq; simp [Value.ownBlock] at hq; omega) (by simp)⟩
  rcases hG6.2 with ⟨h0, _⟩ | ⟨g', cap', cur, he, hlo, hbk, hcc, hm, hsz, ht⟩
  · simp at h0
  · simp at he
    obtain ⟨rfl, rfl⟩ := he
    refine ⟨g, cap, cur, rfl, by simpa using hcc, hm, hlo, hbk, ?_⟩
    simp at hcc
    omega
theorem clone_zero (A : Option Addr) (c : Nat) (w : World) : Calls Tryz.prog 168 #[.slice A 0 c] w fun e w' => (∃ A' : Option Addr, e = .returned (.slice A' 0 0)) ∧ Below w.heap.size w w' := by
  cases A with
  | none =>
    go_enter Tryz.func168, Tryz.ntmps168
    go_wp2_with fail
    refine (sclone_none c _).mono ?_
    rintro r _ ⟨rfl, rfl⟩
    go_wp2_with fail
    refine (clip_none _).mono ?_
    rintro r _ ⟨rfl, rfl⟩
    go_wp2_with fail
    go_ret
    exact ⟨⟨none, rfl⟩, Below.refl _ _⟩
  | some a =>
    go_enter Tryz.func168, Tryz.ntmps168
    go_wp2_with fail
    refine (sclone_zero a c _).mono ?_
    rintro r w1 ⟨⟨g, cap, rfl, hcap⟩, hb1⟩
    go_wp2_with fail
    refine (clip_ex g 0 0 cap _ (by omega) hcap).mono ?_
    rintro r _ ⟨rfl, rfl⟩
    go_wp2_with fail
    go_ret
    exact ⟨⟨some ⟨g, 0, none⟩, rfl⟩, hb1⟩
theorem clone_two (b o c : Nat) (f0 f1 : FE) (w : World) (hc : ∀ (j : Nat) (u : Value), ([f0, f1].flatMap feRow)[j]? = some u → w.cell? ((⟨b, o, none⟩ : Addr).add j) = some u) (h1 : ∀ s ∈ [f0, f1], ∀ u ∈ feRow s, u.oneCell' = true) :
    Calls Tryz.prog 168 #[.slice (some ⟨b, o, none⟩) 2 c] w fun e w' => (∃ (g : Nat) (cur : Array Value), e = .returned (.slice (some ⟨g, 0, none⟩) 2 2) ∧ w.heap.size ≤ g ∧ Blk w' g 24 cur ∧ 8 ≤ cur.size) ∧ Below w.heap.size w w' := by
  have H := Lib.hid (sclone_two b o c f0 f1 w hc h1)
  clear hc h1
  go_enter Tryz.func168, Tryz.ntmps168
  go_wp2_with fail
  refine H.out.mono ?_
  rintro r w1 ⟨⟨g, cap, cur, rfl, hc2, hcap, hlo, hB, hs⟩, hb1⟩
  have HB := Lib.hid (And.intro hlo (And.intro hB hs))
  clear hlo hB hs
  go_wp2_with fail
  refine (clip_ex g 0 2 cap _ (by omega) hcap).mono ?_
  rintro r _ ⟨rfl, rfl⟩
  go_wp2_with fail
  go_ret
  exact ⟨⟨g, cur, rfl, HB.out⟩, hb1⟩
def ImB (x y : Ex) : Prop := ∀ (v : Value) (w : World), ExV w w.heap.size v x → Calls Tryz.prog 142 #[v] w fun r w' => ∃ v', r = .returned v' ∧ TrM w.heap.size w'.heap.size w' v' y ∧ Below w.heap.size w w'
set_option maxHeartbeats 1000000 in
theorem imBare_leaf (k n : Int) (s : Bytes) (hk : k ≠ 4) : ImB (.mk k n s []) (.mk k n s []) := by
  intro v w hv
  obtain ⟨k', n', s', A, c, l, e, rfl, hs, hc, hcm, hkv⟩ := hv.form
  obtain ⟨rfl, rfl, rfl, rfl⟩ := Ex.mk.inj e
  rw [bs_size] at hs
  have hk4 : (k == 4) = false := by simpa using hk
  have CL := Lib.hid (clone_zero A c)
  have HS := Lib.hid hs
  clear hk hkv hv hs
  simp only [List.length_nil]
  go_enter Tryz.func142, Tryz.ntmps142
  go_upto_region 3 with fail
  generalize hW : World.alloc (World.alloc w _) _ = W1
  have hB0 : Blk W1 w.heap.size 24 #[.int .i64 k, .int .i64 n, .string (bs s), .slice A 0 c] := by rw [← hW]; exact (Blk.new _ _ _).alloc _
  have hB1 : Blk W1 (w.heap.size + 1) 24 #[.int .i64 0, .int .i64 0, .string ⟨#[]⟩, .slice none 0 0] := by rw [← hW]; simpa using Blk.new (w.alloc _) 24 #[.int .i64 0, .int .i64 0, .string ⟨#[]⟩, .slice none 0 0]
  have hbw : Below w.heap.size w W1 := by rw [← hW]; (repeat (first | with_reducible assumption | with_reducible exact Below.refl _ _ | with_reducible refine Below.setCell ?_ (by first | omega | (simp; done) | (simp; omega)) _ | with_reducible refine Below.alloc ?_ (by first | omega | (simp; done) | (simp; omega)) _ | with_reducible refine below_drewN ?_ _ | with_reducible refine Below.drew ?_))
  have hz1 : w.heap.size + 2 = W1.heap.size := by rw [← hW]; simp
  clear hW
  have x0 := hB0.cell 0; have x1 := hB0.cell 1; have x2 := hB0.cell 2; have x3 := hB0.cell 3
  simp at x0 x1 x2 x3
  have KEEP := Lib.hid (show ∀ w' : World, Below W1.heap.size W1 w' → (w'.cell? ⟨w.heap.size, 0, none⟩ = some (.int .i64 k) ∧ w'.cell? ⟨w.heap.size, 1, none⟩ = some (.int .i64 n) ∧ w'.cell? ⟨w.heap.size, 2, none⟩ = some (.string (bs s)) ∧ w'.cell? ⟨w.heap.size, 3, none⟩ = some (.slice A 0 c)) from
    fun w' h => ⟨(h.cell (p := ⟨_, 0, none⟩) (by first | omega | (simp; done) | (simp only [List.length_cons, List.length_nil, List.length_append]; omega) | (simp; omega))).trans x0, (h.cell (p := ⟨_, 1, none⟩) (by first | omega | (simp; done) | (simp only [List.length_cons, List.length_nil, List.length_append]; omega) | (simp; omega))).trans x1, (h.cell (p := ⟨_, 2, none⟩) (by first | omega | (simp; done) | (simp only [List.length_cons, List.length_nil, List.length_append]; omega) | (simp; omega))).trans x2, (h.cell (p := ⟨_, 3, none⟩) (by first | omega | (simp; done) | (simp only [List.length_cons, List.length_nil, List.length_append]; omega) | (simp; omega))).trans x3⟩)
  go_cut [3] (fun o3 wx => ∃ (g3 : Nat) (A' : Option Addr), o3 = .pointer (some ⟨g3, 0, none⟩) ∧ w.heap.size + 2 ≤ g3 ∧ Blk wx g3 24 #[.int .i64 k, .int .i64 n, .string (bs s), .slice A' 0 0] ∧ Below W1.heap.size W1 wx)
  case first =>
    go_region_held3 (fun w' => w'.cell? ⟨w.heap.size, 0, none⟩ = some (.int .i64 k) ∧ w'.cell? ⟨w.heap.size, 1, none⟩ = some (.int .i64 n) ∧ w'.cell? ⟨w.heap.size, 2, none⟩ = some (.string (bs s)) ∧ w'.cell? ⟨w.heap.size, 3, none⟩ = some (.slice A 0 c))
      (first | exact KEEP.out _ (by (repeat (first | with_reducible assumption | with_reducible exact Below.refl _ _ | with_reducible refine Below.setCell ?_ (by first | omega | (simp; done) | (simp; omega)) _ | with_reducible refine Below.alloc ?_ (by first | omega | (simp; done) | (simp; omega)) _ | with_reducible refine below_drewN ?_ _ | with_reducible refine Below.drew ?_ | with_reducible refine Below.trans ?_ (Below.mono hb2 (by first | omega | (simp; done) | (simp; omega)))))) | go_keep)
      (first
        | (go_at_call 168; refine (CL.out (W1.alloc (.cells #[.int .i64 0, .int .i64 0, .string ⟨#[]⟩, .slice none 0 0] 24)).drew).mono ?_; rintro r w2 ⟨⟨A', rfl⟩, hb2⟩; have hz2 := hb2.size; (try simp at hz2); have hN := (Blk.new W1 24 #[.int .i64 0, .int .i64 0, .string ⟨#[]⟩, .slice none 0 0]).drew.below hb2 (by simp); have n0 := hN.cell 0; have n1 := hN.cell 1; have n2 := hN.cell 2; have n3 := hN.cell 3; simp at n0 n1 n2 n3; have f0 := hN.frozen 0; have f1 := hN.frozen 1; have f2 := hN.frozen 2; have f3 := hN.frozen 3)
        | (go_at_call 168; refine (CL.out W1.drew).mono ?_; rintro r w2 ⟨⟨A', rfl⟩, hb2⟩; have hz2 := hb2.size; (try simp at hz2))
        | fail)
    all_goals
      go_wp2_with fail
      go_meet
      first
        | exact ⟨W1.heap.size, A', rfl, by omega, by simpa using (((hN.set_ 0 (.int .i64 k)).set_ 1 (.int .i64 n)).set_ 2 (.string (bs s))).set_ 3 (.slice A' 0 0), by (repeat (first | with_reducible assumption | with_reducible exact Below.refl _ _ | with_reducible refine Below.setCell ?_ (by first | omega | (simp; done) | (simp; omega)) _ | with_reducible refine Below.alloc ?_ (by first | omega | (simp; done) | (simp; omega)) _ | with_reducible refine below_drewN ?_ _ | with_reducible refine Below.drew ?_ | with_reducible refine Below.trans ?_ (Below.mono hb2 (by first | omega | (simp; done) | (simp; omega)))))⟩
        | exact ⟨w2.heap.size, A', rfl, by omega, Blk.new w2 _ _, by (repeat (first | with_reducible assumption | with_reducible exact Below.refl _ _ | with_reducible refine Below.setCell ?_ (by first | omega | (simp; done) | (simp; omega)) _ | with_reducible refine Below.alloc ?_ (by first | omega | (simp; done) | (simp; omega)) _ | with_reducible refine below_drewN ?_ _ | with_reducible refine Below.drew ?_ | with_reducible refine Below.trans ?_ (Below.mono hb2 (by first | omega | (simp; done) | (simp; omega)))))⟩
  case rest =>
    obtain ⟨g3, A', rfl, hlo, hB3, hbx⟩ := hcut
    obtain ⟨k0, k1, k2, k3⟩ := KEEP.out wc hbx
    have hB1x := hB1.below hbx (by omega)
    have z0 := hB1x.frozen 0; have z1 := hB1x.frozen 1; have z2 := hB1x.frozen 2; have z3 := hB1x.frozen 3
    have y0 := hB1x.cell 0; have y1 := hB1x.cell 1; have y2 := hB1x.cell 2; have y3 := hB1x.cell 3
    have b0 := hB3.cell 0; have b1 := hB3.cell 1; have b2 := hB3.cell 2; have b3 := hB3.cell 3
    simp at y0 y1 y2 y3 b0 b1 b2 b3
    have hzx := hbx.size
    have HX := Lib.hid (hbw.trans (hbx.mono hbw.size))
    clear hB0 hB1 hB3 hbx hB1x KEEP CL hbw
    go_wp2_with fail
    go_loopg [27] 0 (fun m i wr => m = 0 ∧ i = .int .i64 0 ∧ wr = wc)
    case atStart => exact ⟨rfl, rfl, rfl⟩
    case round =>
      obtain ⟨rfl, rfl, rfl⟩ := hrel
      go_wp2_with fail
      refine bodyPost_ret (v := vEx k n s (.slice A' 0 0)) (by simp [results, Tryz.results142, go_sem, vEx, *]) rfl ?_
      refine ⟨_, rfl, ⟨.slice A' 0 0, [], rfl, HS.out, .nil A' 0 (by unfold maxLen; omega), Own.nil _ _⟩, ?_⟩
      have := HX.out
      (repeat (first | with_reducible assumption | with_reducible exact Below.refl _ _ | with_reducible refine Below.setCell ?_ (by first | omega | (simp; done) | (simp; omega)) _ | with_reducible refine Below.alloc ?_ (by first | omega | (simp; done) | (simp; omega)) _ | with_reducible refine below_drewN ?_ _ | with_reducible refine Below.drew ?_ | with_reducible refine Below.trans ?_ (Below.mono this (by first | omega | (simp; done) | (simp; omega)))))
set_option maxHeartbeats 2000000 in
theorem imBare_two (k n : Int) (s : Bytes) (x1 x2 y1 y2 : Ex) (hk : k ≠ 4) (I1 : ImB x1 y1) (I2 : ImB x2 y2) : ImB (.mk k n s [x1, x2]) (.mk k n s [y1, y2]) := by
  intro v w hv
  obtain ⟨k', n', s', A, c, l, e, rfl, hs, hc, hcm, hkv⟩ := hv.form
  obtain ⟨rfl, rfl, rfl, rfl⟩ := Ex.mk.inj e
  rw [bs_size] at hs
  have hk4 : (k == 4) = false := by simpa using hk
  obtain ⟨b, o, p1, q1, s1, A1, c1, m1, rfl, hb, hg1, hs1, hm1, hc1, hk1, f0, f1, f2, f3⟩ := ex_at hkv (i := 0) (by simp)
  obtain ⟨b', o', p2, q2, s2, A2, c2, m2, hA, _, hg2, hs2, hm2, hc2, hk2, f4, f5, f6, f7⟩ := ex_at hkv (i := 1) (by simp)
  obtain ⟨rfl, rfl⟩ : b = b' ∧ o = o' := by injection hA with hA; injection hA with h1 h2; exact ⟨h1, h2⟩
  obtain rfl : x1 = .mk p1 q1 s1 m1 := by simpa using hg1
  obtain rfl : x2 = .mk p2 q2 s2 m2 := by simpa using hg2
  rw [bs_size] at hs1 hs2
  simp only [Nat.zero_mul, Nat.one_mul, Nat.add_zero] at f0 f1 f2 f3 f4 f5 f6 f7
  have CELLS := Lib.hid (show ∀ w' : World, Below w.heap.size w w' → (w'.cell? ⟨b, o, none⟩ = some (.int .i64 p1) ∧ w'.cell? ⟨b, o + 1, none⟩ = some (.int .i64 q1) ∧ w'.cell? ⟨b, o + 2, none⟩ = some (.string (bs s1)) ∧ w'.cell? ⟨b, o + 3, none⟩ = some (.slice A1 m1.length c1) ∧ w'.cell? ⟨b, o + 4, none⟩ = some (.int .i64 p2) ∧ w'.cell? ⟨b, o + 4 + 1, none⟩ = some (.int .i64 q2) ∧ w'.cell? ⟨b, o + 4 + 2, none⟩ = some (.string (bs s2)) ∧ w'.cell? ⟨b, o + 4 + 3, none⟩ = some (.slice A2 m2.length c2)) from
    fun w' h => ⟨f0 ⟨w', h⟩, f1 ⟨w', h⟩, f2 ⟨w', h⟩, f3 ⟨w', h⟩, f4 ⟨w', h⟩, f5 ⟨w', h⟩, f6 ⟨w', h⟩, f7 ⟨w', h⟩⟩)
  have CL := Lib.hid (fun (w' : World) (h : Below w.heap.size w w') => clone_two b o c ⟨p1, q1, s1, .slice A1 m1.length c1⟩ ⟨p2, q2, s2, .slice A2 m2.length c2⟩ w' (fun j u hj => by
    obtain ⟨a0, a1, a2, a3, a4, a5, a6, a7⟩ := CELLS.out w' h
    rw [Addr.add_lit]
    have hj8 : j < 8 := (List.getElem?_eq_some_iff.1 hj).1
    match j, hj8 with
    | 0, _ => simp [feRow] at hj; subst hj; simpa using a0
    | 1, _ => simp [feRow] at hj; subst hj; simpa using a1
    | 2, _ => simp [feRow] at hj; subst hj; simpa using a2
    | 3, _ => simp [feRow] at hj; subst hj; simpa using a3
    | 4, _ => simp [feRow] at hj; subst hj; simpa using a4
    | 5, _ => simp [feRow] at hj; subst hj; simpa [Nat.add_assoc] using a5
    | 6, _ => simp [feRow] at hj; subst hj; simpa [Nat.add_assoc] using a6
    | 7, _ => simp [feRow] at hj; subst hj; simpa [Nat.add_assoc] using a7) (fun f hf u hu => by
    simp at hf
    rcases hf with rfl | rfl
    · exact fe_one u hu
    · exact fe_one u hu))
  have HS := Lib.hid hs
  have HKV := Lib.hid (And.intro hkv (show ∀ (j : Nat) (x y : Ex), [Ex.mk p1 q1 s1 m1, Ex.mk p2 q2 s2 m2][j]? = some x → [y1, y2][j]? = some y → ImB x y from fun j x y h1 h2 => by
    rcases j with _ | _ | j
    · simp at h1 h2; subst h1 h2; exact I1
    · simp at h1 h2; subst h1 h2; exact I2
    · simp at h1))
  clear hk hkv hv hs f0 f1 f2 f3 f4 f5 f6 f7 hg1 hg2 hA I1 I2 hk1 hk2
  simp only [List.length_cons, List.length_nil, Nat.zero_add, Nat.reduceAdd] at hc ⊢
  go_enter Tryz.func142, Tryz.ntmps142
  go_upto_region 3 with fail
  generalize hW : World.alloc (World.alloc w _) _ = W1
  have hB0 : Blk W1 w.heap.size 24 #[.int .i64 k, .int .i64 n, .string (bs s), .slice (some ⟨b, o, none⟩) 2 c] := by rw [← hW]; exact (Blk.new _ _ _).alloc _
  have hB1 : Blk W1 (w.heap.size + 1) 24 #[.int .i64 0, .int .i64 0, .string ⟨#[]⟩, .slice none 0 0] := by rw [← hW]; simpa using Blk.new (w.alloc _) 24 #[.int .i64 0, .int .i64 0, .string ⟨#[]⟩, .slice none 0 0]
  have hbw : Below w.heap.size w W1 := by rw [← hW]; (repeat (first | with_reducible assumption | with_reducible exact Below.refl _ _ | with_reducible refine Below.setCell ?_ (by first | omega | (simp; done) | (simp; omega)) _ | with_reducible refine Below.alloc ?_ (by first | omega | (simp; done) | (simp; omega)) _ | with_reducible refine below_drewN ?_ _ | with_reducible refine Below.drew ?_))
  have hz1 : w.heap.size + 2 = W1.heap.size := by rw [← hW]; simp
  clear hW
  have x0 := hB0.cell 0; have x1 := hB0.cell 1; have x2 := hB0.cell 2; have x3 := hB0.cell 3
  simp at x0 x1 x2 x3
  have KEEP := Lib.hid (show ∀ w' : World, Below W1.heap.size W1 w' → (w'.cell? ⟨w.heap.size, 0, none⟩ = some (.int .i64 k) ∧ w'.cell? ⟨w.heap.size, 1, none⟩ = some (.int .i64 n) ∧ w'.cell? ⟨w.heap.size, 2, none⟩ = some (.string (bs s)) ∧ w'.cell? ⟨w.heap.size, 3, none⟩ = some (.slice (some ⟨b, o, none⟩) 2 c)) from
    fun w' h => ⟨(h.cell (p := ⟨_, 0, none⟩) (by first | omega | (simp; done) | (simp only [List.length_cons, List.length_nil, List.length_append]; omega) | (simp; omega))).trans x0, (h.cell (p := ⟨_, 1, none⟩) (by first | omega | (simp; done) | (simp only [List.length_cons, List.length_nil, List.length_append]; omega) | (simp; omega))).trans x1, (h.cell (p := ⟨_, 2, none⟩) (by first | omega | (simp; done) | (simp only [List.length_cons, List.length_nil, List.length_append]; omega) | (simp; omega))).trans x2, (h.cell (p := ⟨_, 3, none⟩) (by first | omega | (simp; done) | (simp only [List.length_cons, List.length_nil, List.length_append]; omega) | (simp; omega))).trans x3⟩)
  go_cut [3] (fun o3 wx => ∃ (g3 g : Nat) (cur : Array Value), o3 = .pointer (some ⟨g3, 0, none⟩) ∧ w.heap.size + 2 ≤ g3 ∧ w.heap.size + 2 ≤ g ∧ g ≠ g3 ∧ Blk wx g3 24 #[.int .i64 k, .int .i64 n, .string (bs s), .slice (some ⟨g, 0, none⟩) 2 2] ∧ Blk wx g 24 cur ∧ 8 ≤ cur.size ∧ Below W1.heap.size W1 wx)
  case first =>
    go_region_held3 (fun w' => w'.cell? ⟨w.heap.size, 0, none⟩ = some (.int .i64 k) ∧ w'.cell? ⟨w.heap.size, 1, none⟩ = some (.int .i64 n) ∧ w'.cell? ⟨w.heap.size, 2, none⟩ = some (.string (bs s)) ∧ w'.cell? ⟨w.heap.size, 3, none⟩ = some (.slice (some ⟨b, o, none⟩) 2 c))
      (first | exact KEEP.out _ (by (repeat (first | with_reducible assumption | with_reducible exact Below.refl _ _ | with_reducible refine Below.setCell ?_ (by first | omega | (simp; done) | (simp; omega)) _ | with_reducible refine Below.alloc ?_ (by first | omega | (simp; done) | (simp; omega)) _ | with_reducible refine below_drewN ?_ _ | with_reducible refine Below.drew ?_ | with_reducible refine Below.trans ?_ (Below.mono hb2 (by first | omega | (simp; done) | (simp; omega)))))) | go_keep)
      (first
        | (go_at_call 168; refine (CL.out (W1.alloc (.cells #[.int .i64 0, .int .i64 0, .string ⟨#[]⟩, .slice none 0 0] 24)).drew (by (repeat (first | with_reducible assumption | with_reducible exact Below.refl _ _ | with_reducible refine Below.setCell ?_ (by first | omega | (simp; done) | (simp; omega)) _ | with_reducible refine Below.alloc ?_ (by first | omega | (simp; done) | (simp; omega)) _ | with_reducible refine below_drewN ?_ _ | with_reducible refine Below.drew ?_ | with_reducible refine Below.trans ?_ (Below.mono hbw (by first | omega | (simp; done) | (simp; omega))))))).mono ?_; rintro r w2 ⟨⟨g, cur, rfl, hgl, hgB, hgs⟩, hb2⟩; have hz2 := hb2.size; (try simp at hz2 hgl); have hN := (Blk.new W1 24 #[.int .i64 0, .int .i64 0, .string ⟨#[]⟩, .slice none 0 0]).drew.below hb2 (by simp); have n0 := hN.cell 0; have n1 := hN.cell 1; have n2 := hN.cell 2; have n3 := hN.cell 3; simp at n0 n1 n2 n3; have f0 := hN.frozen 0; have f1 := hN.frozen 1; have f2 := hN.frozen 2; have f3 := hN.frozen 3)
        | (go_at_call 168; refine (CL.out W1.drew (by (repeat (first | with_reducible assumption | with_reducible exact Below.refl _ _ | with_reducible refine Below.setCell ?_ (by first | omega | (simp; done) | (simp; omega)) _ | with_reducible refine Below.alloc ?_ (by first | omega | (simp; done) | (simp; omega)) _ | with_reducible refine below_drewN ?_ _ | with_reducible refine Below.drew ?_ | with_reducible refine Below.trans ?_ (Below.mono hbw (by first | omega | (simp; done) | (simp; omega))))))).mono ?_; rintro r w2 ⟨⟨g, cur, rfl, hgl, hgB, hgs⟩, hb2⟩; have hz2 := hb2.size; (try simp at hz2 hgl))
        | fail)
    · have hgl2 := hgB.lt
      have HG := Lib.hid (And.intro hgl (And.intro hgB (And.intro hgs hb2)))
      clear hgB hgs
      go_wp2_with fail
      go_meet
      obtain ⟨hgl, hgB, hgs, hb2⟩ := HG.out
      exact ⟨w2.heap.size, g, cur, rfl, by omega, by omega, by omega, Blk.new w2 _ _, hgB.alloc _, hgs, by (repeat (first | with_reducible assumption | with_reducible exact Below.refl _ _ | with_reducible refine Below.setCell ?_ (by first | omega | (simp; done) | (simp; omega)) _ | with_reducible refine Below.alloc ?_ (by first | omega | (simp; done) | (simp; omega)) _ | with_reducible refine below_drewN ?_ _ | with_reducible refine Below.drew ?_ | with_reducible refine Below.trans ?_ (Below.mono hb2 (by first | omega | (simp; done) | (simp; omega)))))⟩
    · have hgl2 := hgB.lt
      have HG := Lib.hid (And.intro hgl (And.intro hgB (And.intro hgs (And.intro hb2 hN))))
      clear hgB hgs
      go_wp2_with fail
      go_meet
      obtain ⟨hgl, hgB, hgs, hb2, hN⟩ := HG.out
      refine ⟨W1.heap.size, g, cur, rfl, by omega, by omega, by omega, ?_, ?_, hgs, ?_⟩
      · simpa using (((hN.set_ 0 (.int .i64 k)).set_ 1 (.int .i64 n)).set_ 2 (.string (bs s))).set_ 3 (.slice (some ⟨g, 0, none⟩) 2 2)
      · have h0 : g ≠ W1.heap.size := by omega
        exact (((hgB.far h0 _).far h0 _).far h0 _).far h0 _
      · (repeat (first | with_reducible assumption | with_reducible exact Below.refl _ _ | with_reducible refine Below.setCell ?_ (by first | omega | (simp; done) | (simp; omega)) _ | with_reducible refine Below.alloc ?_ (by first | omega | (simp; done) | (simp; omega)) _ | with_reducible refine below_drewN ?_ _ | with_reducible refine Below.drew ?_ | with_reducible refine Below.trans ?_ (Below.mono hb2 (by first | omega | (simp; done) | (simp; omega)))))
  case rest =>
    obtain ⟨g3, g, cur0, rfl, hlo3, hlog, hne, hB3, hgB, hgs, hbx⟩ := hcut
    have hzx := hbx.size
    have hgl := hgB.lt
    have HX := Lib.hid hB1
    obtain ⟨k0, k1, k2, k3⟩ := KEEP.out wc hbx
    clear hB0 hB1 KEEP CL CELLS
    go_wp2_with fail
    go_loopg [27] 2 (fun m i wr => ∃ (j : Nat) (cur : Array Value) (fl : List FE) (bls : List (List Nat)), m = 2 - j ∧ j ≤ 2 ∧ i = .int .i64 j ∧ Blk wr g3 24 #[.int .i64 k, .int .i64 n, .string (bs s), .slice (some ⟨g, 0, none⟩) 2 2] ∧ Blk wr g 24 cur ∧ 8 ≤ cur.size ∧ TreesTo 24 wr cur [y1, y2] j fl bls ∧ Own wc.heap.size wr.heap.size bls.flatten ∧ Below W1.heap.size W1 wr ∧ wc.heap.size ≤ wr.heap.size)
    case atStart => exact ⟨0, cur0, [], [], by omega, by omega, rfl, hB3, hgB, hgs, TreesTo.zero _ _ _ _, Own.nil _ _, hbx, Nat.le_refl _⟩
    case round =>
      obtain ⟨j, cur, fl, bls, hk, hj, rfl, hB3r, hgBr, hsz, hT, hOw, hbW, hzr⟩ := hrel
      have HK := Lib.hid (And.intro hk (And.intro hsz (And.intro hT (And.intro hOw hbW))))
      have hbl : Below w.heap.size w wr := hbw.trans (hbW.mono hbw.size)
      clear hk hsz hT hOw hbx hB3 hgB
      have hgl2 := hgBr.lt
      have hg3l := hB3r.lt
      by_cases hlt : j < 2
      · obtain ⟨b2, o2, p, q, s', A', c', m', hA', hb', hg', hs', hm', hc', hk', f0, f1, f2, f3⟩ := ex_at HKV.out.1 (i := j) (by simpa using hlt)
        obtain ⟨rfl, rfl⟩ : b = b2 ∧ o = o2 := by injection hA' with hA'; injection hA' with h1 h2; exact ⟨h1, h2⟩
        obtain ⟨y, hy⟩ : ∃ y, [y1, y2][j]? = some y := ⟨_, List.getElem?_eq_getElem (by simpa using hlt)⟩
        rw [bs_size] at hs'
        have IH := Lib.hid (fun (w' : World) (h : Below w.heap.size w w') => HKV.out.2 j _ y hg' hy (.agg #[.int .i64 p, .int .i64 q, .string (bs s'), .slice A' m'.length c']) w' ⟨_, rfl, hs', (hk'.keep h (Nat.le_refl _)).more h.size⟩)
        have g0 := f0 ⟨wr, hbl⟩; have g1 := f1 ⟨wr, hbl⟩; have g2 := f2 ⟨wr, hbl⟩; have g3' := f3 ⟨wr, hbl⟩
        have HY := Lib.hid hy
        clear f0 f1 f2 f3 hk' hg' hy hA'
        go_upto_region 7 with fail
        have hK := Blk.new wr 24 #[.int .i64 p, .int .i64 q, .string (bs s'), .slice A' m'.length c']
        have n0 := hK.cell 0; have n1 := hK.cell 1; have n2 := hK.cell 2; have n3 := hK.cell 3
        have o3 := (hB3r.alloc (.cells #[.int .i64 p, .int .i64 q, .string (bs s'), .slice A' m'.length c'] 24)).cell 3
        simp at n0 n1 n2 n3 o3
        go_region_law
          (first
            | (go_simp; go_at_call 142; refine (IH.out _ (by (repeat (first | with_reducible assumption | with_reducible exact Below.refl _ _ | with_reducible refine Below.setCell ?_ (by first | omega | (simp; done) | (simp; omega)) _ | with_reducible refine Below.alloc ?_ (by first | omega | (simp; done) | (simp; omega)) _ | with_reducible refine below_drewN ?_ _ | with_reducible refine Below.drew ?_ | with_reducible refine Below.trans ?_ (Below.mono hbl (by first | omega | (simp; done) | (simp; omega))))))).mono ?_; rintro r w2 ⟨v2, rfl, hM2, hb2⟩; obtain ⟨A2', c2', rfl, hc2', hm2', hs2'⟩ := hM2.form; have hz2 := hb2.size; (try simp at hz2); have hBw : Below wr.heap.size wr w2 := (by (repeat (first | with_reducible assumption | with_reducible exact Below.refl _ _ | with_reducible refine Below.setCell ?_ (by first | omega | (simp; done) | (simp; omega)) _ | with_reducible refine Below.alloc ?_ (by first | omega | (simp; done) | (simp; omega)) _ | with_reducible refine below_drewN ?_ _ | with_reducible refine Below.drew ?_ | with_reducible refine Below.trans ?_ (Below.mono hb2 (by first | omega | (simp; done) | (simp; omega)))))); have hKw := hK.below (show Below (wr.heap.size + 1) (wr.alloc (.cells #[.int .i64 p, .int .i64 q, .string (bs s'), .slice A' m'.length c'] 24)) w2 from by (repeat (first | with_reducible assumption | with_reducible exact Below.refl _ _ | with_reducible refine Below.setCell ?_ (by first | omega | (simp; done) | (simp; omega)) _ | with_reducible refine Below.alloc ?_ (by first | omega | (simp; done) | (simp; omega)) _ | with_reducible refine below_drewN ?_ _ | with_reducible refine Below.drew ?_ | with_reducible refine Below.trans ?_ (Below.mono hb2 (by first | omega | (simp; done) | (simp; omega)))))) (by omega); have hB3w := hB3r.below hBw hg3l; have hgw := hgBr.below hBw hgl2; have u0 := hKw.cell 0; have u1 := hKw.cell 1; have u2 := hKw.cell 2; have u3 := hKw.cell 3; have v3 := hB3w.cell 3; simp at u0 u1 u2 u3 v3; have hfz := hgw.frozen; obtain ⟨y0, hy0⟩ : ∃ y, w2.cell? ⟨g, j * 4, none⟩ = some y := ⟨_, (hgw.cell _).trans (Array.getElem?_eq_getElem (by have := HK.out.2.1; omega))⟩; obtain ⟨y1', hy1⟩ : ∃ y, w2.cell? ⟨g, j * 4 + 1, none⟩ = some y := ⟨_, (hgw.cell _).trans (Array.getElem?_eq_getElem (by have := HK.out.2.1; omega))⟩; obtain ⟨y2', hy2⟩ : ∃ y, w2.cell? ⟨g, j * 4 + 2, none⟩ = some y := ⟨_, (hgw.cell _).trans (Array.getElem?_eq_getElem (by have := HK.out.2.1; omega))⟩; obtain ⟨y3', hy3⟩ : ∃ y, w2.cell? ⟨g, j * 4 + 3, none⟩ = some y := ⟨_, (hgw.cell _).trans (Array.getElem?_eq_getElem (by have := HK.out.2.1; omega))⟩)
            | fail)
        all_goals
          have HW := Lib.hid (And.intro hM2 (And.intro hBw (And.intro hB3w hgw)))
          clear hM2 hb2 hBw hB3w hgw hKw hK
          go_wp2_with fail
          go_roundg (2 - (j + 1))
          case measure => have := HK.out.1; omega
          case rel =>
            obtain ⟨hM2, hBw, hB3w, hgw⟩ := HW.out
            obtain ⟨_, hsz, hT, hOw, hbW⟩ := HK.out
            obtain ⟨kv, bl, hv, hsl, hO2, hOw2⟩ := hM2
            obtain rfl : Value.slice A2' y.kids.length c2' = kv := by simp at hv; exact hv
            have hsW := hbW.size
            have hne2 : ∀ (x : Nat), x ≠ g → ∀ (w : World) (a b c d : Value), ((((w.setCell ⟨g, j * 4, none⟩ a).setCell ⟨g, j * 4 + 1, none⟩ b).setCell ⟨g, j * 4 + 2, none⟩ c).setCell ⟨g, j * 4 + 3, none⟩ d).heap[x]? = w.heap[x]? := fun x hx w a b c d => by
              repeat rw [Below.heap_setCell _ _ _ _ (by simp; omega)]
            have h3g : g3 ≠ g := fun e => hne e.symm
            refine ⟨j + 1, putRow cur (j * 4) (feRow ⟨y.kind, y.n, y.s, .slice A2' y.kids.length c2'⟩), fl ++ [⟨y.kind, y.n, y.s, .slice A2' y.kids.length c2'⟩], bls ++ [bl], rfl, by omega, by go_num, (((hB3w.far h3g _).far h3g _).far h3g _).far h3g _, (((hgw.set_ _ _).set_ _ _).set_ _ _).set_ _ _, by rw [putRow_size]; exact hsz, ?_, ?_, by (repeat (first | with_reducible assumption | with_reducible exact Below.refl _ _ | with_reducible refine Below.setCell ?_ (by first | omega | (simp; done) | (simp; omega)) _ | with_reducible refine Below.alloc ?_ (by first | omega | (simp; done) | (simp; omega)) _ | with_reducible refine below_drewN ?_ _ | with_reducible refine Below.drew ?_ | with_reducible refine Below.trans ?_ (Below.mono hBw (by first | omega | (simp; done) | (simp; omega))) | with_reducible refine Below.trans ?_ (Below.mono hbW (by first | omega | (simp; done) | (simp; omega))))), by simp; omega⟩
            · refine hT.step HY.out (by omega) ⟨rfl, rfl, rfl, hs2'⟩ (hO2.same (fun x hx => ?_)) (fun x hx => ?_)
              · have := (hOw2.1 x hx).1
                simp at this
                exact hne2 x (by omega) _ _ _ _ _
              · have := (hOw.1 x hx).1
                rw [hne2 x (by omega)]
                exact hBw.block x (hOw.1 x hx).2
            · rw [List.flatten_append]
              simp only [List.flatten_cons, List.flatten_nil, List.append_nil]
              exact (hOw.append hOw2 (by simp) (by simp; omega) (by omega)).widen (Nat.le_refl _) (by simp)
      · obtain rfl : j = 2 := by omega
        obtain ⟨_, hsz, hT, hOw, hbW⟩ := HK.out
        have hB1x := HX.out.below hbW (by omega)
        have z0 := hB1x.frozen 0; have z1 := hB1x.frozen 1; have z2 := hB1x.frozen 2; have z3 := hB1x.frozen 3
        have y0 := hB1x.cell 0; have y1' := hB1x.cell 1; have y2' := hB1x.cell 2; have y3 := hB1x.cell 3
        have b0 := hB3r.cell 0; have b1 := hB3r.cell 1; have b2 := hB3r.cell 2; have b3 := hB3r.cell 3
        simp at y0 y1' y2' y3 b0 b1 b2 b3
        obtain ⟨bl, hO, hbl2⟩ := hT.all hgBr (cap := 2) (by simp) (by unfold maxLen; omega)
        have HW := Lib.hid (And.intro hO (And.intro hbl2 (And.intro hOw hbl)))
        clear hsz hT hOw hbW hB1x hO hbl2 hB3r hgBr hbl HK
        go_wp2_with fail
        refine bodyPost_ret (v := vEx k n s (.slice (some ⟨g, 0, none⟩) 2 2)) (by simp [results, Tryz.results142, go_sem, vEx, *]) rfl ?_
        obtain ⟨hO, hbl2, hOw, hbl⟩ := HW.out
        have hown : Own (w.heap.size + 2) wr.heap.size bl := by
          rcases hbl2 with rfl | rfl
          · exact Own.nil _ _
          · exact hOw.cons hlog (by omega) hgl2
        refine ⟨_, rfl, ⟨.slice (some ⟨g, 0, none⟩) 2 2, bl, rfl, HS.out, hO.same (fun x hx => ?_), hown.widen (by omega) (by simp)⟩, by (repeat (first | with_reducible assumption | with_reducible exact Below.refl _ _ | with_reducible refine Below.setCell ?_ (by first | omega | (simp; done) | (simp; omega)) _ | with_reducible refine Below.alloc ?_ (by first | omega | (simp; done) | (simp; omega)) _ | with_reducible refine below_drewN ?_ _ | with_reducible refine Below.drew ?_ | with_reducible refine Below.trans ?_ (Below.mono hbl (by first | omega | (simp; done) | (simp; omega)))))⟩
        have := (hown.1 x hx).1
        repeat rw [Below.heap_setCell _ _ _ _ (by simp; omega)]
theorem imBare_cast (n : Int) (s : Bytes) (x y : Ex) (IH : ImB x y) : ImB (.mk 4 n s [x]) y := by
  intro v w hv
  obtain ⟨k', n', s', A, c, l, e, rfl, hs, hc, hcm, hkv⟩ := hv.form
  obtain ⟨rfl, rfl, rfl, rfl⟩ := Ex.mk.inj e
  obtain ⟨b, o, p1, q1, s1, A1, c1, m1, rfl, hb, hg, hs1, hm1, hc1, hk1, f0, f1, f2, f3⟩ := ex_at hkv (i := 0) (by simp)
  obtain rfl : x = .mk p1 q1 s1 m1 := by simpa using hg
  rw [bs_size] at hs1
  have IH' := Lib.hid (fun (w' : World) (h : Below w.heap.size w w') => IH (.agg #[.int .i64 p1, .int .i64 q1, .string (bs s1), .slice A1 m1.length c1]) w' ⟨_, rfl, hs1, (hk1.keep h (Nat.le_refl _)).more h.size⟩)
  have hB : Below w.heap.size w ((w.alloc (.cells #[.int .i64 4, .int .i64 n, .string (bs s), .slice (some ⟨b, o, none⟩) 1 c] 24)).alloc (.cells #[.int .i64 0, .int .i64 0, .string ⟨#[]⟩, .slice none 0 0] 24)) := by (repeat (first | with_reducible assumption | with_reducible exact Below.refl _ _ | with_reducible refine Below.setCell ?_ (by first | omega | (simp; done) | (simp; omega)) _ | with_reducible refine Below.alloc ?_ (by first | omega | (simp; done) | (simp; omega)) _ | with_reducible refine below_drewN ?_ _ | with_reducible refine Below.drew ?_))
  have g0 := f0 ⟨_, hB⟩; have g1 := f1 ⟨_, hB⟩; have g2 := f2 ⟨_, hB⟩; have g3 := f3 ⟨_, hB⟩
  simp only [Nat.zero_mul, Nat.add_zero] at g0 g1 g2 g3
  clear f0 f1 f2 f3 hk1 hkv IH hv hB
  go_enter Tryz.func142, Tryz.ntmps142
  go_wp2_with fail
  refine (IH'.out _ (by (repeat (first | with_reducible assumption | with_reducible exact Below.refl _ _ | with_reducible refine Below.setCell ?_ (by first | omega | (simp; done) | (simp; omega)) _ | with_reducible refine Below.alloc ?_ (by first | omega | (simp; done) | (simp; omega)) _ | with_reducible refine below_drewN ?_ _ | with_reducible refine Below.drew ?_)))).mono ?_
  rintro r w2 ⟨v2, rfl, hM2, hb2⟩
  obtain ⟨A2, c2, rfl, hc2, hm2, hs2⟩ := hM2.form
  have hz2 := hb2.size
  simp at hz2
  have k1_0 := fun o => hb2.cell (p := ⟨w.heap.size, o, none⟩) (by first | omega | (simp; done) | (simp; omega)); have k1f_0 := fun o => hb2.frozen (p := ⟨w.heap.size, o, none⟩) (by first | omega | (simp; done) | (simp; omega)); have k1_1 := fun o => hb2.cell (p := ⟨w.heap.size + 1, o, none⟩) (by first | omega | (simp; done) | (simp; omega)); have k1f_1 := fun o => hb2.frozen (p := ⟨w.heap.size + 1, o, none⟩) (by first | omega | (simp; done) | (simp; omega))
  have HD := Lib.hid (And.intro hM2 hb2)
  clear hM2 hb2 IH'
  go_wp2_with fail
  refine bodyPost_ret (v := vEx y.kind y.n y.s (.slice A2 y.kids.length c2)) (by simp [results, Tryz.results142, go_sem, vEx, *]) rfl ?_
  obtain ⟨hM2, hb2⟩ := HD.out
  refine ⟨_, rfl, (hM2.same (fun b h1 h2 => ?_)).widen (by simp; omega) (by simp), by (repeat (first | with_reducible assumption | with_reducible exact Below.refl _ _ | with_reducible refine Below.setCell ?_ (by first | omega | (simp; done) | (simp; omega)) _ | with_reducible refine Below.alloc ?_ (by first | omega | (simp; done) | (simp; omega)) _ | with_reducible refine below_drewN ?_ _ | with_reducible refine Below.drew ?_ | with_reducible refine Below.trans ?_ (Below.mono hb2 (by first | omega | (simp; done) | (simp; omega)))))⟩
  simp at h1
  repeat rw [Below.heap_setCell _ _ _ _ (by simp; omega)]
theorem imBare_any : ∀ e : E, ImB e.ex e.bare.ex
  | .num n => imBare_leaf 1 n [] (by decide)
  | .nam s => imBare_leaf 2 0 s (by decide)
  | .two o a b => imBare_two 3 0 o.b a.ex b.ex a.bare.ex b.bare.ex (by decide) (imBare_any a) (imBare_any b)
  | .cast t a => imBare_cast 0 (tyB t) a.ex a.bare.ex (imBare_any a)
end Go.Proofs.YtgakjhaepdigpaaGreatDoor
