/- Whence words came by two maps: the program's and the reference's MapJoin, as one plain function. -/
import Derived.Test.YtchonnfjjceicaaBack
import Derived.Deep.RegionHeld3
import Derived.Deep.DeepCutAuto
namespace Go.Proofs.Ytchonnfjjceicaa
open Go.RowKit

def joinS (b : List Sg) (s : Sg) : Option Sg := (lookL b s.2).map (fun p => (s.1, p))
def joinL (a b : List Sg) : List Sg := a.filterMap (joinS b)
noncomputable def mapJoinL (a b : List Sg) : List Sg := if segsOkB a = true then (if segsOkB b = true then joinL a b else []) else []
theorem joinL_take {a b : List Sg} {i : Nat} {s : Sg} (h : a[i]? = some s) : joinL (a.take (i + 1)) b = joinL (a.take i) b ++ (joinS b s).toList := by
  have hi : i < a.length := (List.getElem?_eq_some_iff.1 h).1
  have hs : a[i] = s := by rw [List.getElem?_eq_getElem hi] at h; exact Option.some.inj h
  rw [List.take_succ_eq_append_getElem hi, hs]
  unfold joinL
  rw [List.filterMap_append]
  cases e : joinS b s <;> simp [e]
theorem joinL_len (a b : List Sg) (i : Nat) : (joinL (a.take i) b).length ≤ i := by
  unfold joinL
  exact Nat.le_trans (List.length_filterMap_le _ _) (List.length_take_le _ _)
theorem joinL_step {a b : List Sg} {i : Nat} {s : Sg} {p : Ps} (h : a[i]? = some s) (e : lookL b s.2 = some p) : joinL (a.take (i + 1)) b = joinL (a.take i) b ++ [(s.1, p)] := by rw [joinL_take h]; unfold joinS; rw [e]; rfl
theorem joinL_skip {a b : List Sg} {i : Nat} {s : Sg} (h : a[i]? = some s) (e : lookL b s.2 = none) : joinL (a.take (i + 1)) b = joinL (a.take i) b := by rw [joinL_take h]; unfold joinS; rw [e]; simp
theorem mapJoinL_len (a b : List Sg) : (mapJoinL a b).length ≤ 1280 := by
  unfold mapJoinL
  split
  · next h =>
    split
    · have h1 := joinL_len a b a.length
      rw [List.take_length] at h1
      exact Nat.le_trans h1 (segsOkB_iff.1 h).2
    · simp
  · simp


theorem heap_alloc_at (w : World) (o : Obj) (B : Nat) (h : w.heap.size = B) : (w.alloc o).heap[B]? = some o := h ▸ heap_alloc_new w o
theorem Got.ne1 {α : Type} {row : α → List Value} {k : Nat} {t : TypeId} {W0 w : World} {u : Value} {m : List α} (h : Got row k t W0 w u m) {b : Nat} (hb : b < W0.heap.size) : u.ownBlock ≠ some b := fun e => by
  have := (h.1.lt b e).1
  omega
theorem Got.ne2 {α : Type} {row : α → List Value} {k : Nat} {t : TypeId} {W0 w : World} {u : Value} {m : List α} (h : Got row k t W0 w u m) {b : Nat} (hb : w.heap.size ≤ b) : u.ownBlock ≠ some b := fun e => by
  have := (h.1.lt b e).2
  omega
theorem mapJoinL_yes {a b : List Sg} (h1 : SegsOk a) (h2 : SegsOk b) : mapJoinL a b = joinL a b := by unfold mapJoinL; rw [if_pos (segsOkB_yes h1), if_pos (segsOkB_yes h2)]
theorem mapJoinL_no1 {a b : List Sg} (h1 : ¬ SegsOk a) : mapJoinL a b = [] := by unfold mapJoinL; rw [segsOkB_no h1]; rfl
theorem mapJoinL_no2 {a b : List Sg} (h2 : ¬ SegsOk b) : mapJoinL a b = [] := by unfold mapJoinL; rw [segsOkB_no h2]; simp

theorem clipSeg_any (v : Value) (l : List Sg) (lo : Nat) (w : World) (hv : Fr sgRow 4 45 w lo v l) :
    Calls Try.prog 38 #[v] w fun e w' => ∃ u, e = .returned u ∧ Fr sgRow 4 45 w' lo u l ∧ w = w' := by
  rcases hv.form with ⟨rfl, rfl⟩ | ⟨g, cap, cur, rfl, hlo, hc, hm, hB, hx⟩
  · go_enter Try.func38, Try.ntmps38
    go_wp2
    go_ret
    exact ⟨_, rfl, .inl ⟨rfl, rfl⟩, rfl⟩
  · go_enter Try.func38, Try.ntmps38
    go_wp2
    go_ret
    exact ⟨_, rfl, hv.clip, rfl⟩

theorem spMapJoin_any (v u : Value) (a b : List Sg) (w : World) (hv : SlS w w.heap.size v a) (hu : SlS w w.heap.size u b) :
    Calls Try.prog 25 #[v, u] w fun e W' => ∃ x, e = .returned x ∧ Fr sgRow 4 45 W' w.heap.size x (mapJoinL a b) ∧ Below w.heap.size w W' := by
  obtain ⟨A, c, rfl, hc, hm⟩ := hv.val
  obtain ⟨i0, hi, hz0, hz1, hz2⟩ := info_parts infoSeg
  have hB1 : Below w.heap.size w (w.alloc (.cells #[] 45)) := by (repeat (first | with_reducible assumption | with_reducible exact Below.refl _ _ | with_reducible refine Below.setCell ?_ (by first | omega | (simp; done) | (simp; omega)) _ | with_reducible refine Below.alloc ?_ (by first | omega | (simp; done) | (simp; omega)) _ | with_reducible refine below_drewN ?_ _ | with_reducible refine Below.drew ?_))
  have hg : Got sgRow 4 45 w (w.alloc (.cells #[] 45)) (.slice (some ⟨w.heap.size, 0, none⟩) 0 0) [] := ⟨World.ownsRow_made w #[] 0 (Nat.le_refl _) (by decide) (by simp), hB1⟩
  go_enter Try.func25, Try.ntmps25
  go_wp2_with fail
  obtain ⟨Wa, hWa⟩ : ∃ Wa, Wa = w.alloc (.cells #[] 45) := ⟨_, rfl⟩
  rw [← hWa] at hB1 hg ⊢
  clear hWa
  have HG0 := Lib.hid hg
  clear hg
  refine (spSegsOk_any _ _ a (hv.ext hB1)).mono ?_
  rintro e Wb ⟨rfl, hE1⟩
  have hB2 := hB1.ext hE1
  have HG1 := Lib.hid (HG0.out.ext hE1)
  clear HG0 hB1 hE1
  by_cases ha : SegsOk a
  rotate_left
  · rw [segsOkB_no ha]
    go_wp2_with fail
    go_ret
    exact ⟨_, rfl, by rw [mapJoinL_no1 ha]; exact HG1.out.fr (fun _ => rfl), hB2⟩
  rw [segsOkB_yes ha]
  have HA := Lib.hid ha
  clear ha
  go_wp2_with fail
  refine (spSegsOk_any _ _ b (hu.ext hB2)).mono ?_
  rintro e Wc ⟨rfl, hE2⟩
  have hB3 := hB2.ext hE2
  have HG2 := Lib.hid (HG1.out.ext hE2)
  clear HG1 hB2 hE2
  by_cases hb : SegsOk b
  rotate_left
  · rw [segsOkB_no hb]
    go_wp2_with fail
    go_ret
    exact ⟨_, rfl, by rw [mapJoinL_no2 hb]; exact HG2.out.fr (fun _ => rfl), hB3⟩
  rw [segsOkB_yes hb]
  have HB := Lib.hid hb
  clear hb
  go_wp2_with fail
  go_loopg [5, 6] a.length (fun n x m wr => ∃ i : Nat, n = a.length - i ∧ i ≤ a.length ∧ m = .int .i64 i ∧ Got sgRow 4 45 w wr x (joinL (a.take i) b))
  case atStart => exact ⟨0, by omega, by omega, rfl, HG2.out⟩
  case round =>
    obtain ⟨i, hk, hin, rfl, hg⟩ := hrel
    have hb := hg.2
    have HK := Lib.hid hk
    clear hk
    by_cases hlt : i < a.length
    · obtain ⟨b0, o, p, q, r, t, rfl, hbb, hgt, f0, f1, f2, f3⟩ := sg_at hv hlt
      have HG := Lib.hid hgt
      have g0 := f0 ⟨wr, hb⟩
      have g1 := f1 ⟨wr, hb⟩
      have g2 := f2 ⟨wr, hb⟩
      have g3 := f3 ⟨wr, hb⟩
      clear hgt f0 f1 f2 f3
      go_wp2_with fail
      refine (spLook_any u b r t wr ((hu.below hb (Nat.le_refl _)).more hb.size)).mono ?_
      rintro e w2 ⟨rfl, hE⟩
      skip; replace hg := hg.ext hE
      skip; replace g0 := hE.keepc g0; replace g1 := hE.keepc g1
      obtain ⟨o', ho⟩ : ∃ o', lookL b (r, t) = o' := ⟨_, rfl⟩
      rw [ho]
      have HF := Lib.hid ho
      clear ho
      cases o' with
      | none =>
        unfold lookV
        go_wp2_with fail
        go_roundg (a.length - (i + 1))
        case measure => have := HK.out; omega
        case rel => exact ⟨i + 1, rfl, by omega, by go_num, by rw [joinL_skip HG.out HF.out]; exact hg.ext (by (repeat (first | with_reducible assumption | with_reducible exact Below.refl _ _ | with_reducible refine Below.setCell ?_ (by first | omega | (simp; done) | (simp; omega)) _ | with_reducible refine Below.alloc ?_ (by first | omega | (simp; done) | (simp; omega)) _ | with_reducible refine below_drewN ?_ _ | with_reducible refine Below.drew ?_)))⟩
      | some x =>
        obtain ⟨x1, x2⟩ := x
        unfold lookV
        go_upto_region 9 with fail
        obtain ⟨W2, hW2⟩ : ∃ W2, W2 = w2.alloc (.cells #[.int .i64 x1, .int .i64 x2] 32) := ⟨_, rfl⟩
        have hB2 : Below w2.heap.size w2 W2 := by rw [hW2]; (repeat (first | with_reducible assumption | with_reducible exact Below.refl _ _ | with_reducible refine Below.setCell ?_ (by first | omega | (simp; done) | (simp; omega)) _ | with_reducible refine Below.alloc ?_ (by first | omega | (simp; done) | (simp; omega)) _ | with_reducible refine below_drewN ?_ _ | with_reducible refine Below.drew ?_))
        have m0 : W2.cell? ⟨w2.heap.size, 0, none⟩ = some (.int .i64 x1) := by rw [hW2]; simp
        have m1 : W2.cell? ⟨w2.heap.size, 1, none⟩ = some (.int .i64 x2) := by rw [hW2]; simp
        rw [← hW2]
        clear hW2
        skip; replace g0 := hB2.keepc g0; replace g1 := hB2.keepc g1
        have hne1 := hg.ne1 hbb
        have hne2 := hg.ne2 (Nat.le_refl _)
        replace hg := hg.ext hB2
        have hl0 := joinL_len a b i
        have hl1 : (joinL (a.take i) b).length + 1 ≤ maxLen := by have := HA.out.2; unfold maxLen; omega
        have hl2 : ((joinL (a.take i) b).length + 1) * 32 ≤ 140737488355328 := by have := HA.out.2; omega
        have h1c : ∀ u ∈ ([.int .i64 p, .int .i64 q, .int .i64 x1, .int .i64 x2] : List Value), u.oneCell' = true := by intro u hu; simp at hu; rcases hu with rfl | rfl | rfl | rfl <;> rfl
        have hl3 := hg.2.size
        clear hl0
        go_region_held3 (fun w' => w'.cell? ⟨b0, o + i * 4, none⟩ = some (.int .i64 p) ∧ w'.cell? ⟨b0, o + i * 4 + 1, none⟩ = some (.int .i64 q) ∧ w'.cell? ⟨w2.heap.size, 0, none⟩ = some (.int .i64 x1) ∧ w'.cell? ⟨w2.heap.size, 1, none⟩ = some (.int .i64 x2)) (first | go_keep | exact ⟨grown_cell hgr ((show Below W2.heap.size W2 _ from by (repeat (first | with_reducible assumption | with_reducible exact Below.refl _ _ | with_reducible refine Below.setCell ?_ (by first | omega | (simp; done) | (simp; omega)) _ | with_reducible refine Below.alloc ?_ (by first | omega | (simp; done) | (simp; omega)) _ | with_reducible refine below_drewN ?_ _ | with_reducible refine Below.drew ?_))).keepc g0) hne1, grown_cell hgr ((show Below W2.heap.size W2 _ from by (repeat (first | with_reducible assumption | with_reducible exact Below.refl _ _ | with_reducible refine Below.setCell ?_ (by first | omega | (simp; done) | (simp; omega)) _ | with_reducible refine Below.alloc ?_ (by first | omega | (simp; done) | (simp; omega)) _ | with_reducible refine below_drewN ?_ _ | with_reducible refine Below.drew ?_))).keepc g1) hne1, grown_cell hgr ((show Below W2.heap.size W2 _ from by (repeat (first | with_reducible assumption | with_reducible exact Below.refl _ _ | with_reducible refine Below.setCell ?_ (by first | omega | (simp; done) | (simp; omega)) _ | with_reducible refine Below.alloc ?_ (by first | omega | (simp; done) | (simp; omega)) _ | with_reducible refine below_drewN ?_ _ | with_reducible refine Below.drew ?_))).keepc m0) hne2, grown_cell hgr ((show Below W2.heap.size W2 _ from by (repeat (first | with_reducible assumption | with_reducible exact Below.refl _ _ | with_reducible refine Below.setCell ?_ (by first | omega | (simp; done) | (simp; omega)) _ | with_reducible refine Below.alloc ?_ (by first | omega | (simp; done) | (simp; omega)) _ | with_reducible refine below_drewN ?_ _ | with_reducible refine Below.drew ?_))).keepc m1) hne2⟩)
            (first
              | (refine step_append_lies _ rfl _ _ 25 rfl w.heap.size 45 i0 _ 4 32 Try.underlying25 hi hz0 hz1 hz2 rfl (by decide) _ (joinL (a.take i) b).length _ rfl (own_ext hg.1 (by (repeat (first | with_reducible assumption | with_reducible exact Below.refl _ _ | with_reducible refine Below.setCell ?_ (by first | omega | (simp; done) | (simp; omega)) _ | with_reducible refine Below.alloc ?_ (by first | omega | (simp; done) | (simp; omega)) _ | with_reducible refine below_drewN ?_ _ | with_reducible refine Below.drew ?_)))) ⟨W2.heap.size, 0, none⟩ 1 1 [.int .i64 p, .int .i64 q, .int .i64 x1, .int .i64 x2] rfl rfl (World.news_of_block (heap_alloc_at _ _ _ (by simp))) h1c (by decide) hl1 hl2 (by simp; omega) _ rfl ?_; intro gg cap w3 ho hgr hat hlt3))
        have hg2 := hg.put (s := ((p, q), (x1, x2))) (by (repeat (first | with_reducible assumption | with_reducible exact Below.refl _ _ | with_reducible refine Below.setCell ?_ (by first | omega | (simp; done) | (simp; omega)) _ | with_reducible refine Below.alloc ?_ (by first | omega | (simp; done) | (simp; omega)) _ | with_reducible refine below_drewN ?_ _ | with_reducible refine Below.drew ?_))) ho hgr
        go_wp2_with fail
        go_roundg (a.length - (i + 1))
        case measure => have := HK.out; omega
        case rel => exact ⟨i + 1, rfl, by omega, by go_num, by rw [joinL_step HG.out HF.out]; exact hg2⟩
    · obtain rfl : i = a.length := by omega
      go_wp2_with fail
      go_ret
      rw [List.take_length] at hg
      exact ⟨_, rfl, by rw [mapJoinL_yes HA.out HB.out]; exact hg.fr (fun _ => rfl), hg.2⟩
theorem imMapJoin_any (v u : Value) (a b : List Sg) (w : World) (hv : SlS w w.heap.size v a) (hu : SlS w w.heap.size u b) :
    Calls Try.prog 26 #[v, u] w fun e W' => ∃ x, e = .returned x ∧ Fr sgRow 4 45 W' w.heap.size x (mapJoinL a b) ∧ Below w.heap.size w W' := by
  obtain ⟨A, c, rfl, hc, hm⟩ := hv.val
  obtain ⟨i0, hi, hz0, hz1, hz2⟩ := info_parts infoSeg
  go_enter Try.func26, Try.ntmps26
  go_wp2_with fail
  refine (imSegsOk_any _ _ a hv).mono ?_
  rintro e Wb ⟨rfl, hB2⟩
  by_cases ha : SegsOk a
  rotate_left
  · rw [segsOkB_no ha]
    go_wp2_with fail
    go_ret
    exact ⟨_, rfl, .inl ⟨rfl, mapJoinL_no1 ha⟩, hB2⟩
  rw [segsOkB_yes ha]
  have HA := Lib.hid ha
  clear ha
  go_wp2_with fail
  refine (imSegsOk_any _ _ b (hu.ext hB2)).mono ?_
  rintro e Wc ⟨rfl, hE2⟩
  have hB3 := hB2.ext hE2
  clear hB2 hE2
  by_cases hb : SegsOk b
  rotate_left
  · rw [segsOkB_no hb]
    go_wp2_with fail
    go_ret
    exact ⟨_, rfl, .inl ⟨rfl, mapJoinL_no2 hb⟩, hB3⟩
  rw [segsOkB_yes hb]
  have HB := Lib.hid hb
  clear hb
  go_wp2_with fail
  go_loopg [5, 20] a.length (fun n x m wr => ∃ i : Nat, n = a.length - i ∧ i ≤ a.length ∧ m = .int .i64 i ∧ Got sgRow 4 45 w wr x (joinL (a.take i) b))
  case atStart => exact ⟨0, by omega, by omega, rfl, World.ownsRow_nil _ _ _ _, hB3⟩
  case round =>
    obtain ⟨i, hk, hin, rfl, hg⟩ := hrel
    have hb := hg.2
    have HK := Lib.hid hk
    clear hk
    by_cases hlt : i < a.length
    · obtain ⟨b0, o, p, q, r, t, rfl, hbb, hgt, f0, f1, f2, f3⟩ := sg_at hv hlt
      have HG := Lib.hid hgt
      have g0 := f0 ⟨wr, hb⟩
      have g1 := f1 ⟨wr, hb⟩
      have g2 := f2 ⟨wr, hb⟩
      have g3 := f3 ⟨wr, hb⟩
      clear hgt f0 f1 f2 f3
      obtain ⟨W1, hW1⟩ : ∃ W1, W1 = wr.alloc (.cells #[.int .i64 p, .int .i64 q, .int .i64 r, .int .i64 t] 45) := ⟨_, rfl⟩
      have hB1 : Below wr.heap.size wr W1 := by rw [hW1]; (repeat (first | with_reducible assumption | with_reducible exact Below.refl _ _ | with_reducible refine Below.setCell ?_ (by first | omega | (simp; done) | (simp; omega)) _ | with_reducible refine Below.alloc ?_ (by first | omega | (simp; done) | (simp; omega)) _ | with_reducible refine below_drewN ?_ _ | with_reducible refine Below.drew ?_))
      have s0 : W1.cell? ⟨wr.heap.size, 0, none⟩ = some (.int .i64 p) := by rw [hW1]; simp
      have s1 : W1.cell? ⟨wr.heap.size, 1, none⟩ = some (.int .i64 q) := by rw [hW1]; simp
      replace hg := hg.ext hB1
      have HW1 := Lib.hid hW1
      clear hW1
      go_wp2_with fail
      rw [← HW1.out]
      refine (imLook_any u b r t W1 ((hu.below (hb.ext hB1) (Nat.le_refl _)).more (hb.ext hB1).size)).mono ?_
      rintro e w2 ⟨rfl, hE⟩
      skip; replace hg := hg.ext hE
      skip; replace s0 := hE.keepc s0; replace s1 := hE.keepc s1
      clear HW1
      obtain ⟨o', ho⟩ : ∃ o', lookL b (r, t) = o' := ⟨_, rfl⟩
      rw [ho]
      have HF := Lib.hid ho
      clear ho
      cases o' with
      | none =>
        unfold lookV
        go_wp2_with fail
        go_roundg (a.length - (i + 1))
        case measure => have := HK.out; omega
        case rel => exact ⟨i + 1, rfl, by omega, by go_num, by rw [joinL_skip HG.out HF.out]; exact hg.ext (by (repeat (first | with_reducible assumption | with_reducible exact Below.refl _ _ | with_reducible refine Below.setCell ?_ (by first | omega | (simp; done) | (simp; omega)) _ | with_reducible refine Below.alloc ?_ (by first | omega | (simp; done) | (simp; omega)) _ | with_reducible refine below_drewN ?_ _ | with_reducible refine Below.drew ?_)))⟩
      | some x =>
        obtain ⟨x1, x2⟩ := x
        unfold lookV
        have hB4 : Below w2.heap.size w2 ((w2.alloc (.cells #[.int .i64 x1, .int .i64 x2] 32)).alloc (.cells #[.int .i64 p, .int .i64 q, .int .i64 x1, .int .i64 x2] 45)) := by (repeat (first | with_reducible assumption | with_reducible exact Below.refl _ _ | with_reducible refine Below.setCell ?_ (by first | omega | (simp; done) | (simp; omega)) _ | with_reducible refine Below.alloc ?_ (by first | omega | (simp; done) | (simp; omega)) _ | with_reducible refine below_drewN ?_ _ | with_reducible refine Below.drew ?_))
        have hB5 : Below w2.heap.size w2 (w2.alloc (.cells #[.int .i64 x1, .int .i64 x2] 32)) := by (repeat (first | with_reducible assumption | with_reducible exact Below.refl _ _ | with_reducible refine Below.setCell ?_ (by first | omega | (simp; done) | (simp; omega)) _ | with_reducible refine Below.alloc ?_ (by first | omega | (simp; done) | (simp; omega)) _ | with_reducible refine below_drewN ?_ _ | with_reducible refine Below.drew ?_))
        have m0 := hB5.keepc s0
        have m1 := hB5.keepc s1
        have ho1 := own_ext hg.1 hB4
        have hl3 := Nat.le_trans hg.2.size hB4.size
        have hn := World.news_of_block (heap_alloc_new (w2.alloc (.cells #[.int .i64 x1, .int .i64 x2] 32)) (.cells #[.int .i64 p, .int .i64 q, .int .i64 x1, .int .i64 x2] 45))
        rw [show (w2.alloc (.cells #[.int .i64 x1, .int .i64 x2] 32)).heap.size = w2.heap.size + 1 from by simp] at hn
        have hl0 := joinL_len a b i
        have hl1 : (joinL (a.take i) b).length + 1 ≤ maxLen := by have := HA.out.2; unfold maxLen; omega
        have hl2 : ((joinL (a.take i) b).length + 1) * 32 ≤ 140737488355328 := by have := HA.out.2; omega
        have h1c : ∀ u ∈ ([.int .i64 p, .int .i64 q, .int .i64 x1, .int .i64 x2] : List Value), u.oneCell' = true := by intro u hu; simp at hu; rcases hu with rfl | rfl | rfl | rfl <;> rfl
        clear hl0
        go_wp2_with (at_builtin; refine wpList_append_own _ rfl _ _ 25 rfl w.heap.size 45 i0 _ 4 32 Try.underlying25 hi hz0 hz1 hz2 rfl (by decide) _ (joinL (a.take i) b).length _ rfl ho1 ⟨w2.heap.size + 1, 0, none⟩ 1 1 [.int .i64 p, .int .i64 q, .int .i64 x1, .int .i64 x2] rfl rfl hn h1c hl1 hl2 hl3 ?_; intro u' w3 ho hgr _)
        have hg2 := hg.put (s := ((p, q), (x1, x2))) hB4 ho hgr
        go_roundg (a.length - (i + 1))
        case measure => have := HK.out; omega
        case rel => exact ⟨i + 1, rfl, by omega, by go_num, by rw [joinL_step HG.out HF.out]; exact hg2⟩
    · obtain rfl : i = a.length := by omega
      go_wp2_with fail
      rw [List.take_length] at hg
      refine (clipSeg_any _ _ _ _ (hg.fr (fun _ => rfl))).mono ?_
      rintro e w2 ⟨x, rfl, hx, rfl⟩
      go_wp2_with fail
      go_ret
      exact ⟨_, rfl, by rw [mapJoinL_yes HA.out HB.out]; exact hx, hg.2⟩
end Go.Proofs.Ytchonnfjjceicaa
