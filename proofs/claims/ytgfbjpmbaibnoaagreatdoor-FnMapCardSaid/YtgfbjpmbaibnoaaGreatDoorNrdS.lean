
/- The numbers of letters: the walks of both readers. -/
import Derived.Test.YtgfbjpmbaibnoaaGreatDoorNrdW
import Derived.Test.YtgfbjpmbaibnoaaGreatDoorZm3
import Derived.Test.YtgfbjpmbaibnoaaGreatDoorZm8
namespace Go.Proofs.YtgfbjpmbaibnoaaGreatDoor
set_option maxRecDepth 100000
set_option linter.unusedSimpArgs false
set_option linter.unusedVariables false
open Go.RowKit
attribute [local go_sem] bs_toList bs_get bs_size

abbrev GtNr := Gt intRow 1 3
theorem infoNr : (Tryz.prog.info? 3).map (fun i => (i.zero, i.size, i.bytes)) = some (some (.int .i64 0), 1, 8) := by kernel_rfl
theorem rtNr : RowTy intRow 1 3 136 := .of_info (fun _ => rfl) (fun s u hu => by simp [intRow] at hu; subst hu; rfl) (by decide) Tryz.underlying136 infoNr (by decide) rfl
theorem clipNr_any (v : Value) (l : List Int) (lo : Nat) (w : World) (hv : Fr intRow 1 3 w lo v l) :
    Calls Tryz.prog 178 #[v] w fun e w' => ∃ u, e = .returned u ∧ Fr intRow 1 3 w' lo u l ∧ w = w' := by
  rcases hv.form with ⟨rfl, rfl⟩ | ⟨g, cap, cur, rfl, hlo, hc, hm, hB, hx⟩
  · go_enter Tryz.func178, Tryz.ntmps178
    go_wp2
    go_ret
    exact ⟨_, rfl, .inl ⟨rfl, rfl⟩, rfl⟩
  · go_enter Tryz.func178, Tryz.ntmps178
    go_wp2
    go_ret
    exact ⟨_, rfl, hv.clip, rfl⟩
/-- what a reader of numbers tells -/
def NsP (s : Bytes) (w : World) (e : Ending) (w' : World) : Prop := ∃ (u : Value) (l : List Int) (ok : Bool), e = .returned (.tuple #[u, .bool ok]) ∧ Fr intRow 1 3 w' w.heap.size u l ∧ ((ok = true ∧ rdNs s = some l) ∨ (ok = false ∧ l = [] ∧ rdNs s = none)) ∧ Below w.heap.size w w'
set_option maxHeartbeats 1000000 in
theorem spNumsRead_any (s : Bytes) (w : World) (hs : s.length ≤ 100000) : Calls Tryz.prog 179 #[.string (bs s)] w (NsP s w) := by
  have NR := Lib.hid (fun (a : Nat) (w' : World) (h : a ≤ s.length) => spNumRead_any s a w' h (by omega))
  unfold NrP at NR
  go_enter Tryz.func179, Tryz.ntmps179
  go_wp2_with fail
  go_loopg [4, 5] s.length (fun n o a wr => ∃ (at_ : Nat) (l0 : List Int), n = s.length - at_ ∧ at_ ≤ s.length ∧ a = .int .i64 (at_ : Int) ∧ GtNr w.heap.size wr o l0 ∧ l0.length ≤ at_ ∧ rdNs s = (rdNs (s.drop at_)).map (fun l => l0 ++ l) ∧ Below w.heap.size w wr)
  case atStart => exact ⟨0, [], by omega, by omega, rfl, gt_empty intRow 1 3 w _ (Nat.le_refl _) (Below.refl _ _), by simp, by rw [List.drop_zero]; cases rdNs s <;> rfl, by (repeat (first | with_reducible assumption | with_reducible exact Below.refl _ _ | with_reducible refine Below.setCell ?_ (by first | omega | (simp; done) | (simp; omega)) _ | with_reducible refine Below.alloc ?_ (by first | omega | (simp; done) | (simp; omega)) _ | with_reducible refine below_drewN ?_ _ | with_reducible refine Below.drew ?_))⟩
  case round =>
    obtain ⟨at_, l0, hn, ha, rfl, hG, hl0, ht, hbl⟩ := hrel
    have HK := Lib.hid (And.intro hn ht)
    clear hn ht
    have hz := hbl.size
    by_cases hlt : at_ < s.length
    · have C := Lib.hid (NR.out at_ wr (by omega))
      obtain ⟨Au, cu, rfl, _, _⟩ := hG.val
      have HG := Lib.hid hG
      clear hG
      go_wp2_with fail
      refine C.out.mono ?_
      rintro r w2 ⟨hor, hb2⟩
      have hbw2 := hbl.ext hb2
      have hz2 := hbw2.size
      rcases hor with ⟨m, k, hrd, rfl⟩ | ⟨hrd, rfl⟩
      · obtain ⟨hk1, hk2, _, _⟩ := rdN_len hrd
        rw [List.length_drop] at hk2
        have hmo := rdNs_more hrd
        rw [List.drop_drop] at hmo
        have HM := Lib.hid (show rdNs s = (rdNs (s.drop (at_ + k))).map (fun l => (l0 ++ [m]) ++ l) by rw [HK.out.2, hmo, Option.map_map]; congr 1; funext l; simp)
        clear hrd hmo
        go_wp2_with (first | (at_builtin; refine app_plain rtNr (by rfl) (.tmp 21) (.tmp 23) (by rfl) w.heap.size (.slice Au l0.length cu) l0 (by rfl) ((HG.out.ext hb2).ext (by (repeat (first | with_reducible assumption | with_reducible exact Below.refl _ _ | with_reducible refine Below.setCell ?_ (by first | omega | (simp; done) | (simp; omega)) _ | with_reducible refine Below.alloc ?_ (by first | omega | (simp; done) | (simp; omega)) _ | with_reducible refine below_drewN ?_ _ | with_reducible refine Below.drew ?_)))) ⟨w2.heap.size, 0, none⟩ 1 [m] (by rfl) (World.news_of_block (heap_alloc_new w2 _)) Nat.zero_lt_one (by simp; omega) (by simp; omega) ?_; intro g' cap' w3 hG3 hgr3 hat3) | fail)
        go_roundg (s.length - (at_ + k))
        case measure => have := HK.out.1; omega
        case rel => exact ⟨at_ + k, _, rfl, by omega, by go_num, hG3.len (by simp) rfl, by simp; omega, HM.out, below_app (by (repeat (first | with_reducible assumption | with_reducible exact Below.refl _ _ | with_reducible refine Below.setCell ?_ (by first | omega | (simp; done) | (simp; omega)) _ | with_reducible refine Below.alloc ?_ (by first | omega | (simp; done) | (simp; omega)) _ | with_reducible refine below_drewN ?_ _ | with_reducible refine Below.drew ?_ | with_reducible refine Below.trans ?_ (Below.mono hbw2 (by first | omega | (simp; done) | (simp; omega)))))) hgr3 (fun q hq => (HG.out.lt hq).1) (by simp; omega)⟩
      · have HN := Lib.hid (show rdNs s = none by rw [HK.out.2, rdNs_bad (by intro h; have := congrArg List.length h; simp at this; omega) hrd]; rfl)
        clear hrd
        go_wp2_with fail
        refine bodyPost_ret (v := .tuple #[.slice none 0 0, .bool false]) (by simp [results, Tryz.results179, go_sem, *]) rfl ?_
        exact ⟨_, [], false, rfl, .inl ⟨rfl, rfl⟩, .inr ⟨rfl, rfl, HN.out⟩, hbw2⟩
    · have hat : at_ = s.length := by omega
      have HT := Lib.hid (show rdNs s = some l0 by rw [HK.out.2, hat, List.drop_length, rdNs_nil]; simp)
      have HF := Lib.hid (show Fr intRow 1 3 wr w.heap.size _ l0 from Fr.of_owns (fun _ => rfl) hG)
      clear hat
      obtain ⟨Au, cu, rfl, _, _⟩ := hG.val; go_wp2_with fail; (refine bodyPost_ret (v := .tuple #[.slice Au l0.length cu, .bool true]) (by simp [results, Tryz.results179, go_sem, *]) rfl ?_); exact ⟨_, l0, true, rfl, HF.out, .inl ⟨rfl, HT.out⟩, hbl⟩
set_option maxHeartbeats 1000000 in
theorem imNumsRead_any (s : Bytes) (w : World) (hs : s.length ≤ 100000) : Calls Tryz.prog 120 #[.string (bs s)] w (NsP s w) := by
  have NR := Lib.hid (fun (a : Nat) (w' : World) (h : a < s.length) => imNumRead_any s a w' h (by omega))
  unfold NrP at NR
  go_enter Tryz.func120, Tryz.ntmps120
  go_wp2_with fail
  go_loopg [4, 5] s.length (fun n o a wr => ∃ (at_ : Nat) (l0 : List Int), n = s.length - at_ ∧ at_ ≤ s.length ∧ a = .int .i64 (at_ : Int) ∧ GtNr w.heap.size wr o l0 ∧ l0.length ≤ at_ ∧ rdNs s = (rdNs (s.drop at_)).map (fun l => l0 ++ l) ∧ Below w.heap.size w wr)
  case atStart => exact ⟨0, [], by omega, by omega, rfl, Gt.nil _ _ _ _ _, by simp, by rw [List.drop_zero]; cases rdNs s <;> rfl, Below.refl _ _⟩
  case round =>
    obtain ⟨at_, l0, hn, ha, rfl, hG, hl0, ht, hbl⟩ := hrel
    have HK := Lib.hid (And.intro hn ht)
    clear hn ht
    have hz := hbl.size
    by_cases hlt : at_ < s.length
    · have C := Lib.hid (NR.out at_ wr (by omega))
      obtain ⟨Au, cu, rfl, _, _⟩ := hG.val
      have HG := Lib.hid hG
      clear hG
      go_wp2_with fail
      refine C.out.mono ?_
      rintro r w2 ⟨hor, hb2⟩
      have hbw2 := hbl.ext hb2
      have hz2 := hbw2.size
      rcases hor with ⟨m, k, hrd, rfl⟩ | ⟨hrd, rfl⟩
      · obtain ⟨hk1, hk2, _, _⟩ := rdN_len hrd
        rw [List.length_drop] at hk2
        have hmo := rdNs_more hrd
        rw [List.drop_drop] at hmo
        have HM := Lib.hid (show rdNs s = (rdNs (s.drop (at_ + k))).map (fun l => (l0 ++ [m]) ++ l) by rw [HK.out.2, hmo, Option.map_map]; congr 1; funext l; simp)
        clear hrd hmo
        go_wp2_with (first | (at_builtin; refine app_plain rtNr (by rfl) (.tmp 20) (.tmp 22) (by rfl) w.heap.size (.slice Au l0.length cu) l0 (by rfl) ((HG.out.ext hb2).ext (by (repeat (first | with_reducible assumption | with_reducible exact Below.refl _ _ | with_reducible refine Below.setCell ?_ (by first | omega | (simp; done) | (simp; omega)) _ | with_reducible refine Below.alloc ?_ (by first | omega | (simp; done) | (simp; omega)) _ | with_reducible refine below_drewN ?_ _ | with_reducible refine Below.drew ?_)))) ⟨w2.heap.size, 0, none⟩ 1 [m] (by rfl) (World.news_of_block (heap_alloc_new w2 _)) Nat.zero_lt_one (by simp; omega) (by simp; omega) ?_; intro g' cap' w3 hG3 hgr3 hat3) | fail)
        go_roundg (s.length - (at_ + k))
        case measure => have := HK.out.1; omega
        case rel => exact ⟨at_ + k, _, rfl, by omega, by go_num, hG3.len (by simp) rfl, by simp; omega, HM.out, below_app (by (repeat (first | with_reducible assumption | with_reducible exact Below.refl _ _ | with_reducible refine Below.setCell ?_ (by first | omega | (simp; done) | (simp; omega)) _ | with_reducible refine Below.alloc ?_ (by first | omega | (simp; done) | (simp; omega)) _ | with_reducible refine below_drewN ?_ _ | with_reducible refine Below.drew ?_ | with_reducible refine Below.trans ?_ (Below.mono hbw2 (by first | omega | (simp; done) | (simp; omega)))))) hgr3 (fun q hq => (HG.out.lt hq).1) (by simp; omega)⟩
      · have HN := Lib.hid (show rdNs s = none by rw [HK.out.2, rdNs_bad (by intro h; have := congrArg List.length h; simp at this; omega) hrd]; rfl)
        clear hrd
        go_wp2_with fail
        refine bodyPost_ret (v := .tuple #[.slice none 0 0, .bool false]) (by simp [results, Tryz.results120, go_sem, *]) rfl ?_
        exact ⟨_, [], false, rfl, .inl ⟨rfl, rfl⟩, .inr ⟨rfl, rfl, HN.out⟩, hbw2⟩
    · have hat : at_ = s.length := by omega
      have HT := Lib.hid (show rdNs s = some l0 by rw [HK.out.2, hat, List.drop_length, rdNs_nil]; simp)
      have HF := Lib.hid (show Fr intRow 1 3 wr w.heap.size _ l0 from Fr.of_owns (fun _ => rfl) hG)
      clear hat
      obtain ⟨Au, cu, rfl, _, _⟩ := hG.val; go_wp2_with fail; (refine (clipNr_any _ _ _ _ HF.out).mono ?_); rintro r _ ⟨u, rfl, hFu, rfl⟩; obtain ⟨Av, cv, rfl, _, _⟩ := hFu.sl.val; go_wp2_with fail; (refine bodyPost_ret (v := .tuple #[.slice Av l0.length cv, .bool true]) (by simp [results, Tryz.results120, go_sem, *]) rfl ?_); exact ⟨_, l0, true, rfl, hFu, .inl ⟨rfl, HT.out⟩, hbl⟩
end Go.Proofs.YtgfbjpmbaibnoaaGreatDoor
