/- What a line is turned into: words as many places on; where each word begins. -/
import Derived.Test.YtgfbjpmbaibnoaaGreatDoorCams
import Derived.Test.YtgfbjpmbaibnoaaGreatDoorZm11
import Derived.Test.YtgfbjpmbaibnoaaGreatDoorWds
import Derived.Test.YtgfbjpmbaibnoaaGreatDoorDwPQ
import Derived.Test.YtgfbjpmbaibnoaaGreatDoorStSp
import Derived.Test.YtgfbjpmbaibnoaaGreatDoorZm8
import Derived.Test.YtgfbjpmbaibnoaaGreatDoorStOk
import Derived.Test.YtgfbjpmbaibnoaaGreatDoorZm10
namespace Go.Proofs.YtgfbjpmbaibnoaaGreatDoor
set_option maxRecDepth 100000
set_option linter.unusedSimpArgs false
set_option linter.unusedVariables false
open Go.RowKit
attribute [local go_sem] bs_toList bs_get bs_size

theorem infoCm : (Tryz.prog.info? 234).map (fun i => (i.zero, i.size, i.bytes)) = some (some (.agg #[.string ⟨#[]⟩, .int .i64 0]), 2, 24) := by kernel_rfl
theorem rtCm : RowTy srcRow 2 234 230 := .of_info (fun _ => rfl) (fun s u hu => by simp [srcRow] at hu; rcases hu with rfl | rfl <;> rfl) (by decide) Tryz.underlying230 infoCm (by decide) rfl
abbrev GtM := Gt srcRow 2 234
theorem news_cm {V : World} {n : Nat} {l : List Src} {t : TypeId} (h : V.heap.size = n) : ∀ (j : Nat) (u : Value), (l.flatMap srcRow)[j]? = some u → (V.alloc (.cells (l.flatMap srcRow).toArray t)).cell? ((⟨n, 0, none⟩ : Addr).add j) = some u := h ▸ World.news_of_block (heap_alloc_new V _)
theorem take_cm {l : List Came} {j : Nat} {x : Came} (h : l[j]? = some x) (d : Nat) : shiftL d (l.take (j + 1)) = shiftL d (l.take j) ++ [shift1 d x] := by
  obtain ⟨hj, rfl⟩ := List.getElem?_eq_some_iff.1 h
  unfold shiftL
  rw [List.take_succ_eq_append_getElem hj, List.map_append]
  rfl
theorem shift_take_len (l : List Came) (d j : Nat) (h : j ≤ l.length) : (shiftL d (l.take j)).length = j := by unfold shiftL; simp; omega
theorem spShift_any (l : List Came) (d : Nat) (v : Value) (w : World) (hv : SlC w w.heap.size v l) (hl : l.length ≤ 1000) (hd : d ≤ 1000) (hb : ∀ x ∈ l, -1 ≤ x.2 ∧ x.2 ≤ 1000) :
    Calls Tryz.prog 265 #[v, .int .i64 (d : Int)] w fun r w' => ∃ u, r = .returned u ∧ GtM w.heap.size w' u (shiftL d l) ∧ Below w.heap.size w w' := by
  obtain ⟨A, c, rfl, hc, hm⟩ := hv.val
  go_enter Tryz.func265, Tryz.ntmps265
  go_wp2_with fail
  go_loopg [5, 6] l.length (fun k o i wr => ∃ j : Nat, k = l.length - j ∧ j ≤ l.length ∧ i = .int .i64 j ∧ GtM w.heap.size wr o (shiftL d (l.take j)) ∧ Below w.heap.size w wr)
  case atStart => exact ⟨0, by omega, by omega, rfl, gt_empty srcRow 2 234 w _ (Nat.le_refl _) (Below.refl _ _), by (repeat (first | with_reducible assumption | with_reducible exact Below.refl _ _ | with_reducible refine Below.setCell ?_ (by first | omega | (simp; done) | (simp; omega)) _ | with_reducible refine Below.alloc ?_ (by first | omega | (simp; done) | (simp; omega)) _ | with_reducible refine below_drewN ?_ _ | with_reducible refine Below.drew ?_))⟩
  case round =>
    obtain ⟨j, hk, hj, rfl, hG, hbl⟩ := hrel
    have HK := Lib.hid hk
    clear hk
    by_cases hlt : j < l.length
    · obtain ⟨b, o, s, m, rfl, hbb, hg, f0, f1⟩ := src_at hv hlt
      have g0 := f0 ⟨wr, hbl⟩; have g1 := f1 ⟨wr, hbl⟩
      obtain ⟨hm1, hm2⟩ := hb _ (List.mem_of_getElem? hg)
      simp only at hm1 hm2
      have hlen := shift_take_len l d j hj
      have hz := hbl.size
      obtain ⟨Au, cu, rfl, hcu, hmu⟩ := hG.val
      have HT := Lib.hid (take_cm hg d)
      have HG := Lib.hid hG
      rw [hlen] at hG
      have hown : ∀ q, (Value.slice Au (shiftL d (l.take j)).length cu).ownBlock = some q → w.heap.size ≤ q := fun q hq => (HG.out.lt hq).1
      have HO := Lib.hid hown
      by_cases h0 : 0 ≤ m
      · have hw : IntKind.i64.wrap (m + (d : Int)) = m + (d : Int) := by rw [IntKind.wrap_i64]; omega
        have hs1 : shift1 d (s, m) = (s, m + (d : Int)) := by unfold shift1; simp [h0]
        have HS := Lib.hid hs1
        clear f0 f1 hg hG hs1 hown
        go_wp2_with (first | (at_builtin; refine app_plain rtCm (by rfl) (.tmp 27) (.tmp 29) (by rfl) w.heap.size (.slice Au (shiftL d (l.take j)).length cu) (shiftL d (l.take j)) (by rfl) (HG.out.ext (by (repeat (first | with_reducible assumption | with_reducible exact Below.refl _ _ | with_reducible refine Below.setCell ?_ (by first | omega | (simp; done) | (simp; omega)) _ | with_reducible refine Below.alloc ?_ (by first | omega | (simp; done) | (simp; omega)) _ | with_reducible refine below_drewN ?_ _ | with_reducible refine Below.drew ?_)))) ⟨wr.heap.size + 1, 0, none⟩ 1 [(s, m + (d : Int))] (by rfl) (news_cm (by simp)) Nat.zero_lt_one (by rw [hlen]; simp; omega) (by simp; omega) ?_; intro g' cap' w3 hG3 hgr3 hat3) | fail)
        go_roundg (l.length - (j + 1))
        case measure => have := HK.out; omega
        case rel => exact ⟨j + 1, rfl, by omega, by go_num, by rw [HT.out, HS.out]; exact hG3.len (by rw [hlen]; rfl) rfl, below_app (by (repeat (first | with_reducible assumption | with_reducible exact Below.refl _ _ | with_reducible refine Below.setCell ?_ (by first | omega | (simp; done) | (simp; omega)) _ | with_reducible refine Below.alloc ?_ (by first | omega | (simp; done) | (simp; omega)) _ | with_reducible refine below_drewN ?_ _ | with_reducible refine Below.drew ?_ | with_reducible refine Below.trans ?_ (Below.mono hbl (by first | omega | (simp; done) | (simp; omega)))))) hgr3 (fun q hq => HO.out q hq) (by simp; omega)⟩
      · have hs1 : shift1 d (s, m) = (s, m) := by unfold shift1; simp [h0]
        have HS := Lib.hid hs1
        clear f0 f1 hg hG hs1 hown
        go_wp2_with (first | (at_builtin; refine app_plain rtCm (by rfl) (.tmp 27) (.tmp 29) (by rfl) w.heap.size (.slice Au (shiftL d (l.take j)).length cu) (shiftL d (l.take j)) (by rfl) (HG.out.ext (by (repeat (first | with_reducible assumption | with_reducible exact Below.refl _ _ | with_reducible refine Below.setCell ?_ (by first | omega | (simp; done) | (simp; omega)) _ | with_reducible refine Below.alloc ?_ (by first | omega | (simp; done) | (simp; omega)) _ | with_reducible refine below_drewN ?_ _ | with_reducible refine Below.drew ?_)))) ⟨wr.heap.size + 1, 0, none⟩ 1 [(s, m)] (by rfl) (news_cm (by simp)) Nat.zero_lt_one (by rw [hlen]; simp; omega) (by simp; omega) ?_; intro g' cap' w3 hG3 hgr3 hat3) | fail)
        go_roundg (l.length - (j + 1))
        case measure => have := HK.out; omega
        case rel => exact ⟨j + 1, rfl, by omega, by go_num, by rw [HT.out, HS.out]; exact hG3.len (by rw [hlen]; rfl) rfl, below_app (by (repeat (first | with_reducible assumption | with_reducible exact Below.refl _ _ | with_reducible refine Below.setCell ?_ (by first | omega | (simp; done) | (simp; omega)) _ | with_reducible refine Below.alloc ?_ (by first | omega | (simp; done) | (simp; omega)) _ | with_reducible refine below_drewN ?_ _ | with_reducible refine Below.drew ?_ | with_reducible refine Below.trans ?_ (Below.mono hbl (by first | omega | (simp; done) | (simp; omega)))))) hgr3 (fun q hq => HO.out q hq) (by simp; omega)⟩
    · obtain rfl : j = l.length := by omega
      rw [List.take_length] at hG
      obtain ⟨Au, cu, rfl, hcu, hmu⟩ := hG.val
      go_wp2_with fail
      go_ret
      exact ⟨_, rfl, hG, hbl⟩
abbrev GtI := Gt intRow 1 3
theorem infoI : (Tryz.prog.info? 3).map (fun i => (i.zero, i.size, i.bytes)) = some (some (.int .i64 0), 1, 8) := by kernel_rfl
theorem rtI : RowTy intRow 1 3 136 := .of_info (fun _ => rfl) (fun s u hu => by simp [intRow] at hu; subst hu; rfl) (by decide) Tryz.underlying136 infoI (by decide) rfl
theorem news_i {V : World} {n : Nat} {l : List Int} {t : TypeId} (h : V.heap.size = n) : ∀ (j : Nat) (u : Value), (l.flatMap intRow)[j]? = some u → (V.alloc (.cells (l.flatMap intRow).toArray t)).cell? ((⟨n, 0, none⟩ : Addr).add j) = some u := h ▸ World.news_of_block (heap_alloc_new V _)
theorem spCols_any (l : List Bytes) (v : Value) (w : World) (hv : SlB w w.heap.size v l) (hl : l.length ≤ 1000) (hs : ∀ s ∈ l, s.length ≤ 8) :
    Calls Tryz.prog 250 #[v] w fun r w' => ∃ u m, r = .returned u ∧ GtI w.heap.size w' u m ∧ m.length = l.length ∧ Below w.heap.size w w' := by
  obtain ⟨A, c, rfl, hc, hm⟩ := hv.val
  go_enter Tryz.func250, Tryz.ntmps250
  go_wp2_with fail
  go_loopg [3, 4, 5] l.length (fun k o a i wr => ∃ (j n : Nat) (m : List Int), k = l.length - j ∧ j ≤ l.length ∧ i = .int .i64 j ∧ a = .int .i64 (n : Int) ∧ n ≤ 9 * j ∧ GtI w.heap.size wr o m ∧ m.length = j ∧ Below w.heap.size w wr)
  case atStart => exact ⟨0, 0, [], by omega, by omega, rfl, rfl, by omega, gt_empty intRow 1 3 w _ (Nat.le_refl _) (Below.refl _ _), rfl, by (repeat (first | with_reducible assumption | with_reducible exact Below.refl _ _ | with_reducible refine Below.setCell ?_ (by first | omega | (simp; done) | (simp; omega)) _ | with_reducible refine Below.alloc ?_ (by first | omega | (simp; done) | (simp; omega)) _ | with_reducible refine below_drewN ?_ _ | with_reducible refine Below.drew ?_))⟩
  case round =>
    obtain ⟨j, n, m, hk, hj, rfl, rfl, hn, hG, hml, hbl⟩ := hrel
    have HK := Lib.hid (And.intro hk hml)
    clear hk hml
    by_cases hlt : j < l.length
    · obtain ⟨b, o, s, rfl, hbb, hg, f0⟩ := str_at hv hlt
      have g0 := f0 ⟨wr, hbl⟩
      have hs8 := hs _ (List.mem_of_getElem? hg)
      have hz := hbl.size
      obtain ⟨Au, cu, rfl, hcu, hmu⟩ := hG.val
      have HG := Lib.hid hG
      have hown : ∀ q, (Value.slice Au m.length cu).ownBlock = some q → w.heap.size ≤ q := fun q hq => (HG.out.lt hq).1
      have HO := Lib.hid hown
      have hw1 : IntKind.i64.wrap ((n : Int) + (s.length : Int)) = (n : Int) + (s.length : Int) := by rw [IntKind.wrap_i64]; omega
      have hw2 : IntKind.i64.wrap ((n : Int) + (s.length : Int) + 1) = ((n + s.length + 1 : Nat) : Int) := by rw [IntKind.wrap_i64]; omega
      have hml : m.length = j := HK.out.2
      have KEEP := Lib.hid (fun (w' : World) (h : Below w.heap.size w w') => f0 ⟨w', h⟩)
      clear f0 hg hG hown
      go_wp2_with (first | (at_builtin; refine app_plain rtI (by rfl) (.tmp 13) (.tmp 15) (by rfl) w.heap.size (.slice Au m.length cu) m (by rfl) (HG.out.ext (by (repeat (first | with_reducible assumption | with_reducible exact Below.refl _ _ | with_reducible refine Below.setCell ?_ (by first | omega | (simp; done) | (simp; omega)) _ | with_reducible refine Below.alloc ?_ (by first | omega | (simp; done) | (simp; omega)) _ | with_reducible refine below_drewN ?_ _ | with_reducible refine Below.drew ?_)))) ⟨wr.heap.size, 0, none⟩ 1 [(n : Int)] (by rfl) (news_i (by simp)) Nat.zero_lt_one (by rw [hml]; simp; omega) (by simp; omega) ?_; intro g' cap' w3 hG3 hgr3 hat3; have x0 := KEEP.out w3 (below_app (by (repeat (first | with_reducible assumption | with_reducible exact Below.refl _ _ | with_reducible refine Below.setCell ?_ (by first | omega | (simp; done) | (simp; omega)) _ | with_reducible refine Below.alloc ?_ (by first | omega | (simp; done) | (simp; omega)) _ | with_reducible refine below_drewN ?_ _ | with_reducible refine Below.drew ?_ | with_reducible refine Below.trans ?_ (Below.mono hbl (by first | omega | (simp; done) | (simp; omega)))))) hgr3 (fun q hq => HO.out q hq) (by simp; omega))) | fail)
      go_roundg (l.length - (j + 1))
      case measure => have := HK.out; omega
      case rel => exact ⟨j + 1, n + s.length + 1, m ++ [(n : Int)], rfl, by omega, by go_num, by go_num, by omega, hG3.len (by rw [hml]; simp) rfl, by simp [hml], below_app (by (repeat (first | with_reducible assumption | with_reducible exact Below.refl _ _ | with_reducible refine Below.setCell ?_ (by first | omega | (simp; done) | (simp; omega)) _ | with_reducible refine Below.alloc ?_ (by first | omega | (simp; done) | (simp; omega)) _ | with_reducible refine below_drewN ?_ _ | with_reducible refine Below.drew ?_ | with_reducible refine Below.trans ?_ (Below.mono hbl (by first | omega | (simp; done) | (simp; omega)))))) hgr3 (fun q hq => HO.out q hq) (by simp; omega)⟩
    · obtain rfl : j = l.length := by omega
      obtain ⟨Au, cu, rfl, hcu, hmu⟩ := hG.val
      go_wp2_with fail
      go_ret
      exact ⟨_, m, rfl, hG, HK.out.2, hbl⟩
end Go.Proofs.YtgfbjpmbaibnoaaGreatDoor


/- What a line is turned into: the words of what is reckoned, each with whence it came. -/
namespace Go.Proofs.YtgfbjpmbaibnoaaGreatDoor
set_option maxRecDepth 100000
set_option linter.unusedSimpArgs false
set_option linter.unusedVariables false
open Go.RowKit
attribute [local go_sem] bs_toList bs_get bs_size

theorem shift_zero (l : List Came) : shiftL 0 l = l := by
  unfold shiftL
  rw [show shift1 0 = id from funext fun x => by obtain ⟨s, m⟩ := x; unfold shift1; simp]
  simp
theorem spMax_any (a b : Int) (w : World) : Calls Tryz.prog 271 #[.int .i64 a, .int .i64 b] w fun e w' => e = .returned (.int .i64 (max a b)) ∧ w = w' := by
  go_enter Tryz.func271, Tryz.ntmps271
  go_wp2_with fail
  all_goals (go_ret; exact ⟨ret_int (by go_light; omega), rfl⟩)
/-- the words of e, so tight with types and without -/
def CmP (e : E) : Prop := ∀ (t b : Nat) (v : Value) (w : World), e.ok → e.cnt ≤ 100 → t ≤ 4 → b ≤ 4 → ExV w w.heap.size v e.ex →
    Calls Tryz.prog 266 #[v, .int .i64 (t : Int), .int .i64 (b : Int)] w fun r w' => ∃ u, r = .returned u ∧ GtM w.heap.size w' u (e.came t b) ∧ Below w.heap.size w w'
theorem spShift0 (l : List Came) (v : Value) (w : World) (hv : SlC w w.heap.size v l) (hl : l.length ≤ 1000) (hb : ∀ x ∈ l, -1 ≤ x.2 ∧ x.2 ≤ 1000) :
    Calls Tryz.prog 265 #[v, .int .i64 0] w fun r w' => ∃ u, r = .returned u ∧ GtM w.heap.size w' u l ∧ Below w.heap.size w w' := by
  have h := spShift_any l 0 v w hv hl (by omega) hb
  rw [shift_zero] at h
  exact h
theorem cm_num (n : Nat) : CmP (.num n) := by
  intro t b v w hok hcnt ht hb hv
  have hv0 := hv
  obtain ⟨kv, rfl, hs, hk⟩ := hv
  obtain ⟨A, c, rfl, hc, hm⟩ := hk.val
  simp only [E.ex, Ex.kind, Ex.n, Ex.s, Ex.kids, List.length_nil] at hv0 hc ⊢
  have hlt : decide ((4 : Int) < (t : Int)) = false := by simp; omega
  have hlb : decide ((4 : Int) < (b : Int)) = false := by simp; omega
  go_enter Tryz.func266, Tryz.ntmps266
  go_wp2_with fail
  refine (spLevel_any (.num n) _ _ ((hv0.keep (B' := w.heap.size) (by (repeat (first | with_reducible assumption | with_reducible exact Below.refl _ _ | with_reducible refine Below.setCell ?_ (by first | omega | (simp; done) | (simp; omega)) _ | with_reducible refine Below.alloc ?_ (by first | omega | (simp; done) | (simp; omega)) _ | with_reducible refine below_drewN ?_ _ | with_reducible refine Below.drew ?_))) (Nat.le_refl _)).more (by first | omega | (simp; done) | (simp; omega)))).mono ?_
  rintro r w1 ⟨rfl, hb1⟩
  have hz1 := hb1.size
  (try simp at hz1)
  have k1_0 := fun o => hb1.cell (p := ⟨w.heap.size, o, none⟩) (by first | omega | (simp; done) | (simp; omega)); have k1f_0 := fun o => hb1.frozen (p := ⟨w.heap.size, o, none⟩) (by first | omega | (simp; done) | (simp; omega))
  simp only [E.lv]
  have hbw1 : Below w.heap.size w w1 := by (repeat (first | with_reducible assumption | with_reducible exact Below.refl _ _ | with_reducible refine Below.setCell ?_ (by first | omega | (simp; done) | (simp; omega)) _ | with_reducible refine Below.alloc ?_ (by first | omega | (simp; done) | (simp; omega)) _ | with_reducible refine below_drewN ?_ _ | with_reducible refine Below.drew ?_ | with_reducible refine Below.trans ?_ (Below.mono hb1 (by first | omega | (simp; done) | (simp; omega)))))
  have hlt1 : w.heap.size < w1.heap.size := by omega
  go_wp2_with fail; refine (spDec_any n hok _).mono ?_; rintro r w2 ⟨rfl, hb2⟩; have hz2 := hb2.size; (try simp at hz2)
  have hown := gt_empty srcRow 2 234 (B := w.heap.size) w1 (w2.alloc (.cells #[.string (bs (decL n)), .int .i64 0] 234)) (by omega) (by (repeat (first | with_reducible assumption | with_reducible exact Below.refl _ _ | with_reducible refine Below.setCell ?_ (by first | omega | (simp; done) | (simp; omega)) _ | with_reducible refine Below.alloc ?_ (by first | omega | (simp; done) | (simp; omega)) _ | with_reducible refine below_drewN ?_ _ | with_reducible refine Below.drew ?_ | with_reducible refine Below.trans ?_ (Below.mono hb2 (by first | omega | (simp; done) | (simp; omega))))))
  go_wp2_with (first | (at_builtin; refine app_plain rtCm rfl _ _ rfl w.heap.size (.slice (some ⟨w1.heap.size, 0, none⟩) 0 0) [] rfl hown ⟨_, 0, none⟩ 1 [((decL n), 0)] rfl (news_cm (by simp)) (Nat.zero_lt_one) (by simp) (by simp; omega) ?_; intro g cap w3 hG hgr hat) | fail)
  have hb3 : Below w.heap.size w w3 := by (repeat (first | with_reducible assumption | with_reducible exact Below.refl _ _ | with_reducible refine Below.setCell ?_ (by first | omega | (simp; done) | (simp; omega)) _ | with_reducible refine Below.alloc ?_ (by first | omega | (simp; done) | (simp; omega)) _ | with_reducible refine below_drewN ?_ _ | with_reducible refine Below.drew ?_ | with_reducible refine Below.trans ?_ (Below.mono hb2 (by first | omega | (simp; done) | (simp; omega))) | with_reducible refine Below.trans ?_ (Below.mono hbw1 (by first | omega | (simp; done) | (simp; omega))) | with_reducible refine below_app ?_ hgr (by intro q hq; simp [Value.ownBlock] at hq; omega) (by first | omega | (simp; done) | (simp; omega))))
  have SH := Lib.hid (spShift0 [((decL n), 0)] _ w3 (hG.sl (fun _ => rfl)) (by simp) (by simp))
  clear hG
  go_wp2_with fail
  refine SH.out.mono ?_
  rintro r w4 ⟨u4, rfl, hG4, hb4⟩
  have hz4 := hb3.size
  obtain ⟨A4, c4, rfl, hc4, hcm4⟩ := hG4.val
  go_wp2_with fail
  go_ret
  exact ⟨_, rfl, hG4.less hz4, hb3.ext hb4⟩
theorem cm_nam (s : Bytes) : CmP (.nam s) := by
  intro t b v w hok hcnt ht hb hv
  have hv0 := hv
  obtain ⟨kv, rfl, hs, hk⟩ := hv
  obtain ⟨A, c, rfl, hc, hm⟩ := hk.val
  simp only [E.ex, Ex.kind, Ex.n, Ex.s, Ex.kids, List.length_nil] at hv0 hc ⊢
  have hlt : decide ((4 : Int) < (t : Int)) = false := by simp; omega
  have hlb : decide ((4 : Int) < (b : Int)) = false := by simp; omega
  go_enter Tryz.func266, Tryz.ntmps266
  go_wp2_with fail
  refine (spLevel_any (.nam s) _ _ ((hv0.keep (B' := w.heap.size) (by (repeat (first | with_reducible assumption | with_reducible exact Below.refl _ _ | with_reducible refine Below.setCell ?_ (by first | omega | (simp; done) | (simp; omega)) _ | with_reducible refine Below.alloc ?_ (by first | omega | (simp; done) | (simp; omega)) _ | with_reducible refine below_drewN ?_ _ | with_reducible refine Below.drew ?_))) (Nat.le_refl _)).more (by first | omega | (simp; done) | (simp; omega)))).mono ?_
  rintro r w1 ⟨rfl, hb1⟩
  have hz1 := hb1.size
  (try simp at hz1)
  have k1_0 := fun o => hb1.cell (p := ⟨w.heap.size, o, none⟩) (by first | omega | (simp; done) | (simp; omega)); have k1f_0 := fun o => hb1.frozen (p := ⟨w.heap.size, o, none⟩) (by first | omega | (simp; done) | (simp; omega))
  simp only [E.lv]
  have hbw1 : Below w.heap.size w w1 := by (repeat (first | with_reducible assumption | with_reducible exact Below.refl _ _ | with_reducible refine Below.setCell ?_ (by first | omega | (simp; done) | (simp; omega)) _ | with_reducible refine Below.alloc ?_ (by first | omega | (simp; done) | (simp; omega)) _ | with_reducible refine below_drewN ?_ _ | with_reducible refine Below.drew ?_ | with_reducible refine Below.trans ?_ (Below.mono hb1 (by first | omega | (simp; done) | (simp; omega)))))
  have hlt1 : w.heap.size < w1.heap.size := by omega
  have hb2 : Below w1.heap.size w1 w1 := Below.refl _ _
  have hown := gt_empty srcRow 2 234 (B := w.heap.size) w1 ((w1.alloc (.cells #[] 234)).alloc (.cells #[.string (bs s), .int .i64 0] 234)) (by omega) (by (repeat (first | with_reducible assumption | with_reducible exact Below.refl _ _ | with_reducible refine Below.setCell ?_ (by first | omega | (simp; done) | (simp; omega)) _ | with_reducible refine Below.alloc ?_ (by first | omega | (simp; done) | (simp; omega)) _ | with_reducible refine below_drewN ?_ _ | with_reducible refine Below.drew ?_ | with_reducible refine Below.trans ?_ (Below.mono hb2 (by first | omega | (simp; done) | (simp; omega))))))
  go_wp2_with (first | (at_builtin; refine app_plain rtCm rfl _ _ rfl w.heap.size (.slice (some ⟨w1.heap.size, 0, none⟩) 0 0) [] rfl hown ⟨_, 0, none⟩ 1 [(s, 0)] rfl (news_cm (by simp)) (Nat.zero_lt_one) (by simp) (by simp; omega) ?_; intro g cap w3 hG hgr hat) | fail)
  have hb3 : Below w.heap.size w w3 := by (repeat (first | with_reducible assumption | with_reducible exact Below.refl _ _ | with_reducible refine Below.setCell ?_ (by first | omega | (simp; done) | (simp; omega)) _ | with_reducible refine Below.alloc ?_ (by first | omega | (simp; done) | (simp; omega)) _ | with_reducible refine below_drewN ?_ _ | with_reducible refine Below.drew ?_ | with_reducible refine Below.trans ?_ (Below.mono hb2 (by first | omega | (simp; done) | (simp; omega))) | with_reducible refine Below.trans ?_ (Below.mono hbw1 (by first | omega | (simp; done) | (simp; omega))) | with_reducible refine below_app ?_ hgr (by intro q hq; simp [Value.ownBlock] at hq; omega) (by first | omega | (simp; done) | (simp; omega))))
  have SH := Lib.hid (spShift0 [(s, 0)] _ w3 (hG.sl (fun _ => rfl)) (by simp) (by simp))
  clear hG
  go_wp2_with fail
  refine SH.out.mono ?_
  rintro r w4 ⟨u4, rfl, hG4, hb4⟩
  have hz4 := hb3.size
  obtain ⟨A4, c4, rfl, hc4, hcm4⟩ := hG4.val
  go_wp2_with fail
  go_ret
  exact ⟨_, rfl, hG4.less hz4, hb3.ext hb4⟩
theorem cm_cast (ty : Bool) (a : E) (iha : CmP a) : CmP (.cast ty a) := by
  intro t b v w hok hcnt ht hb hv
  have hv0 := hv
  obtain ⟨kv, rfl, hs, hk⟩ := hv
  obtain ⟨A, c, rfl, hc, hm⟩ := hk.val
  simp only [E.cnt] at hcnt
  simp only [E.ex, Ex.kind, Ex.n, Ex.s, Ex.kids, List.length_cons, List.length_nil] at hv0 hc hk ⊢
  obtain ⟨bb, o, p1, q1, s1, A1, c1, m1, rfl, hbb, hg, hs1, hm1, hc1, hk1, f0, f1, f2, f3⟩ := ex_at (i := 0) hk (by simp)
  have hexa : a.ex = .mk p1 q1 s1 m1 := by simpa using hg
  rw [bs_size] at hs1
  have hco := E.came_ok a 4 b hok
  have hcl := E.came_len a 4 b
  have hwl := E.words_len a 4
  have IH := Lib.hid (fun (w' : World) (h : Below w.heap.size w w') => iha 4 b (.agg #[.int .i64 p1, .int .i64 q1, .string (bs s1), .slice A1 m1.length c1]) w' hok (by omega) (by omega) hb (by rw [hexa]; exact ⟨_, rfl, hs1, (hk1.keep h (Nat.le_refl _)).more h.size⟩))
  have SH := Lib.hid (fun (w' : World) (u : Value) (hu : SlC w' w'.heap.size u (a.came 4 b)) => spShift0 (a.came 4 b) u w' hu (by omega) (fun x hx => by have h := hco x hx; omega))
  have hcm : (E.cast ty a).came t b = a.came 4 b := rfl
  rw [hcm]
  generalize a.came 4 b = ca at *
  have hlt : decide ((4 : Int) < (t : Int)) = false := by simp; omega
  clear hg hk1 hexa hk hco hcm iha hok
  go_enter Tryz.func266, Tryz.ntmps266
  go_wp2_with fail
  refine (spLevel_any (.cast ty a) _ _ ((hv0.keep (B' := w.heap.size) (by (repeat (first | with_reducible assumption | with_reducible exact Below.refl _ _ | with_reducible refine Below.setCell ?_ (by first | omega | (simp; done) | (simp; omega)) _ | with_reducible refine Below.alloc ?_ (by first | omega | (simp; done) | (simp; omega)) _ | with_reducible refine below_drewN ?_ _ | with_reducible refine Below.drew ?_))) (Nat.le_refl _)).more (by first | omega | (simp; done) | (simp; omega)))).mono ?_
  rintro r w1 ⟨rfl, hb1⟩
  have hz1 := hb1.size
  (try simp at hz1)
  have k1_0 := fun o => hb1.cell (p := ⟨w.heap.size, o, none⟩) (by first | omega | (simp; done) | (simp; omega)); have k1f_0 := fun o => hb1.frozen (p := ⟨w.heap.size, o, none⟩) (by first | omega | (simp; done) | (simp; omega))
  simp only [E.lv]
  have hbw1 : Below w.heap.size w w1 := by (repeat (first | with_reducible assumption | with_reducible exact Below.refl _ _ | with_reducible refine Below.setCell ?_ (by first | omega | (simp; done) | (simp; omega)) _ | with_reducible refine Below.alloc ?_ (by first | omega | (simp; done) | (simp; omega)) _ | with_reducible refine below_drewN ?_ _ | with_reducible refine Below.drew ?_ | with_reducible refine Below.trans ?_ (Below.mono hb1 (by first | omega | (simp; done) | (simp; omega)))))
  have hlt1 : w.heap.size < w1.heap.size := by omega
  have hbw2 : Below w.heap.size w (w1.alloc (.cells #[] 234)) := by (repeat (first | with_reducible assumption | with_reducible exact Below.refl _ _ | with_reducible refine Below.setCell ?_ (by first | omega | (simp; done) | (simp; omega)) _ | with_reducible refine Below.alloc ?_ (by first | omega | (simp; done) | (simp; omega)) _ | with_reducible refine below_drewN ?_ _ | with_reducible refine Below.drew ?_ | with_reducible refine Below.trans ?_ (Below.mono hbw1 (by first | omega | (simp; done) | (simp; omega)))))
  have g0 := f0 ⟨_, hbw2⟩; have g1 := f1 ⟨_, hbw2⟩; have g2 := f2 ⟨_, hbw2⟩; have g3 := f3 ⟨_, hbw2⟩
  simp only [Nat.zero_mul, Nat.add_zero] at g0 g1 g2 g3
  clear f0 f1 f2 f3 hv0
  go_wp2_with fail
  refine (IH.out _ hbw2).mono ?_
  rintro r w3 ⟨u3, rfl, hG3, hb3⟩
  have SH3 := Lib.hid (SH.out w3 u3 (hG3.sl (fun _ => rfl)))
  obtain ⟨A3, c3, rfl, hc3, hcm3⟩ := hG3.val
  have hbw3 := hbw2.ext hb3
  have hz3 := hbw3.size
  clear hG3 IH SH
  go_wp2_with fail
  refine SH3.out.mono ?_
  rintro r w4 ⟨u4, rfl, hG4, hb4⟩
  go_wp2_with fail
  go_ret
  exact ⟨_, rfl, hG4.less hz3, hbw3.ext hb4⟩
theorem came_pos (e : E) (t b : Nat) : 1 ≤ (e.came t b).length := by
  have h1 := E.words_pos e.bare b
  have h2 := congrArg List.length (came_words e t b)
  rw [List.length_map] at h2
  omega
section
variable {ops : Array Oper} {o : Oper} {a : Act} {Q : Exit → Act → World → Prop} {K : Act → World → Prop} {E : Prop} {w : World}
theorem apc_step (hgd : o.guard = none) (s x : Operand) (ho : o.op = .call { callee := .builtin .append, args := #[s, x], argTypes := #[230, 230] })
    (B : Nat) (v : Value) (l : List Src) (hs : a.eval s = v) (hv : GtM B w v l) (ad : Addr) (c : Nat) (l2 : List Src) (hx : a.eval x = .slice (some ad) l2.length c)
    (hc : ∀ (j : Nat) (u : Value), (l2.flatMap srcRow)[j]? = some u → w.cell? (ad.add j) = some u) (hm : 0 < l2.length) (hl : l.length + l2.length ≤ 1000000) (hB : B ≤ w.heap.size)
    (h : ∀ g cap w', GtM B w' (.slice (some ⟨g, 0, none⟩) (l.length + l2.length) cap) (l ++ l2) → w.grownBy w' v.ownBlock → (v.ownBlock = some g ∨ g = w.heap.size) → K (a.put o.dst (.slice (some ⟨g, 0, none⟩) (l.length + l2.length) cap)) w') :
    if Region.wanted o (yielded ops a.tmps) = true then Oper.wp Tryz.prog o a w K Q else E := app_step rtCm hgd s x ho B v l hs hv ad c l2 hx hc hm hl hB h
theorem apc0_step (hgd : o.guard = none) (s x : Operand) (ho : o.op = .call { callee := .builtin .append, args := #[s, x], argTypes := #[230, 230] })
    (B : Nat) (v : Value) (hs : a.eval s = v) (hv : GtM B w v []) (ad : Addr) (c : Nat) (l2 : List Src) (hx : a.eval x = .slice (some ad) l2.length c)
    (hc : ∀ (j : Nat) (u : Value), (l2.flatMap srcRow)[j]? = some u → w.cell? (ad.add j) = some u) (hm : 0 < l2.length) (hl : l2.length ≤ 1000000) (hB : B ≤ w.heap.size)
    (h : ∀ g cap w', GtM B w' (.slice (some ⟨g, 0, none⟩) l2.length cap) l2 → w.grownBy w' v.ownBlock → (v.ownBlock = some g ∨ g = w.heap.size) → K (a.put o.dst (.slice (some ⟨g, 0, none⟩) l2.length cap)) w') :
    if Region.wanted o (yielded ops a.tmps) = true then Oper.wp Tryz.prog o a w K Q else E :=
  apc_step hgd s x ho B v [] hs hv ad c l2 hx hc hm (by simpa using hl) hB (fun g cap w' h1 h2 h3 => by
    have h4 := h g cap w' (by simpa using h1) h2 h3
    simpa using h4)
end
set_option maxHeartbeats 10000000 in
theorem cm_two (op : Op2) (a b : E) (iha : CmP a) (ihb : CmP b) : CmP (.two op a b) := by
  intro t bt v w hok hcnt ht hbt hv
  have hv0 := hv
  obtain ⟨kv, rfl, hs, hk⟩ := hv
  obtain ⟨A, c, rfl, hc, hm⟩ := hk.val
  obtain ⟨hoka, hokb⟩ := hok
  simp only [E.cnt] at hcnt
  simp only [E.ex, Ex.kind, Ex.n, Ex.s, Ex.kids, List.length_cons, List.length_nil] at hv0 hc hk ⊢
  obtain ⟨b0, o0, p1, q1, s1, A1, c1, m1, rfl, hb, hg1, hs1, hm1, hc1, hk1, f0, f1, f2, f3⟩ := ex_at (i := 0) hk (by simp)
  obtain ⟨b0', o0', p2, q2, s2, A2, c2, m2, hAA, hb', hg2, hs2, hm2, hc2, hk2, e0, e1, e2, e3⟩ := ex_at (i := 1) hk (by simp)
  cases hAA
  have hexa : a.ex = .mk p1 q1 s1 m1 := by simpa using hg1
  have hexb : b.ex = .mk p2 q2 s2 m2 := by simpa using hg2
  rw [bs_size] at hs1 hs2
  have hl3 : op.lv ≤ 3 := by cases op <;> decide
  have hl1 : 1 ≤ op.lv := by cases op <;> decide
  have HLV := Lib.hid (spLevel_any (.two op a b) (.agg #[.int .i64 3, .int .i64 0, .string (bs op.b), .slice (some ⟨b0, o0, none⟩) 2 c]) _ ((hv0.keep (B' := w.heap.size) (w' := w.alloc (.cells #[.int .i64 3, .int .i64 0, .string (bs op.b), .slice (some ⟨b0, o0, none⟩) 2 c] 25)) (by (repeat (first | with_reducible assumption | with_reducible exact Below.refl _ _ | with_reducible refine Below.setCell ?_ (by first | omega | (simp; done) | (simp; omega)) _ | with_reducible refine Below.alloc ?_ (by first | omega | (simp; done) | (simp; omega)) _ | with_reducible refine below_drewN ?_ _ | with_reducible refine Below.drew ?_))) (Nat.le_refl _)).more (by first | omega | (simp; done) | (simp; omega))))
  rw [show (E.two op a b).lv = op.lv from rfl] at HLV
  have KA := Lib.hid (fun (w' : World) (h : Below w.heap.size w w') => show ExV w' w'.heap.size (.agg #[.int .i64 p1, .int .i64 q1, .string (bs s1), .slice A1 m1.length c1]) a.ex by rw [hexa]; exact ⟨_, rfl, hs1, (hk1.keep h (Nat.le_refl _)).more h.size⟩)
  have KB := Lib.hid (fun (w' : World) (h : Below w.heap.size w w') => show ExV w' w'.heap.size (.agg #[.int .i64 p2, .int .i64 q2, .string (bs s2), .slice A2 m2.length c2]) b.ex by rw [hexb]; exact ⟨_, rfl, hs2, (hk2.keep h (Nat.le_refl _)).more h.size⟩)
  have IHa := Lib.hid (fun (w' : World) (h : Below w.heap.size w w') => iha (max op.lv 2) (max op.lv 2) _ w' hoka (by omega) (by omega) (by omega) (KA.out w' h))
  have IHb := Lib.hid (fun (w' : World) (h : Below w.heap.size w w') => ihb (op.lv + 1) (op.lv + 1) _ w' hokb (by omega) (by omega) (by omega) (KB.out w' h))
  have IHW := Lib.hid (fun (w' : World) (h : Below w.heap.size w w') => spWords_any a (max op.lv 2) _ w' hoka (by omega) (by omega) (KA.out w' h))
  have MX := Lib.hid (fun (w' : World) => spMax_any (op.lv : Int) 2 w')
  rw [show max (op.lv : Int) 2 = ((max op.lv 2 : Nat) : Int) by omega] at MX
  have hcm : (E.two op a b).came t bt = if op.lv < bt then ([40], -1) :: shiftL (if op.lv < t then 1 else 0) (a.came (max op.lv 2) (max op.lv 2) ++ (op.b, ((a.words (max op.lv 2)).length : Int)) :: shiftL ((a.words (max op.lv 2)).length + 1) (b.came (op.lv + 1) (op.lv + 1))) ++ [([41], -1)]
    else shiftL (if op.lv < t then 1 else 0) (a.came (max op.lv 2) (max op.lv 2) ++ (op.b, ((a.words (max op.lv 2)).length : Int)) :: shiftL ((a.words (max op.lv 2)).length + 1) (b.came (op.lv + 1) (op.lv + 1))) := rfl
  rw [hcm]
  have hoa := E.came_ok a (max op.lv 2) (max op.lv 2) hoka
  have hob := E.came_ok b (op.lv + 1) (op.lv + 1) hokb
  have hla := E.came_len a (max op.lv 2) (max op.lv 2)
  have hlb := E.came_len b (op.lv + 1) (op.lv + 1)
  have hwa := E.words_len a (max op.lv 2)
  have hwb := E.words_len b (op.lv + 1)
  have hpa := came_pos a (max op.lv 2) (max op.lv 2)
  have hpb := came_pos b (op.lv + 1) (op.lv + 1)
  rw [show ((op.lv + 1 : Nat) : Int) = (op.lv : Int) + 1 by omega] at IHb
  generalize a.came (max op.lv 2) (max op.lv 2) = ca at *
  generalize b.came (op.lv + 1) (op.lv + 1) = cb at *
  have HWA := Lib.hid hwa
  generalize hwd : a.words (max op.lv 2) = wa at *
  obtain ⟨na, hna⟩ : ∃ n, n = wa.length := ⟨_, rfl⟩
  have SHy := Lib.hid (fun (w' : World) (u : Value) (hu : SlC w' w'.heap.size u cb) => spShift_any cb (na + 1) u w' hu (by omega) (by omega) (fun x hx => by have h := hob x hx; omega))
  rw [show ((na + 1 : Nat) : Int) = (na : Int) + 1 by omega] at SHy
  have hmid : ∀ x ∈ ca ++ (op.b, (na : Int)) :: shiftL (na + 1) cb, -1 ≤ x.2 ∧ x.2 ≤ 1000 := by
    intro x hx
    rw [List.mem_append, List.mem_cons] at hx
    rcases hx with hx | rfl | hx
    · have h := hoa x hx; omega
    · simp only; omega
    · obtain ⟨y, hy, rfl⟩ := List.mem_map.1 hx
      have h := hob y hy
      unfold shift1
      simp only
      split <;> omega
  have hsl := shift_len (na + 1) cb
  obtain ⟨d, hd⟩ : ∃ d : Nat, d = if op.lv < t then 1 else 0 := ⟨_, rfl⟩
  have hd1 : d ≤ 1 := by rw [hd]; split <;> omega
  rw [← hna, ← hd]
  have hml : (ca ++ (op.b, (na : Int)) :: shiftL (na + 1) cb).length = ca.length + 1 + cb.length := by simp only [List.length_append, List.length_cons, hsl]; omega
  have SHd := Lib.hid (fun (w' : World) (u : Value) (hu : SlC w' w'.heap.size u (ca ++ (op.b, (na : Int)) :: shiftL (na + 1) cb)) => spShift_any _ d u w' hu (by rw [hml]; omega) (by omega) hmid)
  have hpy : 1 ≤ (shiftL (na + 1) cb).length := by omega
  have HSL := Lib.hid hsl
  have HML := Lib.hid hml
  generalize hscb : shiftL (na + 1) cb = sb at *
  have HD := Lib.hid hd
  have HNA := Lib.hid hna
  have hk3 : op.lv = 1 ∨ op.lv = 2 ∨ op.lv = 3 := by omega
  have hwk : IntKind.i64.wrap ((op.lv : Int) + 1) = (op.lv : Int) + 1 := by rw [IntKind.wrap_i64]; omega
  have hwn : IntKind.i64.wrap ((na : Int) + 1) = (na : Int) + 1 := by rw [IntKind.wrap_i64]; omega
  have hna5 : na ≤ 600 := by omega
  clear hg1 hg2 hexa hexb hk hk1 hk2 hoa hob hmid hcm hv0 iha ihb hoka hokb hwa hwb hd hna hscb hsl hml hwd
  generalize hkk : op.lv = k at *
  generalize op.b = ob at *
  clear hkk
  go_enter Tryz.func266, Tryz.ntmps266
  go_wp2_with fail
  refine HLV.out.mono ?_
  rintro r w1 ⟨rfl, hb1⟩
  have hz1 := hb1.size
  (try simp at hz1)
  have hbw : Below w.heap.size w w1 := by (repeat (first | with_reducible assumption | with_reducible exact Below.refl _ _ | with_reducible refine Below.setCell ?_ (by first | omega | (simp; done) | (simp; omega)) _ | with_reducible refine Below.alloc ?_ (by first | omega | (simp; done) | (simp; omega)) _ | with_reducible refine below_drewN ?_ _ | with_reducible refine Below.drew ?_ | with_reducible refine Below.trans ?_ (Below.mono hb1 (by first | omega | (simp; done) | (simp; omega)))))
  have c2' : w1.cell? ⟨w.heap.size, 2, none⟩ = some (.string (bs ob)) := (hb1.cell (p := ⟨w.heap.size, 2, none⟩) (by first | (simp; done) | (simp; omega))).trans (by simp [go_sem])
  have c3' : w1.cell? ⟨w.heap.size, 3, none⟩ = some (.slice (some ⟨b0, o0, none⟩) 2 c) := (hb1.cell (p := ⟨w.heap.size, 3, none⟩) (by first | (simp; done) | (simp; omega))).trans (by simp [go_sem])
  have c0' : w1.cell? ⟨w.heap.size, 0, none⟩ = some (.int .i64 3) := (hb1.cell (p := ⟨w.heap.size, 0, none⟩) (by first | (simp; done) | (simp; omega))).trans (by simp [go_sem])
  have g0 := f0 ⟨w1, hbw⟩; have g1 := f1 ⟨w1, hbw⟩; have g2 := f2 ⟨w1, hbw⟩; have g3 := f3 ⟨w1, hbw⟩
  have h0 := e0 ⟨w1, hbw⟩; have h1 := e1 ⟨w1, hbw⟩; have h2 := e2 ⟨w1, hbw⟩; have h3 := e3 ⟨w1, hbw⟩
  simp only [Nat.zero_mul, Nat.add_zero, Nat.one_mul] at g0 g1 g2 g3 h0 h1 h2 h3
  have EMP : Hid (∀ w' : World, Below (w1.heap.size + 1) (w1.alloc (.cells #[] 234)) w' → GtM w.heap.size w' (.slice (some ⟨w1.heap.size, 0, none⟩) 0 0) []) := Lib.hid (fun (w' : World) (h : Below (w1.heap.size + 1) (w1.alloc (.cells #[] 234)) w') => gt_empty srcRow 2 234 (B := w.heap.size) w1 w' (by omega) h)
  have KEEP := Lib.hid (show ∀ w' : World, Below (w.heap.size + 1) w1 w' → (w'.cell? ⟨w.heap.size, 2, none⟩ = some (.string (bs ob)) ∧ w'.cell? ⟨w.heap.size, 3, none⟩ = some (.slice (some ⟨b0, o0, none⟩) 2 c) ∧ (w'.cell? ⟨b0, o0, none⟩ = some (.int .i64 p1) ∧ w'.cell? ⟨b0, o0 + 1, none⟩ = some (.int .i64 q1) ∧ w'.cell? ⟨b0, o0 + 2, none⟩ = some (.string (bs s1)) ∧ w'.cell? ⟨b0, o0 + 3, none⟩ = some (.slice A1 m1.length c1)) ∧ w'.cell? ⟨b0, o0 + 4, none⟩ = some (.int .i64 p2) ∧ w'.cell? ⟨b0, o0 + 4 + 1, none⟩ = some (.int .i64 q2) ∧ w'.cell? ⟨b0, o0 + 4 + 2, none⟩ = some (.string (bs s2)) ∧ w'.cell? ⟨b0, o0 + 4 + 3, none⟩ = some (.slice A2 m2.length c2)) from fun w' h => ⟨(h.cell (p := ⟨w.heap.size, 2, none⟩) (by first | (simp; done) | (simp; omega))).trans c2', (h.cell (p := ⟨w.heap.size, 3, none⟩) (by first | (simp; done) | (simp; omega))).trans c3', ⟨(h.cell (p := ⟨b0, o0, none⟩) (by first | (simp; done) | (simp; omega))).trans g0, (h.cell (p := ⟨b0, o0 + 1, none⟩) (by first | (simp; done) | (simp; omega))).trans g1, (h.cell (p := ⟨b0, o0 + 2, none⟩) (by first | (simp; done) | (simp; omega))).trans g2, (h.cell (p := ⟨b0, o0 + 3, none⟩) (by first | (simp; done) | (simp; omega))).trans g3⟩, (h.cell (p := ⟨b0, o0 + 4, none⟩) (by first | (simp; done) | (simp; omega))).trans h0, (h.cell (p := ⟨b0, o0 + 4 + 1, none⟩) (by first | (simp; done) | (simp; omega))).trans h1, (h.cell (p := ⟨b0, o0 + 4 + 2, none⟩) (by first | (simp; done) | (simp; omega))).trans h2, (h.cell (p := ⟨b0, o0 + 4 + 3, none⟩) (by first | (simp; done) | (simp; omega))).trans h3⟩)
  clear f0 f1 f2 f3 e0 e1 e2 e3 hb1 HLV
  have hlt1 : w.heap.size < w1.heap.size := by omega
  go_upto_if 18 with fail
  go_cut [7] (fun s7 wx => s7 = .int .i64 (d : Int) ∧ w1 = wx)
  case first =>
    by_cases hkt : k < t
    · have hdd : d = 1 := by rw [HD.out, if_pos hkt]
      subst hdd
      have d2 : decide ((k : Int) < (t : Int)) = true := by simp; omega
      go_wp2_with fail
      go_meet
      exact ⟨rfl, rfl⟩
    · have hdd : d = 0 := by rw [HD.out, if_neg hkt]
      subst hdd
      have d2 : decide ((k : Int) < (t : Int)) = false := by simp; omega
      go_wp2_with fail
      go_meet
      exact ⟨rfl, rfl⟩
  case rest =>
    obtain ⟨rfl, rfl⟩ := hcut
    go_wp2_with fail
    refine (MX.out _).mono ?_
    rintro r _ ⟨rfl, rfl⟩
    generalize max k 2 = ml at *
    have hbw2 : Below w.heap.size w (w1.alloc (.cells #[] 234)) := by (repeat (first | with_reducible assumption | with_reducible exact Below.refl _ _ | with_reducible refine Below.setCell ?_ (by first | omega | (simp; done) | (simp; omega)) _ | with_reducible refine Below.alloc ?_ (by first | omega | (simp; done) | (simp; omega)) _ | with_reducible refine below_drewN ?_ _ | with_reducible refine Below.drew ?_ | with_reducible refine Below.trans ?_ (Below.mono hbw (by first | omega | (simp; done) | (simp; omega)))))
    obtain ⟨_, x3, ⟨y0, y1, y2, y3⟩, _⟩ := KEEP.out (w1.alloc (.cells #[] 234)) (by (repeat (first | with_reducible assumption | with_reducible exact Below.refl _ _ | with_reducible refine Below.setCell ?_ (by first | omega | (simp; done) | (simp; omega)) _ | with_reducible refine Below.alloc ?_ (by first | omega | (simp; done) | (simp; omega)) _ | with_reducible refine below_drewN ?_ _ | with_reducible refine Below.drew ?_)))
    go_wp2_with fail
    refine (IHa.out _ hbw2).mono ?_
    rintro r w2 ⟨u2, rfl, hG2, hb2⟩
    have hz2 := hb2.size
    (try simp at hz2)
    obtain ⟨gg2, cap2, rfl, hgl2, hgh2⟩ := hG2.block hpa
    have hbw3 := hbw2.ext hb2
    have hb12 : Below (w.heap.size + 1) w1 w2 := by (repeat (first | with_reducible assumption | with_reducible exact Below.refl _ _ | with_reducible refine Below.setCell ?_ (by first | omega | (simp; done) | (simp; omega)) _ | with_reducible refine Below.alloc ?_ (by first | omega | (simp; done) | (simp; omega)) _ | with_reducible refine below_drewN ?_ _ | with_reducible refine Below.drew ?_ | with_reducible refine Below.trans ?_ (Below.mono hb2 (by first | omega | (simp; done) | (simp; omega)))))
    clear x3 y0 y1 y2 y3
    obtain ⟨_, x3, ⟨y0, y1, y2, y3⟩, _⟩ := KEEP.out w2 hb12
    go_wp2_with fail
    refine (IHW.out _ hbw3).mono ?_
    rintro r w3 ⟨u3, rfl, hG3, hb3⟩
    obtain ⟨A3, c3w, rfl, hc3w, hm3w⟩ := hG3.val
    rw [← HNA.out]
    have hz3 := hb3.size
    have hbw4 := hbw3.ext hb3
    have hb13 : Below (w.heap.size + 1) w1 w3 := by (repeat (first | with_reducible assumption | with_reducible exact Below.refl _ _ | with_reducible refine Below.setCell ?_ (by first | omega | (simp; done) | (simp; omega)) _ | with_reducible refine Below.alloc ?_ (by first | omega | (simp; done) | (simp; omega)) _ | with_reducible refine below_drewN ?_ _ | with_reducible refine Below.drew ?_ | with_reducible refine Below.trans ?_ (Below.mono hb3 (by first | omega | (simp; done) | (simp; omega))) | with_reducible refine Below.trans ?_ (Below.mono hb12 (by first | omega | (simp; done) | (simp; omega)))))
    have hG2 := hG2.ext hb3
    clear x3 y0 y1 y2 y3 hG3
    obtain ⟨_, x3, _, y0, y1, y2, y3⟩ := KEEP.out w3 hb13
    go_wp2_with fail
    refine (IHb.out _ hbw4).mono ?_
    rintro r w4 ⟨u4, rfl, hG4, hb4⟩
    obtain ⟨gg4, cap4, rfl, hgl4, hgh4⟩ := hG4.block hpb
    have hz4 := hb4.size
    have hbw5 := hbw4.ext hb4
    have hb14 : Below (w.heap.size + 1) w1 w4 := by (repeat (first | with_reducible assumption | with_reducible exact Below.refl _ _ | with_reducible refine Below.setCell ?_ (by first | omega | (simp; done) | (simp; omega)) _ | with_reducible refine Below.alloc ?_ (by first | omega | (simp; done) | (simp; omega)) _ | with_reducible refine below_drewN ?_ _ | with_reducible refine Below.drew ?_ | with_reducible refine Below.trans ?_ (Below.mono hb4 (by first | omega | (simp; done) | (simp; omega))) | with_reducible refine Below.trans ?_ (Below.mono hb13 (by first | omega | (simp; done) | (simp; omega)))))
    have hG2 := hG2.ext hb4
    have hE14 : Below (w1.heap.size + 1) (w1.alloc (.cells #[] 234)) w4 := ((hb2.mono (by simp)).trans (hb3.mono (by omega))).trans (hb4.mono (by omega))
    clear x3 y0 y1 y2 y3
    obtain ⟨x2, _⟩ := KEEP.out w4 hb14
    have K2 := Lib.hid (fun (w' : World) (h : Below (w.heap.size + 1) w4 w') => (KEEP.out w' (hb14.trans h)).1)
    have tokA : True := trivial
    have tokB : True := trivial
    clear KEEP KA KB IHa IHb IHW MX
    go_wp2_with fail
    go_region_held3 (fun w' => w'.cell? ⟨w.heap.size, 2, none⟩ = some (.string (bs ob)))
      (first | exact K2.out _ (by (repeat (first | with_reducible assumption | with_reducible exact Below.refl _ _ | with_reducible refine Below.setCell ?_ (by first | omega | (simp; done) | (simp; omega)) _ | with_reducible refine Below.alloc ?_ (by first | omega | (simp; done) | (simp; omega)) _ | with_reducible refine below_drewN ?_ _ | with_reducible refine Below.drew ?_ | with_reducible refine Below.trans ?_ (Below.mono hb8 (by first | omega | (simp; done) | (simp; omega))) | with_reducible refine below_app ?_ hgr5 (by intro q hq; simp [Value.ownBlock] at hq; omega) (by first | omega | (simp; done) | (simp; omega)) | with_reducible refine below_app ?_ hgr6 (by intro q hq; simp [Value.ownBlock] at hq; omega) (by first | omega | (simp; done) | (simp; omega)) | with_reducible refine below_app ?_ hgr9 (by intro q hq; simp [Value.ownBlock] at hq; omega) (by first | omega | (simp; done) | (simp; omega))))) | go_keep)
      (first
        | (have tk := hgr6; go_at_call 265; refine (SHy.out _ _ ((hG4c.ext (by (repeat (first | with_reducible assumption | with_reducible exact Below.refl _ _ | with_reducible refine Below.setCell ?_ (by first | omega | (simp; done) | (simp; omega)) _ | with_reducible refine Below.alloc ?_ (by first | omega | (simp; done) | (simp; omega)) _ | with_reducible refine below_drewN ?_ _ | with_reducible refine Below.drew ?_)))).sl (fun _ => rfl))).mono ?_; rintro r w8 ⟨u8, rfl, hG8, hb8⟩; have hz8 := hb8.size; (try simp at hz8); obtain ⟨gg8, cap8, rfl, hgl8, hgh8⟩ := hG8.block hpy)
        | (have tk := tokA; refine apc0_step (by rfl) (.tmp 74) (.tmp 75) (by rfl) w.heap.size (.slice (some ⟨w1.heap.size, 0, none⟩) 0 0) (by rfl) ?_ ⟨gg2, 0, none⟩ cap2 ca (by rfl) ?_ hpa ?_ ?_ ?_; exact EMP.out _ (hE14.trans (by (repeat (first | with_reducible assumption | with_reducible exact Below.refl _ _ | with_reducible refine Below.setCell ?_ (by first | omega | (simp; done) | (simp; omega)) _ | with_reducible refine Below.alloc ?_ (by first | omega | (simp; done) | (simp; omega)) _ | with_reducible refine below_drewN ?_ _ | with_reducible refine Below.drew ?_)))); exact (hG2.ext (by (repeat (first | with_reducible assumption | with_reducible exact Below.refl _ _ | with_reducible refine Below.setCell ?_ (by first | omega | (simp; done) | (simp; omega)) _ | with_reducible refine Below.alloc ?_ (by first | omega | (simp; done) | (simp; omega)) _ | with_reducible refine below_drewN ?_ _ | with_reducible refine Below.drew ?_)))).cells; omega; (first | omega | (simp; omega)); intro g5 cap5 w5 hG5 hgr5 hat5; clear tk tokA; have hz5 := hgr5.size; (try simp at hz5); have hlo5 : w.heap.size + 1 ≤ g5 := (by rcases hat5 with h | h <;> (try simp [Value.ownBlock] at h) <;> omega); have hne5 : gg4 ≠ g5 := (by rcases hat5 with h | h <;> (try simp [Value.ownBlock] at h) <;> omega); have hG4b := (hG4.ext (by (repeat (first | with_reducible assumption | with_reducible exact Below.refl _ _ | with_reducible refine Below.setCell ?_ (by first | omega | (simp; done) | (simp; omega)) _ | with_reducible refine Below.alloc ?_ (by first | omega | (simp; done) | (simp; omega)) _ | with_reducible refine below_drewN ?_ _ | with_reducible refine Below.drew ?_)))).grown hgr5 (.inr (by simp [Value.ownBlock]; omega)))
        | (have tk := tokB; have tk2 := hgr5; refine apc_step (by rfl) (.tmp 76) (.tmp 81) (by rfl) w.heap.size (.slice (some ⟨g5, 0, none⟩) ca.length cap5) ca (by rfl) ?_ ⟨w5.heap.size, 0, none⟩ 1 [(ob, (na : Int))] (by rfl) ?_ Nat.zero_lt_one ?_ ?_ ?_; exact hG5.ext (by (repeat (first | with_reducible assumption | with_reducible exact Below.refl _ _ | with_reducible refine Below.setCell ?_ (by first | omega | (simp; done) | (simp; omega)) _ | with_reducible refine Below.alloc ?_ (by first | omega | (simp; done) | (simp; omega)) _ | with_reducible refine below_drewN ?_ _ | with_reducible refine Below.drew ?_))); exact news_cm (by simp); (simp; omega); (first | omega | (simp; omega)); intro g6 cap6 w6 hG6 hgr6 hat6; clear tk tk2 tokB; have hz6 := hgr6.size; (try simp at hz6); have hlo6 : w.heap.size + 1 ≤ g6 := (by rcases hat6 with h | h <;> (try simp [Value.ownBlock] at h) <;> omega); have hG4c := (hG4b.ext (by (repeat (first | with_reducible assumption | with_reducible exact Below.refl _ _ | with_reducible refine Below.setCell ?_ (by first | omega | (simp; done) | (simp; omega)) _ | with_reducible refine Below.alloc ?_ (by first | omega | (simp; done) | (simp; omega)) _ | with_reducible refine below_drewN ?_ _ | with_reducible refine Below.drew ?_)))).grown hgr6 (.inr (by simp [Value.ownBlock]; omega)))
        | (have tk := tokB; have tk2 := hgr5; refine apc_step (by rfl) (.tmp 76) (.tmp 81) (by rfl) w.heap.size (.slice (some ⟨g5, 0, none⟩) ca.length cap5) ca (by rfl) ?_ ⟨w4.heap.size, 0, none⟩ 1 [(ob, (na : Int))] (by rfl) ?_ Nat.zero_lt_one ?_ ?_ ?_; exact hG5.ext (by (repeat (first | with_reducible assumption | with_reducible exact Below.refl _ _ | with_reducible refine Below.setCell ?_ (by first | omega | (simp; done) | (simp; omega)) _ | with_reducible refine Below.alloc ?_ (by first | omega | (simp; done) | (simp; omega)) _ | with_reducible refine below_drewN ?_ _ | with_reducible refine Below.drew ?_))); exact World.news_of_block ((hgr5.block w4.heap.size (by simp) (by simp [Value.ownBlock]; omega)).trans (heap_alloc_new w4 _)); (simp; omega); (first | omega | (simp; omega)); intro g6 cap6 w6 hG6 hgr6 hat6; clear tk tk2 tokB; have hz6 := hgr6.size; (try simp at hz6); have hlo6 : w.heap.size + 1 ≤ g6 := (by rcases hat6 with h | h <;> (try simp [Value.ownBlock] at h) <;> omega); have hG4c := (hG4b.ext (by (repeat (first | with_reducible assumption | with_reducible exact Below.refl _ _ | with_reducible refine Below.setCell ?_ (by first | omega | (simp; done) | (simp; omega)) _ | with_reducible refine Below.alloc ?_ (by first | omega | (simp; done) | (simp; omega)) _ | with_reducible refine below_drewN ?_ _ | with_reducible refine Below.drew ?_)))).grown hgr6 (.inr (by simp [Value.ownBlock]; omega)))
        | (have tk := hb8; refine apc_step (by rfl) (.tmp 82) (.tmp 86) (by rfl) w.heap.size (.slice (some ⟨g6, 0, none⟩) (ca.length + 1) cap6) (ca ++ [(ob, (na : Int))]) (by rfl) ?_ ⟨gg8, 0, none⟩ cap8 sb (by rfl) ?_ hpy ?_ ?_ ?_; exact hG6.ext (by (repeat (first | with_reducible assumption | with_reducible exact Below.refl _ _ | with_reducible refine Below.setCell ?_ (by first | omega | (simp; done) | (simp; omega)) _ | with_reducible refine Below.alloc ?_ (by first | omega | (simp; done) | (simp; omega)) _ | with_reducible refine below_drewN ?_ _ | with_reducible refine Below.drew ?_ | with_reducible refine Below.trans ?_ (Below.mono hb8 (by first | omega | (simp; done) | (simp; omega)))))); exact (hG8.ext (by (repeat (first | with_reducible assumption | with_reducible exact Below.refl _ _ | with_reducible refine Below.setCell ?_ (by first | omega | (simp; done) | (simp; omega)) _ | with_reducible refine Below.alloc ?_ (by first | omega | (simp; done) | (simp; omega)) _ | with_reducible refine below_drewN ?_ _ | with_reducible refine Below.drew ?_)))).cells; (have hx := HSL.out; simp; omega); (first | omega | (simp; omega)); intro g9 cap9 w9 hG9 hgr9 hat9; clear tk; have hz9 := hgr9.size; (try simp at hz9); have hlo9 : w.heap.size + 1 ≤ g9 := (by rcases hat9 with h | h <;> (try simp [Value.ownBlock] at h) <;> omega))
        | fail)
    all_goals
      have hmg := hG9.len (n' := ca.length + 1 + sb.length) (m' := ca ++ (ob, (na : Int)) :: sb) (by simp) (by simp)
      have hbw9 : Below w.heap.size w w9 := by (repeat (first | with_reducible assumption | with_reducible exact Below.refl _ _ | with_reducible refine Below.setCell ?_ (by first | omega | (simp; done) | (simp; omega)) _ | with_reducible refine Below.alloc ?_ (by first | omega | (simp; done) | (simp; omega)) _ | with_reducible refine below_drewN ?_ _ | with_reducible refine Below.drew ?_ | with_reducible refine Below.trans ?_ (Below.mono hb8 (by first | omega | (simp; done) | (simp; omega))) | with_reducible refine Below.trans ?_ (Below.mono hbw5 (by first | omega | (simp; done) | (simp; omega))) | with_reducible refine below_app ?_ hgr5 (by intro q hq; simp [Value.ownBlock] at hq; omega) (by first | omega | (simp; done) | (simp; omega)) | with_reducible refine below_app ?_ hgr6 (by intro q hq; simp [Value.ownBlock] at hq; omega) (by first | omega | (simp; done) | (simp; omega)) | with_reducible refine below_app ?_ hgr9 (by intro q hq; simp [Value.ownBlock] at hq; omega) (by first | omega | (simp; done) | (simp; omega))))
      have hSH := SHd.out w9 _ (hmg.sl (fun _ => rfl))
      obtain ⟨out, hout⟩ : ∃ x, x = shiftL d (ca ++ (ob, (na : Int)) :: sb) := ⟨_, rfl⟩
      rw [← hout] at hSH
      have hLo : out.length = ca.length + 1 + cb.length := by rw [hout, shift_len]; exact HML.out
      have HOut := Lib.hid hout
      have HS := Lib.hid hSH
      have hlo0 : 0 < out.length := by omega
      have hlo : out.length ≤ 1200 := by omega
      clear hLo hSH hout hmg hG9 hgr9 hG8 hb8 hG6 hgr6 hG5 hgr5 hG4b hG4c hG2 hG4
      go_wp2_with fail
      refine HS.out.mono ?_
      rintro r w10 ⟨u10, rfl, hG10, hb10⟩
      have hbw10 := hbw9.ext hb10
      have hz10 := hb10.size
      have hz9w := hbw9.size
      obtain ⟨g10, cap10, rfl, hlg10, hhg10⟩ := hG10.block hlo0
      have hG10 := hG10.less hz9w
      by_cases hlt : k < bt
      rotate_left
      · have HNE := Lib.hid hlt
        have d1 : decide (k < bt) = false := by simp; omega
        have d3 : decide ((k : Int) < (bt : Int)) = false := by simp; omega
        clear hlt
        go_wp2_with fail
        go_ret
        exact ⟨_, rfl, by (try rw [if_neg HNE.out]); rw [← HOut.out]; exact hG10, hbw10⟩
      · have HNE := Lib.hid hlt
        have d1 : decide (k < bt) = true := by simp; omega
        have d3 : decide ((k : Int) < (bt : Int)) = true := by simp; omega
        have hown7 : GtM w.heap.size (w10.alloc (.cells #[.string ⟨#[40]⟩, .int .i64 (-1)] 234)) (.slice (some ⟨w10.heap.size, 0, none⟩) 1 1) [([40], -1)] := Gt.built (w' := w10) [([40], -1)] (by decide) (fun _ => rfl) (by decide) (heap_alloc_new w10 _) (by omega)
        have hGo' := hG10.ext (w' := w10.alloc (.cells #[.string ⟨#[40]⟩, .int .i64 (-1)] 234)) (by (repeat (first | with_reducible assumption | with_reducible exact Below.refl _ _ | with_reducible refine Below.setCell ?_ (by first | omega | (simp; done) | (simp; omega)) _ | with_reducible refine Below.alloc ?_ (by first | omega | (simp; done) | (simp; omega)) _ | with_reducible refine below_drewN ?_ _ | with_reducible refine Below.drew ?_)))
        have tok7 : True := trivial
        clear hlt
        go_wp2_with (first
          | (have tk := tok7; at_builtin; refine app_plain rtCm (by rfl) (.tmp 95) (.tmp 96) (by rfl) w.heap.size (.slice (some ⟨w10.heap.size, 0, none⟩) 1 1) [([40], -1)] (by rfl) hown7 ⟨g10, 0, none⟩ cap10 out (by rfl) hGo'.cells hlo0 ?_ ?_ ?_; (show 1 + out.length ≤ 1000000; omega); (first | omega | (simp; omega)); intro g11 cap11 w11 hG11 hgr11 hat11; clear tk tok7; have hz11 := hgr11.size; (try simp at hz11))
          | (have tk := hgr11; at_builtin; refine app_plain rtCm (by rfl) (.tmp 97) (.tmp 99) (by rfl) w.heap.size (.slice (some ⟨g11, 0, none⟩) (1 + out.length) cap11) ([([40], -1)] ++ out) (by rfl) (hG11.ext (by (repeat (first | with_reducible assumption | with_reducible exact Below.refl _ _ | with_reducible refine Below.setCell ?_ (by first | omega | (simp; done) | (simp; omega)) _ | with_reducible refine Below.alloc ?_ (by first | omega | (simp; done) | (simp; omega)) _ | with_reducible refine below_drewN ?_ _ | with_reducible refine Below.drew ?_)))) ⟨w11.heap.size, 0, none⟩ 1 [([41], -1)] (by rfl) (World.news_of_block (heap_alloc_new w11 _)) (by decide) ?_ ?_ ?_; (simp; omega); (first | omega | (simp; omega)); intro g12 cap12 w12 hG12 hgr12 hat12)
          | fail)
        have hlo11 : w.heap.size ≤ g11 := by rcases hat11 with h | h <;> (try simp [Value.ownBlock] at h) <;> omega
        go_ret
        refine ⟨_, rfl, ?_, by (repeat (first | with_reducible assumption | with_reducible exact Below.refl _ _ | with_reducible refine Below.setCell ?_ (by first | omega | (simp; done) | (simp; omega)) _ | with_reducible refine Below.alloc ?_ (by first | omega | (simp; done) | (simp; omega)) _ | with_reducible refine below_drewN ?_ _ | with_reducible refine Below.drew ?_ | with_reducible refine Below.trans ?_ (Below.mono hbw10 (by first | omega | (simp; done) | (simp; omega))) | with_reducible refine below_app ?_ hgr11 (by intro q hq; simp [Value.ownBlock] at hq; omega) (by first | omega | (simp; done) | (simp; omega)) | with_reducible refine below_app ?_ hgr12 (by intro q hq; simp [Value.ownBlock] at hq; omega) (by first | omega | (simp; done) | (simp; omega))))⟩
        (try rw [if_pos HNE.out])
        rw [← HOut.out]
        exact hG12.len (n' := out.length + 1 + 1) (m' := ([40], -1) :: (out ++ [([41], -1)])) (by simp) (by simp)
/-- the words of what is reckoned, each with whence it came -/
theorem spCame_any : ∀ e : E, CmP e
  | .num n => cm_num n
  | .nam s => cm_nam s
  | .cast t a => cm_cast t a (spCame_any a)
  | .two o a b => cm_two o a b (spCame_any a) (spCame_any b)
end Go.Proofs.YtgfbjpmbaibnoaaGreatDoor


/- What a line is turned into: its words, each with whence it came. -/
namespace Go.Proofs.YtgfbjpmbaibnoaaGreatDoor
set_option maxRecDepth 100000
set_option linter.unusedSimpArgs false
set_option linter.unusedVariables false
open Go.RowKit
attribute [local go_sem] bs_toList bs_get bs_size

theorem came_bd {e : E} (h : e.Ok) (t b : Nat) : (∀ x ∈ e.came t b, -1 ≤ x.2 ∧ x.2 ≤ 1000) ∧ (e.came t b).length ≤ 60 ∧ 1 ≤ (e.came t b).length := by
  have h1 := E.came_ok e t b h.1
  have h2 := E.words_len e t
  have h3 := E.came_len e t b
  have h4 := h.2.2
  refine ⟨fun x hx => ?_, by omega, came_pos e t b⟩
  have h5 := h1 x hx
  omega
/-- what l8Line gives -/
def LnP (s : SE) : Prop := ∀ (v : Value) (w : World), SmV w w.heap.size v s.sm → Calls Tryz.prog 249 #[v] w fun r w' => ∃ u, r = .returned u ∧ GtM w.heap.size w' u s.came ∧ Below w.heap.size w w'
theorem came1 (e : E) (v : Value) (w : World) (hok : e.Ok) (hv : ExV w w.heap.size v e.ex) : Calls Tryz.prog 266 #[v, .int .i64 1, .int .i64 1] w fun r w' => ∃ u, r = .returned u ∧ GtM w.heap.size w' u (e.came 1 1) ∧ Below w.heap.size w w' :=
  spCame_any e 1 1 v w hok.1 (by have := hok.2.2; omega) (by omega) (by omega) hv
theorem ln_none : LnP .none := by
  intro v w hv
  obtain ⟨A1, A2, c1, c2, rfl, hn, ht, hE1, hE2⟩ := hv.form2
  simp only [SE.sm] at hn ht hE1 hE2 ⊢
  clear hE1 hE2
  go_enter Tryz.func249, Tryz.ntmps249
  go_wp2_with fail
  go_ret
  refine ⟨_, rfl, ?_, by (repeat (first | with_reducible assumption | with_reducible exact Below.refl _ _ | with_reducible refine Below.setCell ?_ (by first | omega | (simp; done) | (simp; omega)) _ | with_reducible refine Below.alloc ?_ (by first | omega | (simp; done) | (simp; omega)) _ | with_reducible refine below_drewN ?_ _ | with_reducible refine Below.drew ?_))⟩
  have h := gt_empty srcRow 2 234 (B := w.heap.size) (w.alloc (.cells #[.int .i64 0, .string (bs []), .string (bs []), .int .i64 Ex.none.kind, .int .i64 Ex.none.n, .string (bs Ex.none.s), .slice A1 Ex.none.kids.length c1, .int .i64 Ex.none.kind, .int .i64 Ex.none.n, .string (bs Ex.none.s), .slice A2 Ex.none.kids.length c2] 27)) _ (by simp) (Below.refl _ _)
  rw [World.size_alloc] at h
  exact h
set_option maxHeartbeats 2000000 in
theorem ln_say (e : E) (hok : e.Ok) : LnP (.say e) := by
  intro v w hv
  obtain ⟨A1, A2, c1, c2, rfl, hn, ht, hE1, hE2⟩ := hv.form2
  simp only [SE.sm] at hn ht hE1 hE2 ⊢
  obtain ⟨hcb, hcl, hpos⟩ := came_bd hok 1 1
  have IH := Lib.hid (fun (w' : World) (h : Below w.heap.size w w') => came1 e _ w' hok ((hE1.keep h (Nat.le_refl _)).more h.size))
  have SH := Lib.hid (fun (w' : World) (u : Value) (hu : SlC w' w'.heap.size u (e.came 1 1)) => spShift_any (e.came 1 1) 1 u w' hu (by omega) (by omega) hcb)
  have hcs : (SE.say e).came = [(cPrint, 0)] ++ shiftL 1 (e.came 1 1) := rfl
  have hsl := shift_len 1 (e.came 1 1)
  have HCS := Lib.hid hcs
  have hpy : 1 ≤ (shiftL 1 (e.came 1 1)).length := by omega
  have hsm : (shiftL 1 (e.came 1 1)).length ≤ 60 := by omega
  clear hE1 hE2 hok hcs hcb hsl
  generalize shiftL 1 (e.came 1 1) = sa at *
  generalize e.came 1 1 = ca at *
  go_enter Tryz.func249, Tryz.ntmps249
  go_wp2_with fail
  generalize hW : World.alloc w _ = W0
  have hb0 : Below w.heap.size w W0 := by rw [← hW]; (repeat (first | with_reducible assumption | with_reducible exact Below.refl _ _ | with_reducible refine Below.setCell ?_ (by first | omega | (simp; done) | (simp; omega)) _ | with_reducible refine Below.alloc ?_ (by first | omega | (simp; done) | (simp; omega)) _ | with_reducible refine below_drewN ?_ _ | with_reducible refine Below.drew ?_))
  have hz0 : w.heap.size < W0.heap.size := by rw [← hW]; simp
  have HZ0 := Lib.hid (show w.heap.size + 1 = W0.heap.size by rw [← hW]; simp)
  clear hW
  refine (IH.out _ (by (repeat (first | with_reducible assumption | with_reducible exact Below.refl _ _ | with_reducible refine Below.setCell ?_ (by first | omega | (simp; done) | (simp; omega)) _ | with_reducible refine Below.alloc ?_ (by first | omega | (simp; done) | (simp; omega)) _ | with_reducible refine below_drewN ?_ _ | with_reducible refine Below.drew ?_ | with_reducible refine Below.trans ?_ (Below.mono hb0 (by first | omega | (simp; done) | (simp; omega))))))).mono ?_
  rintro r w2 ⟨u2, rfl, hG2, hb2⟩
  have hz2 := hb2.size
  (try simp at hz2)
  have SH2 := Lib.hid (SH.out w2 u2 (hG2.sl (fun _ => rfl)))
  obtain ⟨A3, c3, rfl, hc3, hm3⟩ := hG2.val
  clear hG2
  go_wp2_with fail
  refine SH2.out.mono ?_
  rintro r w3 ⟨u3, rfl, hG3, hb3⟩
  have hz3 := hb3.size
  obtain ⟨gg3, cap3, rfl, hgl3, hgh3⟩ := hG3.block hpy
  go_wp2_with (first | (at_builtin; refine app_plain rtCm (by rfl) (.tmp 22) (.tmp 26) (by rfl) w.heap.size (.slice (some ⟨w.heap.size + 1, 0, none⟩) 1 1) [(cPrint, 0)] (by rfl) ?_ ⟨gg3, 0, none⟩ cap3 sa (by rfl) hG3.cells hpy (by first | omega | (simp; done) | (simp only [List.length_cons, List.length_nil, List.length_append]; omega) | (simp; omega)) (by first | omega | (simp; done) | (simp only [List.length_cons, List.length_nil, List.length_append]; omega) | (simp; omega)) ?_; exact Gt.laid (w' := W0) _ _ HZ0.out rfl _ rfl (by first | omega | (simp; done) | (simp only [List.length_cons, List.length_nil, List.length_append]; omega) | (simp; omega)) (fun _ => rfl) (by first | omega | (simp; done) | (simp only [List.length_cons, List.length_nil, List.length_append]; omega) | (simp; omega)) ((hb3.block W0.heap.size (by omega)).trans (hb2.block W0.heap.size (by simp))) (by omega); intro g4 cap4 w4 hG4 hgr4 hat4) | fail)
  go_ret
  exact ⟨_, rfl, by rw [HCS.out]; exact hG4.len (by first | omega | (simp; done) | (simp only [List.length_cons, List.length_nil, List.length_append]; omega) | (simp; omega)) rfl, by (repeat (first | with_reducible assumption | with_reducible exact Below.refl _ _ | with_reducible refine Below.setCell ?_ (by first | omega | (simp; done) | (simp; omega)) _ | with_reducible refine Below.alloc ?_ (by first | omega | (simp; done) | (simp; omega)) _ | with_reducible refine below_drewN ?_ _ | with_reducible refine Below.drew ?_ | with_reducible refine Below.trans ?_ (Below.mono hb3 (by first | omega | (simp; done) | (simp; omega))) | with_reducible refine Below.trans ?_ (Below.mono hb2 (by first | omega | (simp; done) | (simp; omega))) | with_reducible refine Below.trans ?_ (Below.mono hb0 (by first | omega | (simp; done) | (simp; omega))) | with_reducible refine below_app ?_ hgr4 (by intro q hq; simp [Value.ownBlock] at hq; omega) (by first | omega | (simp; done) | (simp; omega))))⟩
set_option maxHeartbeats 4000000 in
theorem ln_let (nm : Bytes) (t : Bool) (e : E) (hok : e.Ok) : LnP (.slet nm t e) := by
  intro v w hv
  obtain ⟨A1, A2, c1, c2, rfl, hn, ht, hE1, hE2⟩ := hv.form2
  simp only [SE.sm] at hn ht hE1 hE2 ⊢
  obtain ⟨hcb, hcl, hpos⟩ := came_bd hok 1 1
  have IH := Lib.hid (fun (w' : World) (h : Below w.heap.size w w') => came1 e _ w' hok ((hE1.keep h (Nat.le_refl _)).more h.size))
  have SH := Lib.hid (fun (w' : World) (u : Value) (hu : SlC w' w'.heap.size u (e.came 1 1)) => spShift_any (e.came 1 1) 5 u w' hu (by omega) (by omega) hcb)
  have hcs : (SE.slet nm t e).came = [(nm, 1), ([61], 4)] ++ shiftL 5 (e.came 1 1) := rfl
  have hsl := shift_len 5 (e.came 1 1)
  have HCS := Lib.hid hcs
  have hpy : 1 ≤ (shiftL 5 (e.came 1 1)).length := by omega
  have hsm : (shiftL 5 (e.came 1 1)).length ≤ 60 := by omega
  clear hE1 hE2 hok hcs hcb hsl
  generalize shiftL 5 (e.came 1 1) = sa at *
  generalize e.came 1 1 = ca at *
  generalize tyB t = ty at *
  go_enter Tryz.func249, Tryz.ntmps249
  go_wp2_with fail
  generalize hW : World.alloc w _ = W0
  have hb0 : Below w.heap.size w W0 := by rw [← hW]; (repeat (first | with_reducible assumption | with_reducible exact Below.refl _ _ | with_reducible refine Below.setCell ?_ (by first | omega | (simp; done) | (simp; omega)) _ | with_reducible refine Below.alloc ?_ (by first | omega | (simp; done) | (simp; omega)) _ | with_reducible refine below_drewN ?_ _ | with_reducible refine Below.drew ?_))
  have hz0 : w.heap.size < W0.heap.size := by rw [← hW]; simp
  have q1 : W0.cell? ⟨w.heap.size, 1, none⟩ = some (.string (bs nm)) := by rw [← hW]; simp [go_sem]
  have q3 : W0.cell? ⟨w.heap.size, 3, none⟩ = some (.int .i64 e.ex.kind) := by rw [← hW]; simp [go_sem]
  have q4 : W0.cell? ⟨w.heap.size, 4, none⟩ = some (.int .i64 e.ex.n) := by rw [← hW]; simp [go_sem]
  have q5 : W0.cell? ⟨w.heap.size, 5, none⟩ = some (.string (bs e.ex.s)) := by rw [← hW]; simp [go_sem]
  have q6 : W0.cell? ⟨w.heap.size, 6, none⟩ = some (.slice A1 e.ex.kids.length c1) := by rw [← hW]; simp [go_sem]
  have KEEP := Lib.hid (show ∀ w' : World, Below W0.heap.size W0 w' → (w'.cell? ⟨w.heap.size, 1, none⟩ = some (.string (bs nm)) ∧ w'.cell? ⟨w.heap.size, 3, none⟩ = some (.int .i64 e.ex.kind) ∧ w'.cell? ⟨w.heap.size, 4, none⟩ = some (.int .i64 e.ex.n) ∧ w'.cell? ⟨w.heap.size, 5, none⟩ = some (.string (bs e.ex.s)) ∧ w'.cell? ⟨w.heap.size, 6, none⟩ = some (.slice A1 e.ex.kids.length c1)) from
    fun w' h => ⟨(h.cell (p := ⟨w.heap.size, 1, none⟩) hz0).trans q1, (h.cell (p := ⟨w.heap.size, 3, none⟩) hz0).trans q3, (h.cell (p := ⟨w.heap.size, 4, none⟩) hz0).trans q4, (h.cell (p := ⟨w.heap.size, 5, none⟩) hz0).trans q5, (h.cell (p := ⟨w.heap.size, 6, none⟩) hz0).trans q6⟩)
  clear hW
  go_region_held3 (fun w' => w'.cell? ⟨w.heap.size, 1, none⟩ = some (.string (bs nm)) ∧ w'.cell? ⟨w.heap.size, 3, none⟩ = some (.int .i64 e.ex.kind) ∧ w'.cell? ⟨w.heap.size, 4, none⟩ = some (.int .i64 e.ex.n) ∧ w'.cell? ⟨w.heap.size, 5, none⟩ = some (.string (bs e.ex.s)) ∧ w'.cell? ⟨w.heap.size, 6, none⟩ = some (.slice A1 e.ex.kids.length c1))
    (first | exact KEEP.out _ (by (repeat (first | with_reducible assumption | with_reducible exact Below.refl _ _ | with_reducible refine Below.setCell ?_ (by first | omega | (simp; done) | (simp; omega)) _ | with_reducible refine Below.alloc ?_ (by first | omega | (simp; done) | (simp; omega)) _ | with_reducible refine below_drewN ?_ _ | with_reducible refine Below.drew ?_ | with_reducible refine Below.trans ?_ (Below.mono hb3 (by first | omega | (simp; done) | (simp; omega))) | with_reducible refine Below.trans ?_ (Below.mono hb2 (by first | omega | (simp; done) | (simp; omega))) | with_reducible refine below_app ?_ hgr4 (by intro q hq; simp [Value.ownBlock] at hq; omega) (by first | omega | (simp; done) | (simp; omega))))) | go_keep)
    (first
      | (go_at_call 266; refine (IH.out _ (by (repeat (first | with_reducible assumption | with_reducible exact Below.refl _ _ | with_reducible refine Below.setCell ?_ (by first | omega | (simp; done) | (simp; omega)) _ | with_reducible refine Below.alloc ?_ (by first | omega | (simp; done) | (simp; omega)) _ | with_reducible refine below_drewN ?_ _ | with_reducible refine Below.drew ?_ | with_reducible refine Below.trans ?_ (Below.mono hb0 (by first | omega | (simp; done) | (simp; omega))))))).mono ?_; rintro r w2 ⟨u2, rfl, hG2, hb2⟩; have hz2 := hb2.size; (try simp at hz2))
      | (have tk := hb2; go_at_call 265; refine (SH.out _ _ ((hG2.ext (by (repeat (first | with_reducible assumption | with_reducible exact Below.refl _ _ | with_reducible refine Below.setCell ?_ (by first | omega | (simp; done) | (simp; omega)) _ | with_reducible refine Below.alloc ?_ (by first | omega | (simp; done) | (simp; omega)) _ | with_reducible refine below_drewN ?_ _ | with_reducible refine Below.drew ?_)))).sl (fun _ => rfl))).mono ?_; rintro r w3 ⟨u3, rfl, hG3, hb3⟩; have hz3 := hb3.size; (try simp at hz3); obtain ⟨gg3, cap3, rfl, hgl3, hgh3⟩ := hG3.block hpy)
      | (have tk := hb3; refine apc_step (by rfl) (.tmp 13) (.tmp 17) (by rfl) w.heap.size (.slice (some ⟨w3.heap.size, 0, none⟩) 2 2) [(nm, 1), ([61], 4)] (by rfl) ?_ ⟨gg3, 0, none⟩ cap3 sa (by rfl) ?_ hpy ?_ ?_ ?_; exact Gt.laid (w' := w3) _ _ rfl rfl _ rfl (by first | omega | (simp; done) | (simp only [List.length_cons, List.length_nil, List.length_append]; omega) | (simp; omega)) (fun _ => rfl) (by first | omega | (simp; done) | (simp only [List.length_cons, List.length_nil, List.length_append]; omega) | (simp; omega)) rfl (by omega); exact (hG3.ext (by (repeat (first | with_reducible assumption | with_reducible exact Below.refl _ _ | with_reducible refine Below.setCell ?_ (by first | omega | (simp; done) | (simp; omega)) _ | with_reducible refine Below.alloc ?_ (by first | omega | (simp; done) | (simp; omega)) _ | with_reducible refine below_drewN ?_ _ | with_reducible refine Below.drew ?_)))).cells; (first | omega | (simp; done) | (simp only [List.length_cons, List.length_nil, List.length_append]; omega) | (simp; omega)); (first | omega | (simp; done) | (simp only [List.length_cons, List.length_nil, List.length_append]; omega) | (simp; omega)); intro g4 cap4 w4 hG4 hgr4 hat4)
      | (have tk := hb3; refine apc_step (by rfl) (.tmp 13) (.tmp 17) (by rfl) w.heap.size (.slice (some ⟨w2.heap.size, 0, none⟩) 2 2) [(nm, 1), ([61], 4)] (by rfl) ?_ ⟨gg3, 0, none⟩ cap3 sa (by rfl) ?_ hpy ?_ ?_ ?_; exact Gt.laid (w' := w2) _ _ rfl rfl _ rfl (by first | omega | (simp; done) | (simp only [List.length_cons, List.length_nil, List.length_append]; omega) | (simp; omega)) (fun _ => rfl) (by first | omega | (simp; done) | (simp only [List.length_cons, List.length_nil, List.length_append]; omega) | (simp; omega)) (hb3.block w2.heap.size (by simp)) (by omega); exact hG3.cells; (first | omega | (simp; done) | (simp only [List.length_cons, List.length_nil, List.length_append]; omega) | (simp; omega)); (first | omega | (simp; done) | (simp only [List.length_cons, List.length_nil, List.length_append]; omega) | (simp; omega)); intro g4 cap4 w4 hG4 hgr4 hat4)
      | (have tk := hb3; refine apc_step (by rfl) (.tmp 13) (.tmp 17) (by rfl) w.heap.size (.slice (some ⟨W0.heap.size, 0, none⟩) 2 2) [(nm, 1), ([61], 4)] (by rfl) ?_ ⟨gg3, 0, none⟩ cap3 sa (by rfl) ?_ hpy ?_ ?_ ?_; exact Gt.laid (w' := W0) _ _ rfl rfl _ rfl (by first | omega | (simp; done) | (simp only [List.length_cons, List.length_nil, List.length_append]; omega) | (simp; omega)) (fun _ => rfl) (by first | omega | (simp; done) | (simp only [List.length_cons, List.length_nil, List.length_append]; omega) | (simp; omega)) ((hb3.block W0.heap.size (by first | omega | (simp; omega))).trans (hb2.block W0.heap.size (by simp))) (by omega); exact hG3.cells; (first | omega | (simp; done) | (simp only [List.length_cons, List.length_nil, List.length_append]; omega) | (simp; omega)); (first | omega | (simp; done) | (simp only [List.length_cons, List.length_nil, List.length_append]; omega) | (simp; omega)); intro g4 cap4 w4 hG4 hgr4 hat4)
      | fail)
  all_goals
    go_wp2_with fail
    go_ret
    exact ⟨_, rfl, by rw [HCS.out]; exact hG4, by (repeat (first | with_reducible assumption | with_reducible exact Below.refl _ _ | with_reducible refine Below.setCell ?_ (by first | omega | (simp; done) | (simp; omega)) _ | with_reducible refine Below.alloc ?_ (by first | omega | (simp; done) | (simp; omega)) _ | with_reducible refine below_drewN ?_ _ | with_reducible refine Below.drew ?_ | with_reducible refine Below.trans ?_ (Below.mono hb3 (by first | omega | (simp; done) | (simp; omega))) | with_reducible refine Below.trans ?_ (Below.mono hb2 (by first | omega | (simp; done) | (simp; omega))) | with_reducible refine Below.trans ?_ (Below.mono hb0 (by first | omega | (simp; done) | (simp; omega))) | with_reducible refine below_app ?_ hgr4 (by intro q hq; simp [Value.ownBlock] at hq; omega) (by first | omega | (simp; done) | (simp; omega))))⟩
set_option maxHeartbeats 4000000 in
theorem ln_when (e f : E) (hok : e.Ok) (hof : f.Ok) : LnP (.when e f) := by
  intro v w hv
  obtain ⟨A1, A2, c1, c2, rfl, hn, ht, hE1, hE2⟩ := hv.form2
  simp only [SE.sm] at hn ht hE1 hE2 ⊢
  obtain ⟨hcb, hcl, hpos⟩ := came_bd hok 1 1
  obtain ⟨hcb', hcl', hpos'⟩ := came_bd hof 1 1
  have hwl := E.words_len e 1
  have hcn := hok.2.2
  obtain ⟨na, hna⟩ : ∃ n, n = (e.words 1).length := ⟨_, rfl⟩
  have hna6 : na ≤ 60 := by omega
  have IW := Lib.hid (fun (w' : World) (h : Below w.heap.size w w') => spWords1 e _ w' hok ((hE1.keep h (Nat.le_refl _)).more h.size))
  have IH := Lib.hid (fun (w' : World) (h : Below w.heap.size w w') => came1 e _ w' hok ((hE1.keep h (Nat.le_refl _)).more h.size))
  have IH2 := Lib.hid (fun (w' : World) (h : Below w.heap.size w w') => came1 f _ w' hof ((hE2.keep h (Nat.le_refl _)).more h.size))
  have SH := Lib.hid (fun (w' : World) (u : Value) (hu : SlC w' w'.heap.size u (e.came 1 1)) => spShift_any (e.came 1 1) 1 u w' hu (by omega) (by omega) hcb)
  have SH2 := Lib.hid (fun (w' : World) (u : Value) (hu : SlC w' w'.heap.size u (f.came 1 1)) => spShift_any (f.came 1 1) (na + 2) u w' hu (by omega) (by omega) hcb')
  rw [show ((na + 2 : Nat) : Int) = (na : Int) + 2 by omega] at SH2
  have hcs : (SE.when e f).came = [(cIf, 0)] ++ shiftL 1 (e.came 1 1) ++ [([58], -1), (cPrint, (na : Int) + 1)] ++ shiftL (na + 2) (f.came 1 1) := by rw [hna]; simp [SE.came]
  have hsl := shift_len 1 (e.came 1 1)
  have hsl' := shift_len (na + 2) (f.came 1 1)
  have HCS := Lib.hid hcs
  have HNA := Lib.hid hna
  have hpy : 1 ≤ (shiftL 1 (e.came 1 1)).length := by omega
  have hsm : (shiftL 1 (e.came 1 1)).length ≤ 60 := by omega
  have hpy' : 1 ≤ (shiftL (na + 2) (f.came 1 1)).length := by omega
  have hsm' : (shiftL (na + 2) (f.came 1 1)).length ≤ 60 := by omega
  have hw1 : IntKind.i64.wrap ((na : Int) + 1) = (na : Int) + 1 := by rw [IntKind.wrap_i64]; omega
  have hw2 : IntKind.i64.wrap ((na : Int) + 2) = (na : Int) + 2 := by rw [IntKind.wrap_i64]; omega
  clear hE1 hE2 hok hof hcs hcb hsl hcb' hsl' hna hwl hcn
  generalize shiftL 1 (e.came 1 1) = sa at *
  generalize e.came 1 1 = ca at *
  generalize shiftL (na + 2) (f.came 1 1) = sb at *
  generalize f.came 1 1 = cb at *
  generalize e.words 1 = wa at *
  go_enter Tryz.func249, Tryz.ntmps249
  go_wp2_with fail
  generalize hW : World.alloc w _ = W0
  have hb0 : Below w.heap.size w W0 := by rw [← hW]; (repeat (first | with_reducible assumption | with_reducible exact Below.refl _ _ | with_reducible refine Below.setCell ?_ (by first | omega | (simp; done) | (simp; omega)) _ | with_reducible refine Below.alloc ?_ (by first | omega | (simp; done) | (simp; omega)) _ | with_reducible refine below_drewN ?_ _ | with_reducible refine Below.drew ?_))
  have hz0 : w.heap.size < W0.heap.size := by rw [← hW]; simp
  have q3 : W0.cell? ⟨w.heap.size, 3, none⟩ = some (.int .i64 e.ex.kind) := by rw [← hW]; simp [go_sem]
  have q4 : W0.cell? ⟨w.heap.size, 4, none⟩ = some (.int .i64 e.ex.n) := by rw [← hW]; simp [go_sem]
  have q5 : W0.cell? ⟨w.heap.size, 5, none⟩ = some (.string (bs e.ex.s)) := by rw [← hW]; simp [go_sem]
  have q6 : W0.cell? ⟨w.heap.size, 6, none⟩ = some (.slice A1 e.ex.kids.length c1) := by rw [← hW]; simp [go_sem]
  have q7 : W0.cell? ⟨w.heap.size, 7, none⟩ = some (.int .i64 f.ex.kind) := by rw [← hW]; simp [go_sem]
  have q8 : W0.cell? ⟨w.heap.size, 8, none⟩ = some (.int .i64 f.ex.n) := by rw [← hW]; simp [go_sem]
  have q9 : W0.cell? ⟨w.heap.size, 9, none⟩ = some (.string (bs f.ex.s)) := by rw [← hW]; simp [go_sem]
  have q10 : W0.cell? ⟨w.heap.size, 10, none⟩ = some (.slice A2 f.ex.kids.length c2) := by rw [← hW]; simp [go_sem]
  have KEEP := Lib.hid (show ∀ w' : World, Below W0.heap.size W0 w' → ((w'.cell? ⟨w.heap.size, 3, none⟩ = some (.int .i64 e.ex.kind) ∧ w'.cell? ⟨w.heap.size, 4, none⟩ = some (.int .i64 e.ex.n) ∧ w'.cell? ⟨w.heap.size, 5, none⟩ = some (.string (bs e.ex.s)) ∧ w'.cell? ⟨w.heap.size, 6, none⟩ = some (.slice A1 e.ex.kids.length c1)) ∧ w'.cell? ⟨w.heap.size, 7, none⟩ = some (.int .i64 f.ex.kind) ∧ w'.cell? ⟨w.heap.size, 8, none⟩ = some (.int .i64 f.ex.n) ∧ w'.cell? ⟨w.heap.size, 9, none⟩ = some (.string (bs f.ex.s)) ∧ w'.cell? ⟨w.heap.size, 10, none⟩ = some (.slice A2 f.ex.kids.length c2)) from
    fun w' h => ⟨⟨(h.cell (p := ⟨w.heap.size, 3, none⟩) hz0).trans q3, (h.cell (p := ⟨w.heap.size, 4, none⟩) hz0).trans q4, (h.cell (p := ⟨w.heap.size, 5, none⟩) hz0).trans q5, (h.cell (p := ⟨w.heap.size, 6, none⟩) hz0).trans q6⟩, (h.cell (p := ⟨w.heap.size, 7, none⟩) hz0).trans q7, (h.cell (p := ⟨w.heap.size, 8, none⟩) hz0).trans q8, (h.cell (p := ⟨w.heap.size, 9, none⟩) hz0).trans q9, (h.cell (p := ⟨w.heap.size, 10, none⟩) hz0).trans q10⟩)
  clear hW q3 q4 q5 q6 q7 q8 q9 q10
  refine (IW.out _ hb0).mono ?_
  rintro r w1 ⟨u1, rfl, hG1, hb1⟩
  obtain ⟨Aw, cw, rfl, hcw, hmw⟩ := hG1.val
  rw [← HNA.out]
  have hz1 := hb1.size
  obtain ⟨⟨y0, y1, y2, y3⟩, _⟩ := KEEP.out w1 hb1
  have hbw1 := hb0.ext hb1
  have hlt1 : w.heap.size < w1.heap.size := by omega
  clear hG1
  go_wp2_with fail
  refine (IH.out _ (by (repeat (first | with_reducible assumption | with_reducible exact Below.refl _ _ | with_reducible refine Below.setCell ?_ (by first | omega | (simp; done) | (simp; omega)) _ | with_reducible refine Below.alloc ?_ (by first | omega | (simp; done) | (simp; omega)) _ | with_reducible refine below_drewN ?_ _ | with_reducible refine Below.drew ?_ | with_reducible refine Below.trans ?_ (Below.mono hbw1 (by first | omega | (simp; done) | (simp; omega))))))).mono ?_
  rintro r w2 ⟨u2, rfl, hG2, hb2⟩
  have hz2 := hb2.size
  (try simp at hz2)
  have SHa := Lib.hid (SH.out w2 u2 (hG2.sl (fun _ => rfl)))
  obtain ⟨A3, c3, rfl, hc3, hm3⟩ := hG2.val
  clear hG2 y0 y1 y2 y3
  go_wp2_with fail
  refine SHa.out.mono ?_
  rintro r w3 ⟨u3, rfl, hG3, hb3⟩
  have hz3 := hb3.size
  obtain ⟨gg3, cap3, rfl, hgl3, hgh3⟩ := hG3.block hpy
  have tok1 : True := trivial
  have hbw3 : Below W0.heap.size W0 w3 := by (repeat (first | with_reducible assumption | with_reducible exact Below.refl _ _ | with_reducible refine Below.setCell ?_ (by first | omega | (simp; done) | (simp; omega)) _ | with_reducible refine Below.alloc ?_ (by first | omega | (simp; done) | (simp; omega)) _ | with_reducible refine below_drewN ?_ _ | with_reducible refine Below.drew ?_ | with_reducible refine Below.trans ?_ (Below.mono hb3 (by first | omega | (simp; done) | (simp; omega))) | with_reducible refine Below.trans ?_ (Below.mono hb2 (by first | omega | (simp; done) | (simp; omega))) | with_reducible refine Below.trans ?_ (Below.mono hb1 (by first | omega | (simp; done) | (simp; omega)))))
  have hlo1 : W0.heap.size ≤ w1.heap.size := hz1
  go_wp2_with (first
    | (have tk := tok1; at_builtin; refine app_plain rtCm (by rfl) (.tmp 35) (.tmp 39) (by rfl) W0.heap.size (.slice (some ⟨w1.heap.size, 0, none⟩) 1 1) [(cIf, 0)] (by rfl) ?_ ⟨gg3, 0, none⟩ cap3 sa (by rfl) hG3.cells hpy (by first | omega | (simp; done) | (simp only [List.length_cons, List.length_nil, List.length_append]; omega) | (simp; omega)) (by first | omega | (simp; done) | (simp only [List.length_cons, List.length_nil, List.length_append]; omega) | (simp; omega)) ?_; exact Gt.laid (w' := w1) _ _ rfl rfl _ rfl (by first | omega | (simp; done) | (simp only [List.length_cons, List.length_nil, List.length_append]; omega) | (simp; omega)) (fun _ => rfl) (by first | omega | (simp; done) | (simp only [List.length_cons, List.length_nil, List.length_append]; omega) | (simp; omega)) ((hb3.block w1.heap.size (by omega)).trans (hb2.block w1.heap.size (by simp))) (by omega); intro g4 cap4 w4 hG4 hgr4 hat4; clear tk tok1; have hz4 := hgr4.size; have hlo4 : W0.heap.size ≤ g4 := (by rcases hat4 with h | h <;> (try simp [Value.ownBlock] at h) <;> omega))
    | (have tk := hgr4; at_builtin; refine app_plain rtCm (by rfl) (.tmp 41) (.tmp 46) (by rfl) W0.heap.size (.slice (some ⟨g4, 0, none⟩) _ cap4) ([(cIf, 0)] ++ sa) (by rfl) ((hG4.ext (by (repeat (first | with_reducible assumption | with_reducible exact Below.refl _ _ | with_reducible refine Below.setCell ?_ (by first | omega | (simp; done) | (simp; omega)) _ | with_reducible refine Below.alloc ?_ (by first | omega | (simp; done) | (simp; omega)) _ | with_reducible refine below_drewN ?_ _ | with_reducible refine Below.drew ?_)))).len (by first | omega | (simp; done) | (simp only [List.length_cons, List.length_nil, List.length_append]; omega) | (simp; omega)) rfl) ⟨w4.heap.size, 0, none⟩ 2 [([58], -1), (cPrint, (na : Int) + 1)] (by rfl) (World.news_of_block (heap_alloc_new w4 _)) (Nat.succ_pos 1) (by first | omega | (simp; done) | (simp only [List.length_cons, List.length_nil, List.length_append]; omega) | (simp; omega)) (by first | omega | (simp; done) | (simp only [List.length_cons, List.length_nil, List.length_append]; omega) | (simp; omega)) ?_; intro g5 cap5 w5 hG5 hgr5 hat5; have hz5 := hgr5.size; (try simp at hz5); have hlo5 : W0.heap.size ≤ g5 := (by rcases hat5 with h | h <;> (try simp [Value.ownBlock] at h) <;> omega); obtain ⟨_, y7, y8, y9, y10⟩ := KEEP.out w5 (by (repeat (first | with_reducible assumption | with_reducible exact Below.refl _ _ | with_reducible refine Below.setCell ?_ (by first | omega | (simp; done) | (simp; omega)) _ | with_reducible refine Below.alloc ?_ (by first | omega | (simp; done) | (simp; omega)) _ | with_reducible refine below_drewN ?_ _ | with_reducible refine Below.drew ?_ | with_reducible refine Below.trans ?_ (Below.mono hbw3 (by first | omega | (simp; done) | (simp; omega))) | with_reducible refine below_app ?_ hgr4 (by intro q hq; simp [Value.ownBlock] at hq; omega) (by first | omega | (simp; done) | (simp; omega)) | with_reducible refine below_app ?_ hgr5 (by intro q hq; simp [Value.ownBlock] at hq; omega) (by first | omega | (simp; done) | (simp; omega))))))
    | fail)
  have hbw5 : Below W0.heap.size W0 w5 := by (repeat (first | with_reducible assumption | with_reducible exact Below.refl _ _ | with_reducible refine Below.setCell ?_ (by first | omega | (simp; done) | (simp; omega)) _ | with_reducible refine Below.alloc ?_ (by first | omega | (simp; done) | (simp; omega)) _ | with_reducible refine below_drewN ?_ _ | with_reducible refine Below.drew ?_ | with_reducible refine Below.trans ?_ (Below.mono hbw3 (by first | omega | (simp; done) | (simp; omega))) | with_reducible refine below_app ?_ hgr4 (by intro q hq; simp [Value.ownBlock] at hq; omega) (by first | omega | (simp; done) | (simp; omega)) | with_reducible refine below_app ?_ hgr5 (by intro q hq; simp [Value.ownBlock] at hq; omega) (by first | omega | (simp; done) | (simp; omega))))
  refine (IH2.out _ (by (repeat (first | with_reducible assumption | with_reducible exact Below.refl _ _ | with_reducible refine Below.setCell ?_ (by first | omega | (simp; done) | (simp; omega)) _ | with_reducible refine Below.alloc ?_ (by first | omega | (simp; done) | (simp; omega)) _ | with_reducible refine below_drewN ?_ _ | with_reducible refine Below.drew ?_ | with_reducible refine Below.trans ?_ (Below.mono hbw5 (by first | omega | (simp; done) | (simp; omega))) | with_reducible refine Below.trans ?_ (Below.mono hb0 (by first | omega | (simp; done) | (simp; omega))))))).mono ?_
  rintro r w6 ⟨u6, rfl, hG6, hb6⟩
  have hz6 := hb6.size
  have SHb := Lib.hid (SH2.out w6 u6 (hG6.sl (fun _ => rfl)))
  obtain ⟨A7, c7, rfl, hc7, hm7⟩ := hG6.val
  clear hG6
  go_wp2_with fail
  refine SHb.out.mono ?_
  rintro r w7 ⟨u7, rfl, hG7, hb7⟩
  have hz7 := hb7.size
  obtain ⟨gg7, cap7, rfl, hgl7, hgh7⟩ := hG7.block hpy'
  go_wp2_with (first | (at_builtin; refine app_plain rtCm (by rfl) (.tmp 48) (.tmp 54) (by rfl) W0.heap.size (.slice (some ⟨g5, 0, none⟩) _ cap5) ([(cIf, 0)] ++ sa ++ [([58], -1), (cPrint, (na : Int) + 1)]) (by rfl) ?_ ⟨gg7, 0, none⟩ cap7 sb (by rfl) hG7.cells hpy' ?_ ?_ ?_; exact ((hG5.ext hb6).ext hb7).len (by simp) rfl; (simp; omega); omega; intro g8 cap8 w8 hG8 hgr8 hat8) | fail)
  go_ret
  exact ⟨_, rfl, by rw [HCS.out]; exact (hG8.less (Nat.le_of_lt hz0)).len (by first | omega | (simp; done) | (simp only [List.length_cons, List.length_nil, List.length_append]; omega) | (simp; omega)) rfl, by (repeat (first | with_reducible assumption | with_reducible exact Below.refl _ _ | with_reducible refine Below.setCell ?_ (by first | omega | (simp; done) | (simp; omega)) _ | with_reducible refine Below.alloc ?_ (by first | omega | (simp; done) | (simp; omega)) _ | with_reducible refine below_drewN ?_ _ | with_reducible refine Below.drew ?_ | with_reducible refine Below.trans ?_ (Below.mono hb7 (by first | omega | (simp; done) | (simp; omega))) | with_reducible refine Below.trans ?_ (Below.mono hb6 (by first | omega | (simp; done) | (simp; omega))) | with_reducible refine Below.trans ?_ (Below.mono hbw5 (by first | omega | (simp; done) | (simp; omega))) | with_reducible refine Below.trans ?_ (Below.mono hb0 (by first | omega | (simp; done) | (simp; omega))) | with_reducible refine below_app ?_ hgr8 (by intro q hq; simp [Value.ownBlock] at hq; omega) (by first | omega | (simp; done) | (simp; omega))))⟩
/-- the words that a line is turned into, each with whence it came -/
theorem spLine_any (s : SE) (hf : s.form) : LnP s := by
  cases s with
  | none => exact ln_none
  | slet nm t e => exact ln_let nm t e hf.2
  | say e => exact ln_say e hf
  | when a b => exact ln_when a b hf.1 hf.2
end Go.Proofs.YtgfbjpmbaibnoaaGreatDoor


/- What a line is turned into: its text, and whence each word came. -/
namespace Go.Proofs.YtgfbjpmbaibnoaaGreatDoor
set_option maxRecDepth 100000
set_option linter.unusedSimpArgs false
set_option linter.unusedVariables false
open Go.RowKit
attribute [local go_sem] bs_toList bs_get bs_size

theorem dj_ne {n t : Value} (h : DJ n t) : t.ownBlock = none ∨ t.ownBlock ≠ n.ownBlock := by
  rcases hq : t.ownBlock with _ | q
  · exact .inl rfl
  · exact .inr (fun e => h q e.symm hq)
theorem dj_sym {n t : Value} (h : DJ n t) : DJ t n := fun b hb e => h b e hb
/-- what EmitLine gives for a line that is right -/
def EmP (s : SE) (w : World) (e : Ending) (w' : World) : Prop := ∃ (u : Value) (m : List Int), e = .returned (.tuple #[.string (bs (joinL (s.came.map Prod.fst))), u]) ∧ GtI w.heap.size w' u m ∧ m.length = s.came.length ∧ Below w.heap.size w w'
set_option maxHeartbeats 4000000 in
theorem spEmit_any (s : SE) (h : s.ok) (v : Value) (w : World) (hv : SmV w w.heap.size v s.sm) : Calls Tryz.prog 225 #[v] w (EmP s w) := by
  have hf := h.1
  have OK := Lib.hid (fun (w' : World) (h : Below w.heap.size w w') => spStmtOk_any s.sm v w' ((hv.keep h (Nat.le_refl _)).more h.size))
  rw [smOkB_yes h] at OK
  have LN := Lib.hid (fun (w' : World) (h : Below w.heap.size w w') => spLine_any s hf v w' ((hv.keep h (Nat.le_refl _)).more h.size))
  have L5 := Lib.hid (fun (w' : World) (h : Below w.heap.size w w') => spL5_any s.sm v w' (formSB_iff.2 ⟨s, rfl, hf⟩) ((hv.keep h (Nat.le_refl _)).more h.size))
  rw [smWords_se hf] at L5
  have hco := SE.came_ok s hf
  have hcl := SE.came_len s hf
  have hwl := SE.words_len hf
  have hws := SE.words_short hf
  have CO := Lib.hid (fun (w' : World) (u : Value) (hu : SlB w' w'.heap.size u s.words) => spCols_any s.words u w' hu (by omega) (fun t ht => (hws t ht).2))
  have htx : (joinL (s.came.map Prod.fst)).length ≤ 100000000 := by have := SE.came_text s; have := h.2; omega
  obtain ⟨A1, A2, c1, c2, rfl, hn, ht, hE1, hE2⟩ := hv.form2
  unfold EmP
  clear hE1 hE2 hv hws h hf
  generalize s.came = cm at *
  generalize s.words = wd at *
  generalize s.sm = sm at *
  have HCO := Lib.hid hco
  clear hco
  go_enter Tryz.func225, Tryz.ntmps225
  go_wp2_with fail
  refine (OK.out _ (by (repeat (first | with_reducible assumption | with_reducible exact Below.refl _ _ | with_reducible refine Below.setCell ?_ (by first | omega | (simp; done) | (simp; omega)) _ | with_reducible refine Below.alloc ?_ (by first | omega | (simp; done) | (simp; omega)) _ | with_reducible refine below_drewN ?_ _ | with_reducible refine Below.drew ?_)))).mono ?_
  rintro r w1 ⟨rfl, hb1⟩
  have hz1 := hb1.size
  (try simp at hz1)
  have k1_0 := fun o => hb1.cell (p := ⟨w.heap.size, o, none⟩) (by first | omega | (simp; done) | (simp; omega)); have k1f_0 := fun o => hb1.frozen (p := ⟨w.heap.size, o, none⟩) (by first | omega | (simp; done) | (simp; omega))
  have hbw1 : Below w.heap.size w w1 := by (repeat (first | with_reducible assumption | with_reducible exact Below.refl _ _ | with_reducible refine Below.setCell ?_ (by first | omega | (simp; done) | (simp; omega)) _ | with_reducible refine Below.alloc ?_ (by first | omega | (simp; done) | (simp; omega)) _ | with_reducible refine below_drewN ?_ _ | with_reducible refine Below.drew ?_ | with_reducible refine Below.trans ?_ (Below.mono hb1 (by first | omega | (simp; done) | (simp; omega)))))
  go_wp2_with fail
  refine (LN.out _ hbw1).mono ?_
  rintro r w2 ⟨u2, rfl, hG2, hb2⟩
  have hz2 := hb2.size
  have hlt1 : w.heap.size < w1.heap.size := by omega
  have k2_0 := fun o => hb2.cell (p := ⟨w.heap.size, o, none⟩) (by first | omega | (simp; done) | (simp; omega)); have k2f_0 := fun o => hb2.frozen (p := ⟨w.heap.size, o, none⟩) (by first | omega | (simp; done) | (simp; omega))
  have hbw2 := hbw1.ext hb2
  go_wp2_with fail
  refine (L5.out _ hbw2).mono ?_
  rintro r w3 ⟨u3, rfl, hG3, hb3⟩
  have C3 := Lib.hid (CO.out w3 u3 (hG3.sl (fun _ => rfl)))
  obtain ⟨A3, c3, rfl, _, _⟩ := hG3.val
  have hbw3 := hbw2.ext hb3
  have hG2 := hG2.ext hb3
  clear hG3
  go_wp2_with fail
  refine C3.out.mono ?_
  rintro r w4 ⟨u4, mc, rfl, hG4, hmc, hb4⟩
  have hbw4 := hbw3.ext hb4
  have hS2 := (hG2.ext hb4).sl (fun _ => rfl)
  have hS4 := hG4.sl (fun _ => rfl)
  obtain ⟨A5, c5, rfl, _, _⟩ := hG2.val
  obtain ⟨A6, c6, rfl, _, _⟩ := hG4.val
  clear hG2 hG4
  go_wp2_with fail
  go_loopg [6, 7, 8] cm.length (fun k o f i wr => ∃ (j : Nat) (m : List Int), k = cm.length - j ∧ j ≤ cm.length ∧ i = .int .i64 j ∧ GtS w4.heap.size wr o ((cm.take j).map Prod.fst) ∧ GtI w4.heap.size wr f m ∧ m.length = j ∧ DJ o f ∧ Below w4.heap.size w4 wr)
  case atStart =>
    refine ⟨0, [], by omega, by omega, rfl, ?_, ?_, rfl, ?_, by (repeat (first | with_reducible assumption | with_reducible exact Below.refl _ _ | with_reducible refine Below.setCell ?_ (by first | omega | (simp; done) | (simp; omega)) _ | with_reducible refine Below.alloc ?_ (by first | omega | (simp; done) | (simp; omega)) _ | with_reducible refine below_drewN ?_ _ | with_reducible refine Below.drew ?_))⟩
    · exact gt_empty strRow 1 9 (B := w4.heap.size) w4 ((w4.alloc (.cells #[] 9)).alloc (.cells #[] 3)) (Nat.le_refl _) (by (repeat (first | with_reducible assumption | with_reducible exact Below.refl _ _ | with_reducible refine Below.setCell ?_ (by first | omega | (simp; done) | (simp; omega)) _ | with_reducible refine Below.alloc ?_ (by first | omega | (simp; done) | (simp; omega)) _ | with_reducible refine below_drewN ?_ _ | with_reducible refine Below.drew ?_)))
    · have h := gt_empty intRow 1 3 (B := w4.heap.size) (w4.alloc (.cells #[] 9)) ((w4.alloc (.cells #[] 9)).alloc (.cells #[] 3)) (by simp) (by rw [← World.size_alloc (w4.alloc (.cells #[] 9)) (.cells #[] 3)]; exact Below.refl _ _)
      rwa [World.size_alloc] at h
    · intro b hb e
      simp [Value.ownBlock] at hb e
      omega
  case round =>
    obtain ⟨j, m, hk, hj, rfl, hW, hF, hmj, hD, hbl⟩ := hrel
    have HK := Lib.hid (And.intro hk (And.intro hmj hD))
    have hz := hbl.size
    have hmj2 : m.length ≤ 130 := by omega
    clear hk hD hmj
    by_cases hlt : j < cm.length
    rotate_left
    · obtain rfl : j = cm.length := by omega
      rw [List.take_length] at hW
      obtain ⟨wl, hwl2⟩ : ∃ wl, wl = cm.map Prod.fst := ⟨_, rfl⟩
      rw [← hwl2] at hW htx
      have HWL := Lib.hid hwl2
      clear hwl2
      have TX := Lib.hid (spTokText_any _ _ wr (hW.sl (fun _ => rfl)) htx)
      obtain ⟨Au, cu, rfl, _, _⟩ := hW.val
      obtain ⟨Af, cf, rfl, _, _⟩ := hF.val
      have HF := Lib.hid hF
      clear hW hF
      go_wp2_with fail
      refine TX.out.mono ?_
      rintro r _ ⟨rfl, rfl⟩
      go_wp2_with fail
      refine bodyPost_ret (v := .tuple #[.string (bs (joinL wl)), .slice Af m.length cf]) (by simp [results, Tryz.results225, go_sem, *]) rfl ?_
      exact ⟨_, m, by rw [HWL.out], HF.out.less hbw4.size, HK.out.2.1, hbw4.ext hbl⟩
    · obtain ⟨b, o, sx, mx, rfl, hbb, hg, f0, f1⟩ := src_at hS2 hlt
      have g0 := f0 ⟨wr, hbl⟩; have g1 := f1 ⟨wr, hbl⟩
      obtain ⟨_, hx1, hx2⟩ := HCO.out _ (List.mem_of_getElem? hg)
      simp only at hx1 hx2
      have KF := Lib.hid (fun (w' : World) (h : Below w4.heap.size w4 w') => And.intro (f0 ⟨w', h⟩) (f1 ⟨w', h⟩))
      have HT := Lib.hid (show (cm.take (j + 1)).map Prod.fst = (cm.take j).map Prod.fst ++ [sx] by
        obtain ⟨hj2, hge⟩ := List.getElem?_eq_some_iff.1 hg
        rw [List.take_succ_eq_append_getElem hj2, List.map_append, hge]
        rfl)
      have hlw : ((cm.take j).map Prod.fst).length = j := by simp; omega
      have HLW := Lib.hid hlw
      have hlw2 : ((cm.take j).map Prod.fst).length ≤ 130 := by omega
      generalize (cm.take j).map Prod.fst = wl at *
      obtain ⟨Au, cu, rfl, _, _⟩ := hW.val
      obtain ⟨Af, cf, rfl, _, _⟩ := hF.val
      have hownW : ∀ q, (Value.slice Au wl.length cu).ownBlock = some q → w4.heap.size ≤ q := fun q hq => (hW.lt hq).1
      have HW := Lib.hid (And.intro hW (And.intro hF hownW))
      clear hW hF hownW hg f0 f1 hlw
      by_cases hneg : mx < 0
      · have tok1 : True := trivial
        go_wp2_with (first
          | (have tk := tok1; at_builtin; refine aps_plain (by rfl) (.tmp 26) (.tmp 32) (by rfl) w4.heap.size (.slice Au wl.length cu) wl (by rfl) (HW.out.1.ext (by (repeat (first | with_reducible assumption | with_reducible exact Below.refl _ _ | with_reducible refine Below.setCell ?_ (by first | omega | (simp; done) | (simp; omega)) _ | with_reducible refine Below.alloc ?_ (by first | omega | (simp; done) | (simp; omega)) _ | with_reducible refine below_drewN ?_ _ | with_reducible refine Below.drew ?_)))) ⟨wr.heap.size, 0, none⟩ 1 [sx] (by rfl) (World.news_of_block (heap_alloc_new wr _)) Nat.zero_lt_one (by simp; omega) (by simp; omega) ?_; intro ga capa wa hGa hgra hata; clear tk tok1; have hza := hgra.size; (try simp at hza); have hba : Below w4.heap.size w4 wa := below_app (by (repeat (first | with_reducible assumption | with_reducible exact Below.refl _ _ | with_reducible refine Below.setCell ?_ (by first | omega | (simp; done) | (simp; omega)) _ | with_reducible refine Below.alloc ?_ (by first | omega | (simp; done) | (simp; omega)) _ | with_reducible refine below_drewN ?_ _ | with_reducible refine Below.drew ?_ | with_reducible refine Below.trans ?_ (Below.mono hbl (by first | omega | (simp; done) | (simp; omega)))))) hgra (fun q hq => HW.out.2.2 q hq) (by simp; omega); obtain ⟨x0, x1⟩ := KF.out wa hba; have hFa := (HW.out.2.1.ext (w' := wr.alloc (.cells #[.string (bs sx)] 9)) (by (repeat (first | with_reducible assumption | with_reducible exact Below.refl _ _ | with_reducible refine Below.setCell ?_ (by first | omega | (simp; done) | (simp; omega)) _ | with_reducible refine Below.alloc ?_ (by first | omega | (simp; done) | (simp; omega)) _ | with_reducible refine below_drewN ?_ _ | with_reducible refine Below.drew ?_)))).grown hgra (dj_ne HK.out.2.2))
          | (have tk := hgra; at_builtin; refine app_plain rtI (by rfl) (.tmp 40) (.tmp 41) (by rfl) w4.heap.size (.slice Af m.length cf) m (by rfl) (hFa.ext (by (repeat (first | with_reducible assumption | with_reducible exact Below.refl _ _ | with_reducible refine Below.setCell ?_ (by first | omega | (simp; done) | (simp; omega)) _ | with_reducible refine Below.alloc ?_ (by first | omega | (simp; done) | (simp; omega)) _ | with_reducible refine below_drewN ?_ _ | with_reducible refine Below.drew ?_)))) ⟨wa.heap.size, 0, none⟩ 1 [-1] (by rfl) (World.news_of_block (heap_alloc_new wa _)) Nat.zero_lt_one (by simp; omega) (by simp; omega) ?_; intro gb capb wb hGb hgrb hatb)
          | fail)
        have hDa : DJ (.slice (some ⟨ga, 0, none⟩) (wl.length + [sx].length) capa) (.slice Af m.length cf) := DJ.first HK.out.2.2 (HW.out.2.1.ext (w' := wr.alloc (.cells #[.string (bs sx)] 9)) (by (repeat (first | with_reducible assumption | with_reducible exact Below.refl _ _ | with_reducible refine Below.setCell ?_ (by first | omega | (simp; done) | (simp; omega)) _ | with_reducible refine Below.alloc ?_ (by first | omega | (simp; done) | (simp; omega)) _ | with_reducible refine below_drewN ?_ _ | with_reducible refine Below.drew ?_)))) hata
        have hGa' := hGa.ext (w' := wa.alloc (.cells #[.int .i64 (-1)] 3)) (by (repeat (first | with_reducible assumption | with_reducible exact Below.refl _ _ | with_reducible refine Below.setCell ?_ (by first | omega | (simp; done) | (simp; omega)) _ | with_reducible refine Below.alloc ?_ (by first | omega | (simp; done) | (simp; omega)) _ | with_reducible refine below_drewN ?_ _ | with_reducible refine Below.drew ?_)))
        have hDb : DJ (.slice (some ⟨ga, 0, none⟩) (wl.length + [sx].length) capa) (.slice (some ⟨gb, 0, none⟩) (m.length + [(-1 : Int)].length) capb) := hDa.second hGa' hatb
        go_roundg (cm.length - (j + 1))
        case measure => have := HK.out.1; omega
        case rel => exact ⟨j + 1, m ++ [-1], rfl, by omega, by go_num, by rw [HT.out]; exact hGa'.grown hgrb (dj_ne (dj_sym hDa)), hGb, by simp [HK.out.2.1], hDb, below_app (by (repeat (first | with_reducible assumption | with_reducible exact Below.refl _ _ | with_reducible refine Below.setCell ?_ (by first | omega | (simp; done) | (simp; omega)) _ | with_reducible refine Below.alloc ?_ (by first | omega | (simp; done) | (simp; omega)) _ | with_reducible refine below_drewN ?_ _ | with_reducible refine Below.drew ?_ | with_reducible refine Below.trans ?_ (Below.mono hba (by first | omega | (simp; done) | (simp; omega)))))) hgrb (fun q hq => (hFa.lt hq).1) (by simp; omega)⟩
      · obtain ⟨a, rfl⟩ := Int.eq_ofNat_of_zero_le (show 0 ≤ mx by omega)
        have hac : a < mc.length := by omega
        obtain ⟨b2, o2, xc, rfl, hb2c, hg2, h0⟩ := num_at hS4 hac
        have KC := Lib.hid (fun (w' : World) (h : Below w4.heap.size w4 w') => h0 ⟨w', h⟩)
        have hneg2 : decide ((a : Int) < 0) = false := by simp
        clear h0 hg2 hneg
        have tok1 : True := trivial
        go_wp2_with (first
          | (have tk := tok1; at_builtin; refine aps_plain (by rfl) (.tmp 26) (.tmp 32) (by rfl) w4.heap.size (.slice Au wl.length cu) wl (by rfl) (HW.out.1.ext (by (repeat (first | with_reducible assumption | with_reducible exact Below.refl _ _ | with_reducible refine Below.setCell ?_ (by first | omega | (simp; done) | (simp; omega)) _ | with_reducible refine Below.alloc ?_ (by first | omega | (simp; done) | (simp; omega)) _ | with_reducible refine below_drewN ?_ _ | with_reducible refine Below.drew ?_)))) ⟨wr.heap.size, 0, none⟩ 1 [sx] (by rfl) (World.news_of_block (heap_alloc_new wr _)) Nat.zero_lt_one (by simp; omega) (by simp; omega) ?_; intro ga capa wa hGa hgra hata; clear tk tok1; have hza := hgra.size; (try simp at hza); have hba : Below w4.heap.size w4 wa := below_app (by (repeat (first | with_reducible assumption | with_reducible exact Below.refl _ _ | with_reducible refine Below.setCell ?_ (by first | omega | (simp; done) | (simp; omega)) _ | with_reducible refine Below.alloc ?_ (by first | omega | (simp; done) | (simp; omega)) _ | with_reducible refine below_drewN ?_ _ | with_reducible refine Below.drew ?_ | with_reducible refine Below.trans ?_ (Below.mono hbl (by first | omega | (simp; done) | (simp; omega)))))) hgra (fun q hq => HW.out.2.2 q hq) (by simp; omega); obtain ⟨x0, x1⟩ := KF.out wa hba; have x2 := KC.out wa hba; have hFa := (HW.out.2.1.ext (w' := wr.alloc (.cells #[.string (bs sx)] 9)) (by (repeat (first | with_reducible assumption | with_reducible exact Below.refl _ _ | with_reducible refine Below.setCell ?_ (by first | omega | (simp; done) | (simp; omega)) _ | with_reducible refine Below.alloc ?_ (by first | omega | (simp; done) | (simp; omega)) _ | with_reducible refine below_drewN ?_ _ | with_reducible refine Below.drew ?_)))).grown hgra (dj_ne HK.out.2.2))
          | (have tk := hgra; at_builtin; refine app_plain rtI (by rfl) (.tmp 43) (.tmp 52) (by rfl) w4.heap.size (.slice Af m.length cf) m (by rfl) (hFa.ext (by (repeat (first | with_reducible assumption | with_reducible exact Below.refl _ _ | with_reducible refine Below.setCell ?_ (by first | omega | (simp; done) | (simp; omega)) _ | with_reducible refine Below.alloc ?_ (by first | omega | (simp; done) | (simp; omega)) _ | with_reducible refine below_drewN ?_ _ | with_reducible refine Below.drew ?_)))) ⟨wa.heap.size, 0, none⟩ 1 [xc] (by rfl) (World.news_of_block (heap_alloc_new wa _)) Nat.zero_lt_one (by simp; omega) (by simp; omega) ?_; intro gb capb wb hGb hgrb hatb)
          | fail)
        have hDa : DJ (.slice (some ⟨ga, 0, none⟩) (wl.length + [sx].length) capa) (.slice Af m.length cf) := DJ.first HK.out.2.2 (HW.out.2.1.ext (w' := wr.alloc (.cells #[.string (bs sx)] 9)) (by (repeat (first | with_reducible assumption | with_reducible exact Below.refl _ _ | with_reducible refine Below.setCell ?_ (by first | omega | (simp; done) | (simp; omega)) _ | with_reducible refine Below.alloc ?_ (by first | omega | (simp; done) | (simp; omega)) _ | with_reducible refine below_drewN ?_ _ | with_reducible refine Below.drew ?_)))) hata
        have hGa' := hGa.ext (w' := wa.alloc (.cells #[.int .i64 xc] 3)) (by (repeat (first | with_reducible assumption | with_reducible exact Below.refl _ _ | with_reducible refine Below.setCell ?_ (by first | omega | (simp; done) | (simp; omega)) _ | with_reducible refine Below.alloc ?_ (by first | omega | (simp; done) | (simp; omega)) _ | with_reducible refine below_drewN ?_ _ | with_reducible refine Below.drew ?_)))
        have hDb : DJ (.slice (some ⟨ga, 0, none⟩) (wl.length + [sx].length) capa) (.slice (some ⟨gb, 0, none⟩) (m.length + [xc].length) capb) := hDa.second hGa' hatb
        go_roundg (cm.length - (j + 1))
        case measure => have := HK.out.1; omega
        case rel => exact ⟨j + 1, m ++ [xc], rfl, by omega, by go_num, by rw [HT.out]; exact hGa'.grown hgrb (dj_ne (dj_sym hDa)), hGb, by simp [HK.out.2.1], hDb, below_app (by (repeat (first | with_reducible assumption | with_reducible exact Below.refl _ _ | with_reducible refine Below.setCell ?_ (by first | omega | (simp; done) | (simp; omega)) _ | with_reducible refine Below.alloc ?_ (by first | omega | (simp; done) | (simp; omega)) _ | with_reducible refine below_drewN ?_ _ | with_reducible refine Below.drew ?_ | with_reducible refine Below.trans ?_ (Below.mono hba (by first | omega | (simp; done) | (simp; omega)))))) hgrb (fun q hq => (hFa.lt hq).1) (by simp; omega)⟩
end Go.Proofs.YtgfbjpmbaibnoaaGreatDoor
