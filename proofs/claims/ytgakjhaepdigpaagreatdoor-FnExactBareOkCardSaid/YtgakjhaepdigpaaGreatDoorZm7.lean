/- The words of a line, without their kinds: both. -/
import Derived.Test.YtgakjhaepdigpaaGreatDoorTli
import Derived.Test.YtgakjhaepdigpaaGreatDoorZm9
import Derived.Test.YtgakjhaepdigpaaGreatDoorPsT
import Derived.Test.YtgakjhaepdigpaaGreatDoorImWs
import Derived.Test.YtgakjhaepdigpaaGreatDoorRdDr
namespace Go.Proofs.YtgakjhaepdigpaaGreatDoor
set_option maxRecDepth 100000
set_option linter.unusedSimpArgs false
set_option linter.unusedVariables false
open Go.RowKit
attribute [local go_sem] bs_toList bs_get bs_size

theorem tokL_le : ∀ (n : Nat) (s : Bytes) (a : Nat) (l : List Tk), s.length ≤ n → tokL a s = some l → (∀ t ∈ l, t.s.length ≤ s.length) ∧ l.length ≤ s.length
  | _, [], a, l, _, h => by
    rw [tokL_nil] at h
    obtain rfl := Option.some.inj h
    simp
  | 0, c :: r, a, l, hn, h => by simp at hn
  | n + 1, c :: r, a, l, hn, h => by
    simp only [List.length_cons] at hn
    by_cases h32 : c = 32
    · subst h32
      rw [tokL_space] at h
      obtain ⟨h1, h2⟩ := tokL_le n r (a + 1) l (by omega) h
      simp only [List.length_cons]
      exact ⟨fun t ht => by have := h1 t ht; omega, by omega⟩
    · rw [tokL_stepW h32] at h
      split at h
      · cases h
      · rw [Option.map_eq_some_iff] at h
        obtain ⟨m, hm, rfl⟩ := h
        have hp := wlen_pos (c :: r)
        have hl : ((c :: r).drop (wlen (c :: r))).length ≤ n := by rw [List.length_drop, List.length_cons]; omega
        obtain ⟨h1, h2⟩ := tokL_le n _ _ m hl hm
        rw [List.length_drop] at h1 h2
        refine ⟨fun t ht => ?_, by simp only [List.length_cons] at *; omega⟩
        rcases List.mem_cons.1 ht with rfl | ht
        · simp only [List.length_take]; omega
        · have := h1 t ht; omega
/-- what a line's words are told to be -/
def LwP (line : Bytes) (w : World) (e : Ending) (w' : World) : Prop := ∃ (u : Value) (ws : List Bytes) (ok : Bool), e = .returned (.tuple #[u, .bool ok]) ∧ SlB w' w'.heap.size u ws ∧ (∀ s ∈ ws, s.length ≤ 120) ∧ ws.length ≤ 120 ∧ ((ok = true ∧ lineW line = some ws) ∨ (ok = false ∧ lineW line = none)) ∧ Below w.heap.size w w'
theorem lw_of {line : Bytes} {l : List Tk} {ok : Bool} (h : (ok = true ∧ line.length ≤ 120 ∧ tokL 0 line = some l) ∨ (ok = false ∧ l = [] ∧ (120 < line.length ∨ tokL 0 line = none))) :
    (∀ s ∈ l.map Tk.s, s.length ≤ 120) ∧ (l.map Tk.s).length ≤ 120 ∧ ((ok = true ∧ lineW line = some (l.map Tk.s)) ∨ (ok = false ∧ lineW line = none)) := by
  rcases h with ⟨rfl, h1, h2⟩ | ⟨rfl, rfl, h⟩
  · obtain ⟨h3, h4⟩ := tokL_le _ _ _ _ (Nat.le_refl _) h2
    refine ⟨fun s hs => ?_, by rw [List.length_map]; omega, .inl ⟨rfl, by unfold lineW; rw [if_pos h1, h2]; rfl⟩⟩
    obtain ⟨t, ht, rfl⟩ := List.mem_map.1 hs
    have := h3 t ht
    omega
  · refine ⟨by simp, by simp, .inr ⟨rfl, ?_⟩⟩
    unfold lineW
    rcases h with h | h
    · rw [if_neg (by omega)]
    · rw [h]; simp
theorem tk_at {B n c : Nat} {W : World} {A : Option Addr} {l : List Tk} {i : Nat} (h : Sl tkRow 3 W B (.slice A n c) l) (hi : i < l.length) :
    ∃ b o k s a, A = some ⟨b, o, none⟩ ∧ b < B ∧ l[i]? = some ⟨k, s, a⟩ ∧ (∀ x : Later B W, x.w'.cell? ⟨b, o + i * 3, none⟩ = some (.int .i64 k)) ∧ (∀ x : Later B W, x.w'.cell? ⟨b, o + i * 3 + 1, none⟩ = some (.string (bs s))) ∧ (∀ x : Later B W, x.w'.cell? ⟨b, o + i * 3 + 2, none⟩ = some (.int .i64 a)) := by
  obtain ⟨b, o, ⟨k, s, a⟩, rfl, hb, hg, hx⟩ := sl_at h hi
  exact ⟨b, o, k, s, a, rfl, hb, hg, fun x => hx x 0 _ rfl, fun x => hx x 1 _ rfl, fun x => hx x 2 _ rfl⟩
set_option maxHeartbeats 1000000 in
theorem imWordsOf_any (line : Bytes) (w : World) (hs : line.length ≤ 100000000) (hE : EnvA w) : Calls Tryz.prog 56 #[.string (bs line)] w (LwP line w) := by
  have TL := Lib.hid (imTokLine_any line w hs hE)
  clear hE
  obtain ⟨i0, hi, hz0, hz1, hz2⟩ := info_parts infoStr
  have hmk := Lib.hid (fun (m : Nat) (hm : m ≤ 1000) W => run_make_rowN (P := Tryz.prog) 45 9 i0 _ Tryz.underlying45 hi hz0 .i64 .i64 m m (Nat.le_refl _) (by rw [hz2]; omega) (by omega) W)
  rw [hz1] at hmk
  clear hi hz0 hz1 hz2
  go_enter Tryz.func56, Tryz.ntmps56
  go_wp2_with fail
  refine TL.out.mono ?_
  rintro r W ⟨u, m, ok, rfl, hF, hor, hbW⟩
  have hv := hF.sl
  obtain ⟨A, c, rfl, hc, hm⟩ := hv.val
  obtain ⟨L1, L2, L3⟩ := lw_of hor
  have HL := Lib.hid (And.intro L1 (And.intro L2 L3))
  rw [List.length_map] at L2
  have hmk := hmk.out m.length (by omega)
  clear hF hor L1 L3 TL
  go_wp2_with fail
  go_loopg [19] m.length (fun k p wr => ∃ (j : Nat) (cur : Array Value), k = m.length - j ∧ j ≤ m.length ∧ p = .int .i64 j ∧ Blk wr W.heap.size 9 cur ∧ cur.size = m.length ∧ (∀ t x, t < j → m[t]? = some x → cur[t]? = some (.string (bs x.s))) ∧ Below W.heap.size W wr)
  case atStart => exact ⟨0, _, by omega, by omega, rfl, Blk.new _ _ _, by simp [size_madeCells], fun t x h => by omega, by (repeat (first | with_reducible assumption | with_reducible exact Below.refl _ _ | with_reducible refine Below.setCell ?_ (by first | omega | (simp; done) | (simp; omega)) _ | with_reducible refine Below.alloc ?_ (by first | omega | (simp; done) | (simp; omega)) _ | with_reducible refine below_drewN ?_ _ | with_reducible refine Below.drew ?_))⟩
  case round =>
    obtain ⟨j, cur, hk, hj, rfl, hB, hsz, ha, hbl⟩ := hrel
    have HK := Lib.hid (And.intro hk (And.intro hsz ha))
    clear hk hsz ha
    have hbz := hB.lt
    by_cases hlt : j < m.length
    · obtain ⟨b, o, k, s, q, rfl, hb, hg, f0, f1, f2⟩ := tk_at hv hlt
      have g0 := f0 ⟨wr, hbl⟩; have g1 := f1 ⟨wr, hbl⟩; have g2 := f2 ⟨wr, hbl⟩
      have HG := Lib.hid hg
      clear f0 f1 f2 hg
      have hB2 := hB.alloc (.cells #[.int .i64 k, .string (bs s), .int .i64 q] 44)
      obtain ⟨y0, hy0⟩ : ∃ y, (wr.alloc (.cells #[.int .i64 k, .string (bs s), .int .i64 q] 44)).cell? ⟨W.heap.size, j, none⟩ = some y := ⟨_, (hB2.cell _).trans (Array.getElem?_eq_getElem (by have := HK.out.2.1; omega))⟩
      have hfz := hB2.frozen j
      have hne : W.heap.size ≠ wr.heap.size := by omega
      go_wp2_with fail
      go_roundg (m.length - (j + 1))
      case measure => have := HK.out.1; omega
      case rel =>
        refine ⟨j + 1, cur.setIfInBounds j (.string (bs s)), rfl, by omega, by go_num, (hB.set_ j _).alloc _, by simp [HK.out.2.1], fun t x ht hx => ?_, by (repeat (first | with_reducible assumption | with_reducible exact Below.refl _ _ | with_reducible refine Below.setCell ?_ (by first | omega | (simp; done) | (simp; omega)) _ | with_reducible refine Below.alloc ?_ (by first | omega | (simp; done) | (simp; omega)) _ | with_reducible refine below_drewN ?_ _ | with_reducible refine Below.drew ?_ | with_reducible refine Below.trans ?_ (Below.mono hbl (by first | omega | (simp; done) | (simp; omega)))))⟩
        by_cases e : t = j
        · subst e
          rw [HG.out] at hx
          obtain rfl := Option.some.inj hx
          rw [Array.getElem?_setIfInBounds_self_of_lt (by have := HK.out.2.1; omega)]
        · rw [Array.getElem?_setIfInBounds_ne (fun h => e h.symm)]
          exact HK.out.2.2 t x (by omega) hx
    · obtain rfl : j = m.length := by omega
      go_wp2_with fail
      refine bodyPost_ret (v := .tuple #[.slice (some ⟨W.heap.size, 0, none⟩) m.length m.length, .bool ok]) (by simp [results, Tryz.results56, go_sem, *]) rfl ?_
      refine ⟨_, m.map Tk.s, ok, rfl, ⟨some ⟨W.heap.size, 0, none⟩, m.length, by rw [List.length_map], by rw [List.length_map]; exact Nat.le_refl _, by unfold maxLen; omega, fun h0 => ⟨_, 0, rfl, hbz, fun i s hs jj x hx => ?_⟩⟩, HL.out.1, HL.out.2.1, HL.out.2.2, hbW.ext hbl⟩
      rw [List.getElem?_map, Option.map_eq_some_iff] at hs
      obtain ⟨y, hy, rfl⟩ := hs
      have hj0 : jj = 0 := by have := (List.getElem?_eq_some_iff.1 hx).1; simp [strRow] at this; omega
      subst hj0
      simp [strRow] at hx
      subst hx
      rw [Nat.zero_add, Nat.mul_one, Nat.add_zero, hB.cell]
      exact HK.out.2.2 i y (List.getElem?_eq_some_iff.1 hy).1 hy
set_option maxHeartbeats 1000000 in
theorem spList_any (line : Bytes) (w : World) (hs : line.length ≤ 100000000) : Calls Tryz.prog 53 #[.string (bs line)] w (LwP line w) := by
  have TL := Lib.hid (spTokLine_any line w hs)
  go_enter Tryz.func53, Tryz.ntmps53
  go_wp2_with fail
  refine TL.out.mono ?_
  rintro r W ⟨u, m, ok, rfl, hF, hor, hbW⟩
  have hv := hF.sl (fun _ => rfl)
  obtain ⟨A, c, rfl, hc, hm⟩ := hv.val
  obtain ⟨L1, L2, L3⟩ := lw_of hor
  have HL := Lib.hid (And.intro L1 (And.intro L2 L3))
  rw [List.length_map] at L2
  clear hF hor L1 L3 TL
  go_wp2_with fail
  go_loopg [6, 7] m.length (fun k u p wr => ∃ j : Nat, k = m.length - j ∧ j ≤ m.length ∧ p = .int .i64 j ∧ GtS W.heap.size wr u ((m.take j).map Tk.s) ∧ Below W.heap.size W wr)
  case atStart => exact ⟨0, by omega, by omega, rfl, gt_empty strRow 1 9 W _ (Nat.le_refl _) (Below.refl _ _), by (repeat (first | with_reducible assumption | with_reducible exact Below.refl _ _ | with_reducible refine Below.setCell ?_ (by first | omega | (simp; done) | (simp; omega)) _ | with_reducible refine Below.alloc ?_ (by first | omega | (simp; done) | (simp; omega)) _ | with_reducible refine below_drewN ?_ _ | with_reducible refine Below.drew ?_))⟩
  case round =>
    obtain ⟨j, hk, hj, rfl, hG, hbl⟩ := hrel
    have HK := Lib.hid hk
    clear hk
    obtain ⟨Au, cu, rfl, _, _⟩ := id hG.val
    have hlj : ((m.take j).map Tk.s).length = j := by rw [List.length_map, List.length_take]; omega
    by_cases hlt : j < m.length
    · obtain ⟨b, o, k, s, q, rfl, hb, hg, f0, f1, f2⟩ := tk_at hv hlt
      have g1 := f1 ⟨wr, hbl⟩
      have HG := Lib.hid (And.intro hG (show (m.take (j + 1)).map Tk.s = (m.take j).map Tk.s ++ [s] by rw [List.take_add_one, hg]; simp))
      generalize (m.take j).map Tk.s = L at *
      have hzl := hbl.size
      clear f0 f1 f2 hg hG
      go_wp2_with (first | (at_builtin; refine app_plain rtStr (by rfl) (.tmp 20) (.tmp 26) (by rfl) W.heap.size (.slice Au L.length cu) L (by rfl) (HG.out.1.ext (by (repeat (first | with_reducible assumption | with_reducible exact Below.refl _ _ | with_reducible refine Below.setCell ?_ (by first | omega | (simp; done) | (simp; omega)) _ | with_reducible refine Below.alloc ?_ (by first | omega | (simp; done) | (simp; omega)) _ | with_reducible refine below_drewN ?_ _ | with_reducible refine Below.drew ?_)))) ⟨wr.heap.size, 0, none⟩ 1 [s] (by rfl) (World.news_of_block (heap_alloc_new wr _)) Nat.zero_lt_one (by simp; omega) (by simp; omega) ?_; intro g' cap' w3 hG3 hgr3 hat3) | fail)
      have hb3 : Below W.heap.size W w3 := below_app (by (repeat (first | with_reducible assumption | with_reducible exact Below.refl _ _ | with_reducible refine Below.setCell ?_ (by first | omega | (simp; done) | (simp; omega)) _ | with_reducible refine Below.alloc ?_ (by first | omega | (simp; done) | (simp; omega)) _ | with_reducible refine below_drewN ?_ _ | with_reducible refine Below.drew ?_ | with_reducible refine Below.trans ?_ (Below.mono hbl (by first | omega | (simp; done) | (simp; omega)))))) hgr3 (fun q hq => (HG.out.1.lt hq).1) (by simp; omega)
      have HE := Lib.hid (And.intro hG3 hb3)
      clear hG3 hgr3 hat3 hb3
      go_roundg (m.length - (j + 1))
      case measure => have := HK.out; omega
      case rel => exact ⟨j + 1, rfl, by omega, by go_num, by rw [HG.out.2]; exact HE.out.1.len (by first | (simp; done) | (simp; omega)) (by first | (simp; done) | (simp; omega)), HE.out.2⟩
    · obtain rfl : j = m.length := by omega
      rw [List.take_length] at hG
      have HG := Lib.hid hG
      clear hG
      go_wp2_with fail
      refine bodyPost_ret (v := .tuple #[.slice Au ((m.take m.length).map Tk.s).length cu, .bool ok]) (by simp [results, Tryz.results53, go_sem, *]) rfl ?_
      rw [List.take_length]
      exact ⟨_, m.map Tk.s, ok, rfl, HG.out.sl (fun _ => rfl), HL.out.1, HL.out.2.1, HL.out.2.2, hbW.ext hbl⟩
end Go.Proofs.YtgakjhaepdigpaaGreatDoor


/- Trees of the call's own, by value: their blocks lie between two bounds, each once. No program in sight, no condition. -/
namespace Go.Proofs.YtgakjhaepdigpaaGreatDoor
set_option maxRecDepth 100000
set_option linter.unusedSimpArgs false
set_option linter.unusedVariables false
open Go.RowKit

def TrM (lo hi : Nat) (w : World) (v : Value) (e : Ex) : Prop :=
  ∃ kv bl, v = .agg #[.int .i64 e.kind, .int .i64 e.n, .string (bs e.s), kv] ∧ e.s.length ≤ 9223372036854775807 ∧ ExO 24 w kv e.kids bl ∧ Own lo hi bl
theorem TrM.ext {lo hi : Nat} {w w' : World} {v : Value} {e : Ex} (h : TrM lo hi w v e) (hb : Ext w w') : TrM lo hi w' v e := by
  obtain ⟨kv, bl, h1, h2, h3, h4⟩ := h; exact ⟨kv, bl, h1, h2, h3.ext hb, h4⟩
theorem TrM.same {lo hi : Nat} {w w' : World} {v : Value} {e : Ex} (h : TrM lo hi w v e) (hb : ∀ b, lo ≤ b → b < hi → w'.heap[b]? = w.heap[b]?) : TrM lo hi w' v e := by
  obtain ⟨kv, bl, h1, h2, h3, h4⟩ := h; exact ⟨kv, bl, h1, h2, h3.same (fun b hbm => hb b (h4.1 b hbm).1 (h4.1 b hbm).2), h4⟩
theorem TrM.widen {lo hi lo' hi' : Nat} {w : World} {v : Value} {e : Ex} (h : TrM lo hi w v e) (h1 : lo' ≤ lo) (h2 : hi ≤ hi') : TrM lo' hi' w v e := by
  obtain ⟨kv, bl, a1, a2, a3, a4⟩ := h; exact ⟨kv, bl, a1, a2, a3, a4.widen h1 h2⟩
theorem TrM.exv {lo hi : Nat} {w : World} {v : Value} {e : Ex} (h : TrM lo hi w v e) : ExV w w.heap.size v e := by
  obtain ⟨kv, bl, h1, h2, h3, h4⟩ := h; exact ⟨kv, h1, h2, h3.exs⟩
theorem TrM.form {lo hi : Nat} {w : World} {v : Value} {e : Ex} (h : TrM lo hi w v e) : ∃ (A : Option Addr) (c : Nat), v = .agg #[.int .i64 e.kind, .int .i64 e.n, .string (bs e.s), .slice A e.kids.length c] ∧ e.kids.length ≤ c ∧ c ≤ 9223372036854775807 ∧ e.s.length ≤ 9223372036854775807 := by
  obtain ⟨kv, bl, rfl, h2, h3, h4⟩ := h
  obtain ⟨A, c, rfl, hc, hm⟩ := h3.exs.val
  exact ⟨A, c, rfl, hc, hm, h2⟩
theorem TrM.leaf (lo hi : Nat) (w : World) (k n : Int) (s : Bytes) (hs : s.length ≤ 9223372036854775807) : TrM lo hi w (.agg #[.int .i64 k, .int .i64 n, .string (bs s), .slice none 0 0]) (.mk k n s []) :=
  ⟨_, [], rfl, hs, .nil none 0 (by unfold maxLen; omega), Own.nil _ _⟩
theorem TrM.one {lo hi hi' g : Nat} {w : World} {e0 : Ex} {kv0 : Value} {k n : Int} {s : Bytes} (h : TrM lo hi w (.agg #[.int .i64 e0.kind, .int .i64 e0.n, .string (bs e0.s), kv0]) e0) (hs : s.length ≤ 9223372036854775807)
    (hb : Blk w g 24 #[.int .i64 e0.kind, .int .i64 e0.n, .string (bs e0.s), kv0]) (h1 : hi ≤ g) (h2 : lo ≤ g) (h3 : g < hi') : TrM lo hi' w (.agg #[.int .i64 k, .int .i64 n, .string (bs s), .slice (some ⟨g, 0, none⟩) 1 1]) (.mk k n s [e0]) := by
  obtain ⟨kv, bl, he, hs0, hO, hOw⟩ := h
  have hkv : kv0 = kv := by simpa using he
  subst hkv
  refine ⟨_, g :: [bl].flatten, rfl, hs, exO_one hs0 hO hb, ?_⟩
  simp only [List.flatten_cons, List.flatten_nil, List.append_nil]
  exact hOw.snoc h1 h2 h3
theorem exO_two {w : World} {g : Nat} {bl bl' : List Nat} {e0 e1 : Ex} {kv0 kv1 : Value} (hs : e0.s.length ≤ 9223372036854775807) (hs' : e1.s.length ≤ 9223372036854775807) (hO : ExO 24 w kv0 e0.kids bl) (hO' : ExO 24 w kv1 e1.kids bl')
    (hb : Blk w g 24 #[.int .i64 e0.kind, .int .i64 e0.n, .string (bs e0.s), kv0, .int .i64 e1.kind, .int .i64 e1.n, .string (bs e1.s), kv1]) : ExO 24 w (.slice (some ⟨g, 0, none⟩) 2 2) [e0, e1] (g :: [bl, bl'].flatten) := by
  refine .mk g 2 _ [⟨e0.kind, e0.n, e0.s, kv0⟩, ⟨e1.kind, e1.n, e1.s, kv1⟩] [e0, e1] [bl, bl'] (by simp) (by simp) (by unfold maxLen; omega) hb rfl rfl ?_ ?_ ?_
  · intro i f hf j x hx
    have hj : j < 4 := (List.getElem?_eq_some_iff.1 hx).1
    rcases i with _ | _ | i
    · simp at hf; subst hf
      match j, hj with
      | 0, _ | 1, _ | 2, _ | 3, _ => simpa [feRow] using hx
    · simp at hf; subst hf
      match j, hj with
      | 0, _ | 1, _ | 2, _ | 3, _ => simpa [feRow] using hx
    · simp at hf
  · intro i f e hf he
    rcases i with _ | _ | i
    · simp at hf he; subst hf he; exact ⟨rfl, rfl, rfl, hs⟩
    · simp at hf he; subst hf he; exact ⟨rfl, rfl, rfl, hs'⟩
    · simp at hf
  · intro i f e b hf he hb2
    rcases i with _ | _ | i
    · simp at hf he hb2; subst hf he hb2; exact hO
    · simp at hf he hb2; subst hf he hb2; exact hO'
    · simp at hf
theorem TrM.two {lo mid hi hi' g : Nat} {w : World} {e0 e1 : Ex} {kv0 kv1 : Value} {k n : Int} {s : Bytes} (h : TrM lo mid w (.agg #[.int .i64 e0.kind, .int .i64 e0.n, .string (bs e0.s), kv0]) e0) (h' : TrM mid hi w (.agg #[.int .i64 e1.kind, .int .i64 e1.n, .string (bs e1.s), kv1]) e1) (hs : s.length ≤ 9223372036854775807)
    (hb : Blk w g 24 #[.int .i64 e0.kind, .int .i64 e0.n, .string (bs e0.s), kv0, .int .i64 e1.kind, .int .i64 e1.n, .string (bs e1.s), kv1]) (h0 : lo ≤ mid) (h1 : mid ≤ hi) (h2 : hi ≤ g) (h3 : g < hi') : TrM lo hi' w (.agg #[.int .i64 k, .int .i64 n, .string (bs s), .slice (some ⟨g, 0, none⟩) 2 2]) (.mk k n s [e0, e1]) := by
  obtain ⟨kv, bl, he, hs0, hO, hOw⟩ := h
  obtain ⟨kv', bl', he', hs0', hO', hOw'⟩ := h'
  have hkv : kv0 = kv := by simpa using he
  have hkv' : kv1 = kv' := by simpa using he'
  subst hkv hkv'
  refine ⟨_, g :: [bl, bl'].flatten, rfl, hs, exO_two hs0 hs0' hO hO' hb, ?_⟩
  simp only [List.flatten_cons, List.flatten_nil, List.append_nil]
  exact (hOw.append hOw' (Nat.le_refl _) h0 h1).snoc h2 (by omega) h3
end Go.Proofs.YtgakjhaepdigpaaGreatDoor
