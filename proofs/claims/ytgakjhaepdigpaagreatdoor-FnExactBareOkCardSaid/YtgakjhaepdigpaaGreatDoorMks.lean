/- The marks of trees: the word of a mark, plain trees of marks. -/
import Derived.Test.YtgakjhaepdigpaaGreatDoorZm13
import Derived.Test.YtgakjhaepdigpaaGreatDoorBas
import Derived.Test.YtgakjhaepdigpaaGreatDoorExLaw2
namespace Go.Proofs.YtgakjhaepdigpaaGreatDoor
set_option maxRecDepth 100000
set_option linter.unusedSimpArgs false
set_option linter.unusedVariables false
open Go.RowKit
attribute [local go_sem] bs_toList bs_get bs_size

/-- a number above nought in decimals, nought as nothing -/
def decZ (n : Nat) : Bytes := if n = 0 then [] else decL n
theorem decZ_div {n : Nat} (h : 0 < n) : decZ (n / 10) ++ [digC (n % 10)] = decZ n := by
  unfold decZ
  rw [if_neg (by omega : ¬ n = 0)]
  by_cases h9 : n < 10
  · rw [if_pos (by omega), decL_lt h9]
    simp [digC, Nat.mod_eq_of_lt h9]
  · rw [if_neg (by omega), decL_ge h9]
    rfl
def mkW (n : Nat) : Bytes := 109 :: decL n
theorem mkW_len {n : Nat} (h : n ≤ 100000000) : (mkW n).length ≤ 10 := by
  have := decL_len 8 n (by omega)
  simp only [mkW, List.length_cons]
  omega
theorem markText_any (n : Nat) (h1 : 1 ≤ n) (hn : n ≤ 100000000) (w : World) : Calls Tryz.prog 103 #[.int .i64 (n : Int)] w fun e w' => e = .returned (.string (bs (mkW n))) ∧ Below w.heap.size w w' := by
  have d1 : decide ((n : Int) ≤ 0) = false := by simp; omega
  go_enter Tryz.func103, Tryz.ntmps103
  go_wp2_with fail
  go_loopg [0, 3] n (fun g a o wr => ∃ (k : Nat) (out : Bytes), g = k ∧ k ≤ n ∧ a = .int .i64 k ∧ o = .string (bs out) ∧ decZ k ++ out = decL n ∧ Below w.heap.size w wr)
  case atStart => exact ⟨n, [], rfl, Nat.le_refl _, rfl, rfl, by simp [decZ]; omega, Below.refl _ _⟩
  case round =>
    obtain ⟨k, out, rfl, hk, rfl, rfl, he, hb⟩ := hrel
    have hl : out.length ≤ 10 := by
      have h1 := congrArg List.length he
      have h2 := decL_len 8 n (by omega)
      rw [List.length_append] at h1
      omega
    have HE := Lib.hid he
    have hz := hb.size
    clear he
    have hl2 : ¬ 9223372036854775807 < 1 + out.length := by omega
    have hl3 : 1 + out.length ≤ 9223372036854775807 := by omega
    by_cases h9 : 0 < gk
    · have d3 : decide ((0 : Int) < gk) = true := by simp; omega
      have hcv := conv1 (wr.alloc (.cells #[.int .u8 (48 + (gk : Int) % 10)] 5)) wr.heap.size (gk % 10) (by omega) ((gk : Int) % 10) (by omega) (by simp)
      go_wp2_with fail
      go_roundg (gk / 10)
      case measure => omega
      case rel => exact ⟨gk / 10, digC (gk % 10) :: out, rfl, by omega, by go_num, by rw [bs_append]; rfl, by rw [← HE.out, ← decZ_div h9]; simp, by (repeat (first | with_reducible assumption | with_reducible exact Below.refl _ _ | with_reducible refine Below.setCell ?_ (by first | omega | (simp; done) | (simp; omega)) _ | with_reducible refine Below.alloc ?_ (by first | omega | (simp; done) | (simp; omega)) _ | with_reducible refine below_drewN ?_ _ | with_reducible refine Below.drew ?_ | with_reducible refine Below.trans ?_ (Below.mono hb (by first | omega | (simp; done) | (simp; omega)))))⟩
    · obtain rfl : gk = 0 := by omega
      have he := HE.out
      simp [decZ] at he
      subst he
      have hl4 : ¬ 9223372036854775807 < 1 + (decL n).length := by omega
      go_wp2_with fail
      go_ret
      exact ⟨ret_cat rfl, by (repeat (first | with_reducible assumption | with_reducible exact Below.refl _ _ | with_reducible refine Below.setCell ?_ (by first | omega | (simp; done) | (simp; omega)) _ | with_reducible refine Below.alloc ?_ (by first | omega | (simp; done) | (simp; omega)) _ | with_reducible refine below_drewN ?_ _ | with_reducible refine Below.drew ?_ | with_reducible refine Below.trans ?_ (Below.mono hb (by first | omega | (simp; done) | (simp; omega)))))⟩
end Go.Proofs.YtgakjhaepdigpaaGreatDoor


/- The marks of trees: plain lists of marked trees, rows of trees in memory of the call's own. No condition. -/
namespace Go.Proofs.YtgakjhaepdigpaaGreatDoor
set_option maxRecDepth 100000
set_option linter.unusedSimpArgs false
set_option linter.unusedVariables false
open Go.RowKit

/-- how many parts lie below a tree's root -/
def Ex.nd : Ex → Nat
  | .mk _ _ _ kids => kids.length + (kids.attach.map (fun x => Ex.nd x.1)).sum
termination_by e => SizeOf.sizeOf e
decreasing_by
  have := List.sizeOf_lt_of_mem x.2
  simp
  omega
def ndL (l : List Ex) : Nat := l.length + (l.map Ex.nd).sum
theorem Ex.nd_mk (k n : Int) (s : Bytes) (l : List Ex) : (Ex.mk k n s l).nd = ndL l := by
  rw [Ex.nd, ndL, List.attach_map_val]
theorem Ex.nd_kids (e : Ex) : e.nd = ndL e.kids := by cases e; exact Ex.nd_mk ..
theorem Ex.nd_le : ∀ (n : Nat) (e : Ex), SizeOf.sizeOf e ≤ n → e.nd ≤ e.wt
  | 0, .mk _ _ _ _, h => by simp at h
  | n + 1, .mk k m s l, h => by
    rw [Ex.nd_mk, Ex.wt_mk, ndL, wtL]
    have key : ∀ q : List Ex, (∀ x ∈ q, x.nd ≤ x.wt) → (q.map Ex.nd).sum ≤ (q.map Ex.wt).sum := by
      intro q
      induction q with
      | nil => intro _; simp
      | cons a q ih =>
        intro hx
        have h1 := ih (fun x hx' => hx x (List.mem_cons_of_mem _ hx'))
        have h2 := hx a (List.mem_cons_self ..)
        simp only [List.map_cons, List.sum_cons]
        omega
    have := key l (fun x hx => Ex.nd_le n x (by have := List.sizeOf_lt_of_mem hx; simp at h; omega))
    omega
theorem ndL_le (l : List Ex) : ndL l ≤ wtL l := by
  have h := Ex.nd_le _ (.mk 0 0 [] l) (Nat.le_refl _)
  rw [Ex.nd_mk, Ex.wt_mk] at h
  simpa using h
theorem ndL_nil : ndL [] = 0 := rfl
theorem ndL_append (a b : List Ex) : ndL (a ++ b) = ndL a + ndL b := by
  simp only [ndL, List.length_append, List.map_append, List.sum_append]
  omega
theorem ndL_succ {l : List Ex} {i : Nat} {e : Ex} (h : l[i]? = some e) : ndL (l.take (i + 1)) = ndL (l.take i) + 1 + ndL e.kids := by
  have hi := (List.getElem?_eq_some_iff.1 h).1
  have he : l[i] = e := by rw [List.getElem?_eq_getElem hi] at h; exact Option.some.inj h
  have h1 : ndL [e] = 1 + ndL e.kids := by rw [← Ex.nd_kids e]; simp [ndL]
  rw [List.take_succ_eq_append_getElem hi, ndL_append, he, h1]
  omega
theorem ndL_take (l : List Ex) (i : Nat) : ndL (l.take i) ≤ ndL l := by
  have h := congrArg ndL (List.take_append_drop i l)
  rw [ndL_append] at h
  omega
/-- trees as marked from k on -/
inductive Marked : Nat → List Ex → Prop
  | mk (k : Nat) (m : List Ex) (h : ∀ (i : Nat) (e : Ex), m[i]? = some e → e.kind = ((k + 3 * ndL (m.take i) : Nat) : Int) ∧ e.n = ((k + 3 * ndL (m.take i) + 1 : Nat) : Int) ∧ e.s = mkW (k + 3 * ndL (m.take i) + 2))
      (h2 : ∀ (i : Nat) (e : Ex), m[i]? = some e → Marked (k + 3 * ndL (m.take i) + 3) e.kids) : Marked k m
/-- the first i trees of m are marked; behind them stands l; as many parts as in l -/
def MarkTo (k : Nat) (l : List Ex) (i : Nat) (m : List Ex) : Prop :=
  m.length = l.length ∧ (∀ j : Nat, i ≤ j → m[j]? = l[j]?) ∧ ndL (m.take i) = ndL (l.take i) ∧
    (∀ (j : Nat) (e : Ex), j < i → m[j]? = some e → e.kind = ((k + 3 * ndL (m.take j) : Nat) : Int) ∧ e.n = ((k + 3 * ndL (m.take j) + 1 : Nat) : Int) ∧ e.s = mkW (k + 3 * ndL (m.take j) + 2)) ∧
    (∀ (j : Nat) (e : Ex), j < i → m[j]? = some e → Marked (k + 3 * ndL (m.take j) + 3) e.kids)
theorem MarkTo.zero (k : Nat) (l : List Ex) : MarkTo k l 0 l := ⟨rfl, fun _ _ => rfl, rfl, fun _ _ h => absurd h (by omega), fun _ _ h => absurd h (by omega)⟩
theorem MarkTo.all {k : Nat} {l m : List Ex} (h : MarkTo k l l.length m) : Marked k m ∧ ndL m = ndL l := by
  obtain ⟨h1, h2, h3, h4, h5⟩ := h
  refine ⟨.mk k m (fun i e he => h4 i e (by rw [← h1]; exact (List.getElem?_eq_some_iff.1 he).1) he) (fun i e he => h5 i e (by rw [← h1]; exact (List.getElem?_eq_some_iff.1 he).1) he), ?_⟩
  rw [List.take_of_length_le (by omega), List.take_of_length_le (by omega)] at h3
  exact h3
theorem take_set_le {α : Type} (m : List α) {i j : Nat} (h : j ≤ i) (x : α) : (m.set i x).take j = m.take j := List.take_set_of_le h
theorem MarkTo.step {k : Nat} {l m : List Ex} {i : Nat} {e : Ex} {q : List Ex} (h : MarkTo k l i m) (he : l[i]? = some e) (hq : ndL q = ndL e.kids)
    (hm : Marked (k + 3 * ndL (l.take i) + 3) q) : MarkTo k l (i + 1) (m.set i (.mk ((k + 3 * ndL (l.take i) : Nat) : Int) ((k + 3 * ndL (l.take i) + 1 : Nat) : Int) (mkW (k + 3 * ndL (l.take i) + 2)) q)) := by
  obtain ⟨h1, h2, h3, h4, h5⟩ := h
  have hi := (List.getElem?_eq_some_iff.1 he).1
  have hself : (m.set i (.mk ((k + 3 * ndL (l.take i) : Nat) : Int) ((k + 3 * ndL (l.take i) + 1 : Nat) : Int) (mkW (k + 3 * ndL (l.take i) + 2)) q))[i]? = some (.mk ((k + 3 * ndL (l.take i) : Nat) : Int) ((k + 3 * ndL (l.take i) + 1 : Nat) : Int) (mkW (k + 3 * ndL (l.take i) + 2)) q) := List.getElem?_set_self (by omega)
  refine ⟨by simp [h1], fun j hj => ?_, ?_, fun j e' hj he' => ?_, fun j e' hj he' => ?_⟩
  · rw [List.getElem?_set_ne (by omega)]
    exact h2 j (by omega)
  · rw [ndL_succ hself, ndL_succ he, take_set_le _ (Nat.le_refl _), h3]
    change ndL (l.take i) + 1 + ndL q = _
    omega
  · rw [take_set_le _ (by omega)]
    by_cases e1 : j = i
    · subst e1
      rw [hself] at he'
      obtain rfl := Option.some.inj he'
      rw [h3]
      exact ⟨rfl, rfl, rfl⟩
    · rw [List.getElem?_set_ne (by omega)] at he'
      exact h4 j e' (by omega) he'
  · rw [take_set_le _ (by omega)]
    by_cases e1 : j = i
    · subst e1
      rw [hself] at he'
      obtain rfl := Option.some.inj he'
      rw [h3]
      exact hm
    · rw [List.getElem?_set_ne (by omega)] at he'
      exact h5 j e' (by omega) he'

/-! ### what a call turns -/
/-- b is a with the blocks bl turned and more behind -/
def Foot (a b : World) (bl : List Nat) : Prop := b.os = a.os ∧ b.tape = a.tape ∧ b.output = a.output ∧ a.heap.size ≤ b.heap.size ∧ ∀ k, k < a.heap.size → k ∉ bl → b.heap[k]? = a.heap[k]?
theorem Foot.refl (a : World) (bl : List Nat) : Foot a a bl := ⟨rfl, rfl, rfl, Nat.le_refl _, fun _ _ _ => rfl⟩
theorem Foot.trans {a b c : World} {bl : List Nat} (h : Foot a b bl) (k : Foot b c bl) : Foot a c bl :=
  ⟨k.1.trans h.1, k.2.1.trans h.2.1, k.2.2.1.trans h.2.2.1, Nat.le_trans h.2.2.2.1 k.2.2.2.1, fun x hx hn => (k.2.2.2.2 x (Nat.lt_of_lt_of_le hx h.2.2.2.1) hn).trans (h.2.2.2.2 x hx hn)⟩
theorem Foot.more {a b : World} {bl bl' : List Nat} (h : Foot a b bl) (hs : ∀ x ∈ bl, x ∈ bl') : Foot a b bl' :=
  ⟨h.1, h.2.1, h.2.2.1, h.2.2.2.1, fun x hx hn => h.2.2.2.2 x hx (fun hm => hn (hs x hm))⟩
theorem Foot.ext {a b : World} {bl : List Nat} (h : Ext a b) : Foot a b bl := ⟨h.os, h.tape, h.output, h.size, fun k hk _ => h.block k hk⟩
theorem Foot.set_ (a : World) {g : Nat} {bl : List Nat} (hg : g ∈ bl) (i : Nat) (v : Value) : Foot a (a.setCell ⟨g, i, none⟩ v) bl :=
  ⟨rfl, rfl, rfl, by simp [World.setCell], fun k _ hr => Below.heap_setCell a ⟨g, i, none⟩ v k (fun e => hr (by rw [show k = g from e]; exact hg))⟩
theorem Foot.below {a b : World} {bl : List Nat} {B : Nat} (h : Foot a b bl) (hb : ∀ x ∈ bl, B ≤ x) (hB : B ≤ a.heap.size) : Below B a b :=
  ⟨h.1, h.2.1, h.2.2.1, h.2.2.2.1, fun k hk => h.2.2.2.2 k (by omega) (fun hm => by have := hb k hm; omega)⟩

/-- a row of trees of the call's own, apart: its block's cells, its parts, the blocks below each -/
def Lvl (t : TypeId) (w : World) (g : Nat) (cur : Array Value) (fl : List FE) (l : List Ex) (bls : List (List Nat)) : Prop :=
  Blk w g t cur ∧ fl.length = l.length ∧ bls.length = l.length ∧
    (∀ (i : Nat) (f : FE), fl[i]? = some f → ∀ (j : Nat) (x : Value), (feRow f)[j]? = some x → cur[i * 4 + j]? = some x) ∧
    (∀ (i : Nat) (f : FE) (e : Ex), fl[i]? = some f → l[i]? = some e → f.kind = e.kind ∧ f.n = e.n ∧ f.s = e.s ∧ f.s.length ≤ 9223372036854775807) ∧
    (∀ (i : Nat) (f : FE) (e : Ex) (b : List Nat), fl[i]? = some f → l[i]? = some e → bls[i]? = some b → ExO t w f.kv e.kids b)
/-- the part i -/
theorem Lvl.at_ {t : TypeId} {w : World} {g : Nat} {cur : Array Value} {fl : List FE} {l : List Ex} {bls : List (List Nat)} {i : Nat} {e : Ex} (h : Lvl t w g cur fl l bls) (he : l[i]? = some e) :
    ∃ (b : List Nat) (A : Option Addr) (c : Nat), bls[i]? = some b ∧ ExO t w (.slice A e.kids.length c) e.kids b ∧ i * 4 + 4 ≤ cur.size ∧ cur[i * 4 + 3]? = some (.slice A e.kids.length c) := by
  obtain ⟨hb, h1, h2, h3, h4, h5⟩ := h
  have hi := (List.getElem?_eq_some_iff.1 he).1
  have hf : fl[i]? = some fl[i] := List.getElem?_eq_getElem (by omega)
  have hbb : bls[i]? = some bls[i] := List.getElem?_eq_getElem (by omega)
  have hO := h5 i _ e _ hf he hbb
  obtain ⟨A, c, hv⟩ := hO.val
  have h6 := h3 i _ hf 3 _ rfl
  rw [hv] at hO h6
  exact ⟨_, A, c, hbb, hO, by have := (Array.getElem?_eq_some_iff.1 h6).1; omega, h6⟩
/-- apart: a block below part i lies below no other, nor is it the row's own -/
theorem nodup_rows {g : Nat} {bls : List (List Nat)} (h : (g :: bls.flatten).Nodup) {i : Nat} {b : List Nat} (hi : bls[i]? = some b) :
    b.Nodup ∧ g ∉ b ∧ ∀ (j : Nat) (c : List Nat), j ≠ i → bls[j]? = some c → ∀ x ∈ c, x ∉ b ∧ x ≠ g := by
  rw [List.nodup_cons] at h
  obtain ⟨hg, hn⟩ := h
  have hbm := List.mem_of_getElem? hi
  have hgm : ∀ c ∈ bls, g ∉ c := fun c hc hx => hg (List.mem_flatten.2 ⟨c, hc, hx⟩)
  rw [List.Nodup, List.pairwise_flatten] at hn
  refine ⟨hn.1 b hbm, hgm b hbm, fun j c hj hc x hx => ⟨fun hxb => ?_, fun e => hgm c (List.mem_of_getElem? hc) (e ▸ hx)⟩⟩
  have hp := List.pairwise_iff_getElem.1 hn.2
  obtain ⟨hil, rfl⟩ := List.getElem?_eq_some_iff.1 hi
  obtain ⟨hjl, rfl⟩ := List.getElem?_eq_some_iff.1 hc
  rcases Nat.lt_or_gt_of_ne hj with h1 | h1
  · exact hp j i hjl hil h1 x hx x hxb rfl
  · exact hp i j hil hjl h1 x hxb x hx rfl
/-- one part put anew -/
theorem Lvl.put {t : TypeId} {w w' : World} {g : Nat} {cur : Array Value} {fl : List FE} {l : List Ex} {bls : List (List Nat)} {i : Nat} {e : Ex} {b : List Nat} {k n : Int} {s : Bytes} {kv : Value} {q : List Ex}
    (h : Lvl t w g cur fl l bls) (hn : (g :: bls.flatten).Nodup) (he : l[i]? = some e) (hbb : bls[i]? = some b) (hs : s.length ≤ 9223372036854775807) (hB : Blk w' g t (putRow cur (i * 4) (feRow ⟨k, n, s, kv⟩))) (hO : ExO t w' kv q b)
    (hk : ∀ x, x < w.heap.size → x ≠ g → x ∉ b → w'.heap[x]? = w.heap[x]?) :
    Lvl t w' g (putRow cur (i * 4) (feRow ⟨k, n, s, kv⟩)) (fl.set i ⟨k, n, s, kv⟩) (l.set i (.mk k n s q)) bls := by
  have h0 := h.at_ he
  obtain ⟨_, _, _, _, _, hsz, _⟩ := h0
  obtain ⟨hb, h1, h2, h3, h4, h5⟩ := h
  have hi := (List.getElem?_eq_some_iff.1 he).1
  obtain ⟨_, _, hap⟩ := nodup_rows hn hbb
  have hfs : (fl.set i ⟨k, n, s, kv⟩)[i]? = some ⟨k, n, s, kv⟩ := List.getElem?_set_self (by omega)
  have hls : (l.set i (.mk k n s q))[i]? = some (.mk k n s q) := List.getElem?_set_self (by omega)
  refine ⟨hB, by simp [h1], by simp [h2], fun j f hf m x hx => ?_, fun j f e' hf he' => ?_, fun j f e' b' hf he' hb' => ?_⟩
  · have hml : m < 4 := (List.getElem?_eq_some_iff.1 hx).1
    rw [putRow_get _ _ _ _ (by exact hsz)]
    by_cases e1 : j = i
    · subst e1
      rw [hfs] at hf
      obtain rfl := Option.some.inj hf
      rw [if_pos (by simp [feRow]; omega), Nat.add_sub_cancel_left]
      exact hx
    · rw [List.getElem?_set_ne (by omega)] at hf
      rw [if_neg (by simp [feRow]; omega)]
      exact h3 j f hf m x hx
  · by_cases e1 : j = i
    · subst e1
      rw [hfs] at hf
      rw [hls] at he'
      obtain rfl := Option.some.inj hf
      obtain rfl := Option.some.inj he'
      exact ⟨rfl, rfl, rfl, hs⟩
    · rw [List.getElem?_set_ne (by omega)] at hf he'
      exact h4 j f e' hf he'
  · by_cases e1 : j = i
    · subst e1
      rw [hfs] at hf
      rw [hls] at he'
      rw [hbb] at hb'
      obtain rfl := Option.some.inj hf
      obtain rfl := Option.some.inj he'
      obtain rfl := Option.some.inj hb'
      exact hO
    · rw [List.getElem?_set_ne (by omega)] at hf he'
      have hO' := h5 j f e' b' hf he' hb'
      exact hO'.same (fun x hx => hk x (hO'.lt x hx) (hap j b' e1 hb' x hx).2 (hap j b' e1 hb' x hx).1)
theorem Lvl.exo {t : TypeId} {w : World} {g cap : Nat} {cur : Array Value} {fl : List FE} {l : List Ex} {bls : List (List Nat)} (h : Lvl t w g cur fl l bls) (hpos : 0 < l.length) (hc : l.length ≤ cap) (hm : cap ≤ maxLen) : ExO t w (.slice (some ⟨g, 0, none⟩) l.length cap) l (g :: bls.flatten) := by
  obtain ⟨hb, h1, h2, h3, h4, h5⟩ := h
  exact .mk g cap cur fl l bls hpos hc hm hb h1 h2 h3 h4 h5
end Go.Proofs.YtgakjhaepdigpaaGreatDoor


/- The marks of trees: the walk. -/
namespace Go.Proofs.YtgakjhaepdigpaaGreatDoor
set_option maxRecDepth 100000
set_option linter.unusedSimpArgs false
set_option linter.unusedVariables false
open Go.RowKit
attribute [local go_sem] bs_toList bs_get bs_size

theorem set_same {α : Type} {a : Array α} {n : Nat} {x : α} (h : a[n]? = some x) : a.setIfInBounds n x = a := by
  apply Array.ext_getElem?
  intro i
  by_cases e : i = n
  · subst e
    rw [Array.getElem?_setIfInBounds_self, h]
    simp [(Array.getElem?_eq_some_iff.1 h).1]
  · rw [Array.getElem?_setIfInBounds_ne (fun h => e h.symm)]
set_option maxHeartbeats 1000000 in
theorem markExprS_n : ∀ (N : Nat) (l : List Ex), SizeOf.sizeOf l ≤ N → ∀ (v : Value) (bl : List Nat) (w : World) (k : Nat), ExO 24 w v l bl → bl.Nodup → 1 ≤ k → k + 3 * ndL l ≤ 90000000 →
    Calls Tryz.prog 104 #[v, .int .i64 (k : Int)] w fun e w' => e = .returned (.int .i64 ((k + 3 * ndL l : Nat) : Int)) ∧ ∃ m, ExO 24 w' v m bl ∧ Marked k m ∧ ndL m = ndL l ∧ m.length = l.length ∧ Foot w w' bl
  | 0, l, hN, v, bl, w, k, hO, hnd, hk1, hk2 => by cases l <;> simp at hN
  | N + 1, l, hN, v, bl, w, k, hO, hnd, hk1, hk2 => by
    cases hO with
    | nil A c hc =>
      clear hN
      go_enter Tryz.func104, Tryz.ntmps104
      go_wp2_with fail
      go_loopg [1, 5] 0 (fun n a b wr => n = 0 ∧ a = .int .i64 (k : Int) ∧ b = .int .i64 0 ∧ wr = w)
      case atStart => exact ⟨rfl, rfl, rfl, rfl⟩
      case round =>
        obtain ⟨rfl, rfl, rfl, rfl⟩ := hrel
        go_wp2_with fail
        go_ret
        exact ⟨by simp [ndL], [], .nil A c hc, .mk _ _ (fun i e h => by simp at h) (fun i e h => by simp at h), rfl, rfl, Foot.refl _ _⟩
    | mk g cap cur fl _ bls hpos hc hm hb hfl hbl hcur h1 h2 =>
      have L0 : Lvl 24 w g cur fl l bls := ⟨hb, hfl, hbl, hcur, h1, h2⟩
      have HX := Lib.hid (And.intro hN (And.intro hk2 (And.intro hpos hm)))
      clear hb hfl hbl hcur h1 h2 hN hk2 hpos
      have hlz : l.length ≤ 90000000 := by have := HX.out.2.1; unfold ndL at this; omega
      go_enter Tryz.func104, Tryz.ntmps104
      go_wp2_with fail
      go_loopg [1, 5] l.length (fun n a b wr => ∃ (i : Nat) (m : List Ex) (cur : Array Value) (fl : List FE), n = l.length - i ∧ i ≤ l.length ∧ a = .int .i64 ((k + 3 * ndL (l.take i) : Nat) : Int) ∧ b = .int .i64 i ∧ Lvl 24 wr g cur fl m bls ∧ MarkTo k l i m ∧ Foot w wr (g :: bls.flatten))
      case atStart => exact ⟨0, l, cur, fl, by omega, by omega, by simp [ndL], rfl, L0, MarkTo.zero k l, Foot.refl _ _⟩
      case round =>
        obtain ⟨i, m, cur, fl, hk, hin, rfl, rfl, hL, hM, hF⟩ := hrel
        have HK := Lib.hid (And.intro hk (And.intro hL (And.intro hM hF)))
        clear hk hM hF
        have hB := hL.1
        have hfz := hB.frozen
        by_cases hlt : i < l.length
        · have hle := ndL_take l i
          have hks : k + 3 * ndL (l.take i) ≤ 90000000 := by have := HX.out.2.1; omega
          have hkz : 1 ≤ k + 3 * ndL (l.take i) := by omega
          clear hle
          obtain ⟨e, he, hme⟩ : ∃ e, l[i]? = some e ∧ m[i]? = some e := ⟨_, List.getElem?_eq_getElem hlt, (HK.out.2.2.1.2.1 i (Nat.le_refl _)).trans (List.getElem?_eq_getElem hlt)⟩
          obtain ⟨b, A, c, hbb, hkO, hsz, hc3⟩ := hL.at_ hme
          have HE := Lib.hid (And.intro he (And.intro hme (And.intro hbb (And.intro hkO (nodup_rows hnd hbb)))))
          clear he hme hbb hkO hL
          generalize hkk : k + 3 * ndL (l.take i) = kk at *
          have HKK := Lib.hid hkk
          clear hkk
          obtain ⟨y0, hy0⟩ : ∃ y, wr.cell? ⟨g, i * 4, none⟩ = some y := ⟨_, (hB.cell _).trans (Array.getElem?_eq_getElem (by omega))⟩
          obtain ⟨y1, hy1⟩ : ∃ y, wr.cell? ⟨g, i * 4 + 1, none⟩ = some y := ⟨_, (hB.cell _).trans (Array.getElem?_eq_getElem (by omega))⟩
          have hT := markText_any (kk + 2) (by omega) (by omega)
          rw [show ((kk + 2 : Nat) : Int) = (kk : Int) + 1 + 1 by omega] at hT
          have HT := Lib.hid hT
          clear hT
          go_wp2_with fail
          refine (HT.out _).mono ?_
          rintro e1 w1 ⟨rfl, hb1⟩
          have hB1 := ((hB.set_ (i * 4) (.int .i64 (kk : Int))).set_ (i * 4 + 1) (.int .i64 ((kk : Int) + 1))).below hb1 ((hB.set_ _ _).set_ _ _).lt
          have hfz1 := hB1.frozen
          obtain ⟨y2, hy2⟩ : ∃ y, w1.cell? ⟨g, i * 4 + 2, none⟩ = some y := ⟨_, (hB1.cell _).trans (Array.getElem?_eq_getElem (by simp; omega))⟩
          have hy3 : w1.cell? ⟨g, i * 4 + 3, none⟩ = some (.slice A e.kids.length c) := (hB1.cell _).trans (by rw [Array.getElem?_setIfInBounds_ne (by omega), Array.getElem?_setIfInBounds_ne (by omega)]; exact hc3)
          have hF1 : Foot wr (w1.setCell ⟨g, i * 4 + 2, none⟩ (.string (bs (mkW (kk + 2))))) [g] := (((Foot.set_ wr (by simp) _ _).trans (Foot.set_ _ (by simp) _ _)).trans (Foot.ext hb1)).trans (Foot.set_ _ (by simp) _ _)
          have hB2 := hB1.set_ (i * 4 + 2) (.string (bs (mkW (kk + 2))))
          have hkO2 : ExO 24 (w1.setCell ⟨g, i * 4 + 2, none⟩ (.string (bs (mkW (kk + 2))))) (.slice A e.kids.length c) e.kids b :=
            HE.out.2.2.2.1.same (fun x hx => hF1.2.2.2.2 x (HE.out.2.2.2.1.lt x hx) (by simp; exact fun h => HE.out.2.2.2.2.2.1 (h ▸ hx)))
          have hnl : k + 3 * ndL l = k + 3 * ndL l ∧ ndL (l.take i) + 1 + ndL e.kids ≤ ndL l := ⟨rfl, by rw [← ndL_succ HE.out.1]; exact ndL_take _ _⟩
          have hsz2 : SizeOf.sizeOf e.kids ≤ N := by have := HX.out.1; have := Ex.size_mem HE.out.1; have := Ex.size_kids e; omega
          have hC := markExprS_n N e.kids hsz2 (.slice A e.kids.length c) b _ (kk + 3) hkO2 HE.out.2.2.2.2.1 (by omega) (by have := HX.out.2.1; have := HKK.out; omega)
          rw [show ((kk + 3 : Nat) : Int) = (kk : Int) + 1 + 1 + 1 by omega] at hC
          have HC := Lib.hid (And.intro hC hnl)
          clear hC hnl hsz2
          go_wp2_with fail
          refine HC.out.1.mono ?_
          rintro e2 w3 ⟨rfl, q, hOq, hMq, hnq, hlq, hF3⟩
          have HQ := Lib.hid (And.intro hOq (And.intro hMq (And.intro hnq (And.intro hlq hF3))))
          clear hOq hMq hnq hlq hF3
          go_wp2_with fail
          go_roundg (l.length - (i + 1))
          case measure => have := HK.out.1; omega
          case rel =>
            obtain ⟨_, hL, hM, hF⟩ := HK.out
            obtain ⟨he, hme, hbb, hkO, hnb, hgb, hap⟩ := HE.out
            obtain ⟨hOq, hMq, hnq, hlq, hF3⟩ := HQ.out
            have hrow : putRow cur (i * 4) (feRow ⟨(kk : Int), ((kk + 1 : Nat) : Int), mkW (kk + 2), .slice A e.kids.length c⟩) = ((cur.setIfInBounds (i * 4) (.int .i64 (kk : Int))).setIfInBounds (i * 4 + 1) (.int .i64 ((kk : Int) + 1))).setIfInBounds (i * 4 + 2) (.string (bs (mkW (kk + 2)))) := by
              simp only [putRow, feRow]
              rw [set_same]
              · rfl
              · rw [Array.getElem?_setIfInBounds_ne (by omega), Array.getElem?_setIfInBounds_ne (by omega), Array.getElem?_setIfInBounds_ne (by omega)]
                exact hc3
            have hB3 : Blk w3 g 24 (putRow cur (i * 4) (feRow ⟨(kk : Int), ((kk + 1 : Nat) : Int), mkW (kk + 2), .slice A e.kids.length c⟩)) := by
              rw [hrow]
              exact (hF3.2.2.2.2 g hB2.lt hgb).trans hB2
            have hFF : Foot wr w3 (g :: b) := (hF1.more (by simp)).trans (hF3.more (by simp; exact fun x hx => .inr hx))
            refine ⟨i + 1, _, _, _, rfl, by omega, ?_, by go_num, hL.put hnd hme hbb (by have := mkW_len (n := kk + 2) (by omega); omega) hB3 hOq (fun x hx h1 h2 => hFF.2.2.2.2 x hx (by simp; exact ⟨h1, h2⟩)), ?_, hF.trans (hFF.more ?_)⟩
            · rw [ndL_succ he]
              have := HKK.out
              congr 1
              omega
            · have := hM.step he hnq (by rw [HKK.out]; exact hMq)
              rw [HKK.out] at this
              exact this
            · intro x hx
              rw [List.mem_cons] at hx ⊢
              rcases hx with rfl | hx
              · exact .inl rfl
              · exact .inr (List.mem_flatten.2 ⟨b, List.mem_of_getElem? hbb, hx⟩)
        · obtain rfl : i = l.length := by omega
          go_wp2_with fail
          go_ret
          obtain ⟨_, hL, hM, hF⟩ := HK.out
          obtain ⟨hmk, hnm⟩ := hM.all
          refine ⟨by first | rfl | (rw [List.take_length]; rfl), m, ?_, hmk, hnm, hM.1, hF⟩
          have := hL.exo (cap := cap) (by rw [hM.1]; exact HX.out.2.2.1) (by rw [hM.1]; exact hc) HX.out.2.2.2
          rw [hM.1] at this
          exact this
end Go.Proofs.YtgakjhaepdigpaaGreatDoor


/- Marked trees are held: the walk. -/
namespace Go.Proofs.YtgakjhaepdigpaaGreatDoor
set_option maxRecDepth 100000
set_option linter.unusedSimpArgs false
set_option linter.unusedVariables false
open Go.RowKit
attribute [local go_sem] bs_toList bs_get bs_size

theorem Marked.at {k : Nat} {l : List Ex} {i : Nat} {p q : Int} {s : Bytes} {m : List Ex} (h : Marked k l) (he : l[i]? = some (.mk p q s m)) :
    p = ((k + 3 * ndL (l.take i) : Nat) : Int) ∧ q = ((k + 3 * ndL (l.take i) + 1 : Nat) : Int) ∧ s = mkW (k + 3 * ndL (l.take i) + 2) ∧ Marked (k + 3 * ndL (l.take i) + 3) m := by
  cases h with
  | mk _ _ h1 h2 =>
    obtain ⟨a, b, c⟩ := h1 i _ he
    exact ⟨a, b, c, h2 i _ he⟩
set_option maxHeartbeats 1000000 in
theorem heldExprS_n : ∀ (N : Nat) (l : List Ex), SizeOf.sizeOf l ≤ N → ∀ (v : Value) (w : World) (k : Nat), ExS w w.heap.size v l → Marked k l → 1 ≤ k → k + 3 * ndL l ≤ 90000000 →
    Calls Tryz.prog 105 #[v, .int .i64 (k : Int)] w fun e w' => e = .returned (.int .i64 ((k + 3 * ndL l : Nat) : Int)) ∧ Below w.heap.size w w'
  | 0, l, hN, v, w, k, hO, hM, hk1, hk2 => by cases l <;> simp at hN
  | N + 1, l, hN, v, w, k, hv, hM, hk1, hk2 => by
    obtain ⟨A, c, rfl, hc, hm⟩ := hv.val
    have HX := Lib.hid (And.intro hN (And.intro hk2 (And.intro hM hv)))
    have hlz : l.length ≤ 90000000 := by unfold ndL at hk2; omega
    clear hN hk2 hM hv
    go_enter Tryz.func105, Tryz.ntmps105
    go_wp2_with fail
    go_loopg [1, 5] l.length (fun n a b wr => ∃ i : Nat, n = l.length - i ∧ i ≤ l.length ∧ a = .int .i64 ((k + 3 * ndL (l.take i) : Nat) : Int) ∧ b = .int .i64 i ∧ Below w.heap.size w wr)
    case atStart => exact ⟨0, by omega, by omega, by simp [ndL], rfl, Below.refl _ _⟩
    case round =>
      obtain ⟨i, hk, hin, rfl, rfl, hbl⟩ := hrel
      have HK := Lib.hid hk
      clear hk
      by_cases hlt : i < l.length
      · have hdl : decide (((i : Nat) : Int) < ((l.length : Nat) : Int)) = true := by rw [decide_eq_true_eq]; omega
        have hle := ndL_take l i
        have hks : k + 3 * ndL (l.take i) ≤ 90000000 := by have := HX.out.2.1; omega
        have hkz : 1 ≤ k + 3 * ndL (l.take i) := by omega
        clear hle
        obtain ⟨b, o, p, q, s, A1, c1, m1, rfl, hb, hg, hs1, hm1, hc1, hkd, f0, f1, f2, f3⟩ := ex_at HX.out.2.2.2 hlt
        obtain ⟨hp, hq, hsw, hMm⟩ := HX.out.2.2.1.at hg
        have HG := Lib.hid (And.intro hg (And.intro hMm hkd))
        have hnd : ndL (l.take i) + 1 + ndL m1 ≤ ndL l := by rw [show ndL m1 = ndL (Ex.mk p q s m1).kids from rfl, ← ndL_succ hg]; exact ndL_take _ _
        have HND := Lib.hid hnd
        clear hg hMm hkd hnd
        generalize hkk : k + 3 * ndL (l.take i) = kk at *
        have HKK := Lib.hid hkk
        clear hkk
        subst hp hq hsw
        have hT := markText_any (kk + 2) (by omega) (by omega)
        rw [show ((kk + 2 : Nat) : Int) = (kk : Int) + 1 + 1 by omega] at hT
        rw [show ((kk + 1 : Nat) : Int) = (kk : Int) + 1 by omega] at f1
        have HT := Lib.hid (fun x : Later w.heap.size w => hT x.w')
        clear hT
        have HC := Lib.hid (fun (w' : World) (h : Below w.heap.size w w') => heldExprS_n N m1 (by have := HX.out.1; have := Ex.size_mem HG.out.1; have := Ex.size_kids (Ex.mk (kk : Int) ((kk + 1 : Nat) : Int) (mkW (kk + 2)) m1); simp only [Ex.kids] at this; omega) (.slice A1 m1.length c1) w' (kk + 3) ((HG.out.2.2.keep h (Nat.le_refl _)).more h.size) HG.out.2.1 (by omega) (by have := HX.out.2.1; have := HKK.out; have := HND.out; omega))
        rw [show ((kk + 3 : Nat) : Int) = (kk : Int) + 1 + 1 + 1 by omega] at HC
        obtain ⟨x, rfl⟩ := Later.ex hbl
        go_wp2_with fail
        refine wp_region_later hbl (by kernel_rfl) (by kernel_rfl) ?_
        repeat (go_big_quiet_step ((go_at_call 103; exact later_call' HT.out)))
        refine wpQuiet_nil ?_
        rintro _ ⟨y, rfl⟩
        have hy := y.ok
        have g3 := f3 y
        have hnn : ¬ ((kk + 3 + 3 * ndL m1 : Nat) : Int) < 0 := by omega
        clear f0 f1 f2 f3
        go_wp2_with fail
        refine (HC.out y.w' hy).mono ?_
        rintro r w2 ⟨rfl, hb2⟩
        go_wp2_with fail
        go_roundg (l.length - (i + 1))
        case measure => have := HK.out; omega
        case rel =>
          refine ⟨i + 1, rfl, by omega, ?_, by go_num, hy.ext hb2⟩
          rw [ndL_succ HG.out.1]
          have := HKK.out
          simp only [Ex.kids]
          congr 1
          omega
      · have hdl : decide (((i : Nat) : Int) < ((l.length : Nat) : Int)) = false := by rw [decide_eq_false_iff_not]; omega
        obtain rfl : i = l.length := by omega
        go_wp2_with fail
        go_ret
        exact ⟨by rw [List.take_length]; rfl, hbl⟩
end Go.Proofs.YtgakjhaepdigpaaGreatDoor
