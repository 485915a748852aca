
/- Trees of the call's own, by value: their blocks lie between two bounds, each once. No program in sight, no condition. -/
import Derived.Test.YtgfbjpmbaibnoaaGreatDoorRdDr
namespace Go.Proofs.YtgfbjpmbaibnoaaGreatDoor
set_option maxRecDepth 100000
set_option linter.unusedSimpArgs false
set_option linter.unusedVariables false
open Go.RowKit

def TrM (lo hi : Nat) (w : World) (v : Value) (e : Ex) : Prop :=
  ∃ kv bl, v = .agg #[.int .i64 e.kind, .int .i64 e.n, .string (bs e.s), kv] ∧ e.s.length ≤ 9223372036854775807 ∧ ExO 25 w kv e.kids bl ∧ Own lo hi bl
theorem TrM.ext {lo hi : Nat} {w w' : World} {v : Value} {e : Ex} (h : TrM lo hi w v e) (hb : Ext w w') : TrM lo hi w' v e := by
  obtain ⟨kv, bl, h1, h2, h3, h4⟩ := h; exact ⟨kv, bl, h1, h2, h3.ext hb, h4⟩
theorem TrM.same {lo hi : Nat} {w w' : World} {v : Value} {e : Ex} (h : TrM lo hi w v e) (hb : ∀ b, lo ≤ b → b < hi → w'.heap[b]? = w.heap[b]?) : TrM lo hi w' v e := by
  obtain ⟨kv, bl, h1, h2, h3, h4⟩ := h; exact ⟨kv, bl, h1, h2, h3.same (fun b hbm => hb b (h4.1 b hbm).1 (h4.1 b hbm).2), h4⟩
theorem TrM.widen {lo hi lo' hi' : Nat} {w : World} {v : Value} {e : Ex} (h : TrM lo hi w v e) (h1 : lo' ≤ lo) (h2 : hi ≤ hi') : TrM lo' hi' w v e := by
  obtain ⟨kv, bl, a1, a2, a3, a4⟩ := h; exact ⟨kv, bl, a1, a2, a3, a4.widen h1 h2⟩
theorem TrM.exv {lo hi : Nat} {w : World} {v : Value} {e : Ex} (h : TrM lo hi w v e) : ExV w w.heap.size v e := by
  obtain ⟨kv, bl, h1, h2, h3, h4⟩ := h; exact ⟨kv, h1, h2, h3.exs⟩
theorem TrM.form {lo hi : Nat} {w : World} {v : Value} {e : Ex} (h : TrM lo hi w v e) : ∃ (A : Option Addr) (c : Nat), v = .agg #[.int .i64 e.kind, .int .i64 e.n, .string (bs e.s), .slice A e.kids.length c] ∧ e.kids.length ≤ c ∧ c ≤ 9223372036854775807 ∧ e.s.length ≤ 9223372036854775807 := by
  obtain ⟨kv, bl, rfl, h2, h3, h4⟩ := h
  obtain ⟨A, c, rfl, hc, hm⟩ := h3.exs.val
  exact ⟨A, c, rfl, hc, hm, h2⟩
theorem TrM.leaf (lo hi : Nat) (w : World) (k n : Int) (s : Bytes) (hs : s.length ≤ 9223372036854775807) : TrM lo hi w (.agg #[.int .i64 k, .int .i64 n, .string (bs s), .slice none 0 0]) (.mk k n s []) :=
  ⟨_, [], rfl, hs, .nil none 0 (by unfold maxLen; omega), Own.nil _ _⟩
theorem TrM.one {lo hi hi' g : Nat} {w : World} {e0 : Ex} {kv0 : Value} {k n : Int} {s : Bytes} (h : TrM lo hi w (.agg #[.int .i64 e0.kind, .int .i64 e0.n, .string (bs e0.s), kv0]) e0) (hs : s.length ≤ 9223372036854775807)
    (hb : Blk w g 25 #[.int .i64 e0.kind, .int .i64 e0.n, .string (bs e0.s), kv0]) (h1 : hi ≤ g) (h2 : lo ≤ g) (h3 : g < hi') : TrM lo hi' w (.agg #[.int .i64 k, .int .i64 n, .string (bs s), .slice (some ⟨g, 0, none⟩) 1 1]) (.mk k n s [e0]) := by
  obtain ⟨kv, bl, he, hs0, hO, hOw⟩ := h
  have hkv : kv0 = kv := by simpa using he
  subst hkv
  refine ⟨_, g :: [bl].flatten, rfl, hs, exO_one hs0 hO hb, ?_⟩
  simp only [List.flatten_cons, List.flatten_nil, List.append_nil]
  exact hOw.snoc h1 h2 h3
theorem exO_two {w : World} {g : Nat} {bl bl' : List Nat} {e0 e1 : Ex} {kv0 kv1 : Value} (hs : e0.s.length ≤ 9223372036854775807) (hs' : e1.s.length ≤ 9223372036854775807) (hO : ExO 25 w kv0 e0.kids bl) (hO' : ExO 25 w kv1 e1.kids bl')
    (hb : Blk w g 25 #[.int .i64 e0.kind, .int .i64 e0.n, .string (bs e0.s), kv0, .int .i64 e1.kind, .int .i64 e1.n, .string (bs e1.s), kv1]) : ExO 25 w (.slice (some ⟨g, 0, none⟩) 2 2) [e0, e1] (g :: [bl, bl'].flatten) := by
  refine .mk g 2 _ [⟨e0.kind, e0.n, e0.s, kv0⟩, ⟨e1.kind, e1.n, e1.s, kv1⟩] [e0, e1] [bl, bl'] (by simp) (by simp) (by unfold maxLen; omega) hb rfl rfl ?_ ?_ ?_
  · intro i f hf j x hx
    have hj : j < 4 := (List.getElem?_eq_some_iff.1 hx).1
    rcases i with _ | _ | i
    · simp at hf; subst hf
      match j, hj with
      | 0, _ | 1, _ | 2, _ | 3, _ => simpa [feRow] using hx
    · simp at hf; subst hf
      match j, hj with
      | 0, _ | 1, _ | 2, _ | 3, _ => simpa [feRow] using hx
    · simp at hf
  · intro i f e hf he
    rcases i with _ | _ | i
    · simp at hf he; subst hf he; exact ⟨rfl, rfl, rfl, hs⟩
    · simp at hf he; subst hf he; exact ⟨rfl, rfl, rfl, hs'⟩
    · simp at hf
  · intro i f e b hf he hb2
    rcases i with _ | _ | i
    · simp at hf he hb2; subst hf he hb2; exact hO
    · simp at hf he hb2; subst hf he hb2; exact hO'
    · simp at hf
theorem TrM.two {lo mid hi hi' g : Nat} {w : World} {e0 e1 : Ex} {kv0 kv1 : Value} {k n : Int} {s : Bytes} (h : TrM lo mid w (.agg #[.int .i64 e0.kind, .int .i64 e0.n, .string (bs e0.s), kv0]) e0) (h' : TrM mid hi w (.agg #[.int .i64 e1.kind, .int .i64 e1.n, .string (bs e1.s), kv1]) e1) (hs : s.length ≤ 9223372036854775807)
    (hb : Blk w g 25 #[.int .i64 e0.kind, .int .i64 e0.n, .string (bs e0.s), kv0, .int .i64 e1.kind, .int .i64 e1.n, .string (bs e1.s), kv1]) (h0 : lo ≤ mid) (h1 : mid ≤ hi) (h2 : hi ≤ g) (h3 : g < hi') : TrM lo hi' w (.agg #[.int .i64 k, .int .i64 n, .string (bs s), .slice (some ⟨g, 0, none⟩) 2 2]) (.mk k n s [e0, e1]) := by
  obtain ⟨kv, bl, he, hs0, hO, hOw⟩ := h
  obtain ⟨kv', bl', he', hs0', hO', hOw'⟩ := h'
  have hkv : kv0 = kv := by simpa using he
  have hkv' : kv1 = kv' := by simpa using he'
  subst hkv hkv'
  refine ⟨_, g :: [bl, bl'].flatten, rfl, hs, exO_two hs0 hs0' hO hO' hb, ?_⟩
  simp only [List.flatten_cons, List.flatten_nil, List.append_nil]
  exact (hOw.append hOw' (Nat.le_refl _) h0 h1).snoc h2 (by omega) h3
end Go.Proofs.YtgfbjpmbaibnoaaGreatDoor
