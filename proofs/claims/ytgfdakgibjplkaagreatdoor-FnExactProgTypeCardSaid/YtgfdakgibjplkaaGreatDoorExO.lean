
/- Trees in memory of the call's own: which blocks they lie in, and that they are kept. No program in sight, no condition. -/
import Derived.Test.YtgfdakgibjplkaaGreatDoorE
namespace Go.Proofs.YtgfdakgibjplkaaGreatDoor
set_option maxRecDepth 100000
open Go.RowKit

/-- a slice of trees of the call's own: the blocks bl hold its parts, each block one row of parts; a row of none lies anywhere -/
inductive ExO (t : TypeId) (w : World) : Value → List Ex → List Nat → Prop
  | nil (A : Option Addr) (c : Nat) (hc : c ≤ maxLen) : ExO t w (.slice A 0 c) [] []
  | mk (g cap : Nat) (cur : Array Value) (fl : List FE) (l : List Ex) (bls : List (List Nat)) (hpos : 0 < l.length) (hc : l.length ≤ cap) (hm : cap ≤ maxLen) (hb : Blk w g t cur) (hfl : fl.length = l.length) (hbl : bls.length = l.length)
      (hcur : ∀ (i : Nat) (f : FE), fl[i]? = some f → ∀ (j : Nat) (x : Value), (feRow f)[j]? = some x → cur[i * 4 + j]? = some x)
      (h1 : ∀ (i : Nat) (f : FE) (e : Ex), fl[i]? = some f → l[i]? = some e → f.kind = e.kind ∧ f.n = e.n ∧ f.s = e.s ∧ f.s.length ≤ 9223372036854775807)
      (h2 : ∀ (i : Nat) (f : FE) (e : Ex) (b : List Nat), fl[i]? = some f → l[i]? = some e → bls[i]? = some b → ExO t w f.kv e.kids b) : ExO t w (.slice (some ⟨g, 0, none⟩) l.length cap) l (g :: bls.flatten)
def ExOV (t : TypeId) (w : World) (v : Value) (e : Ex) (bl : List Nat) : Prop := ∃ kv, v = .agg #[.int .i64 e.kind, .int .i64 e.n, .string (bs e.s), kv] ∧ e.s.length ≤ 9223372036854775807 ∧ ExO t w kv e.kids bl

theorem ExO.exs {t : TypeId} {w : World} {v : Value} {l : List Ex} {bl : List Nat} (h : ExO t w v l bl) : ExS w w.heap.size v l := by
  induction h with
  | nil A c hc => exact .mk _ [] [] ⟨A, c, rfl, Nat.zero_le _, hc, fun h => absurd h (by simp)⟩ rfl (fun _ _ _ h => by simp at h) (fun _ _ _ h => by simp at h)
  | mk g cap cur fl l bls hpos hc hm hb hfl hbl hcur h1 h2 ih =>
    refine .mk _ fl l ⟨_, cap, by rw [hfl], by omega, hm, fun _ => ⟨g, 0, rfl, hb.lt, fun i f hf j x hj => ?_⟩⟩ hfl h1 (fun i f e hf he => ?_)
    · rw [Nat.zero_add, hb.cell]
      exact hcur i f hf j x hj
    · have hi : i < bls.length := by rw [hbl]; exact (List.getElem?_eq_some_iff.1 he).1
      exact ih i f e bls[i] hf he (List.getElem?_eq_getElem hi)
theorem ExOV.exv {t : TypeId} {w : World} {v : Value} {e : Ex} {bl : List Nat} (h : ExOV t w v e bl) : ExV w w.heap.size v e := by
  obtain ⟨kv, h1, h2, h3⟩ := h; exact ⟨kv, h1, h2, h3.exs⟩
theorem ExO.val {t : TypeId} {w : World} {v : Value} {l : List Ex} {bl : List Nat} (h : ExO t w v l bl) : ∃ A c, v = .slice A l.length c := h.exs.val.imp fun _ ⟨c, h, _⟩ => ⟨c, h⟩
/-- all its blocks are there -/
theorem ExO.lt {t : TypeId} {w : World} {v : Value} {l : List Ex} {bl : List Nat} (h : ExO t w v l bl) : ∀ b ∈ bl, b < w.heap.size := by
  induction h with
  | nil A c hc => intro b hb; simp at hb
  | mk g cap cur fl l bls hpos hc hm hb hfl hbl hcur h1 h2 ih =>
    intro b hbm
    rw [List.mem_cons, List.mem_flatten] at hbm
    rcases hbm with rfl | ⟨q, hq, hbq⟩
    · exact hb.lt
    · obtain ⟨i, hi⟩ := List.mem_iff_getElem?.1 hq
      have hil : i < bls.length := (List.getElem?_eq_some_iff.1 hi).1
      exact ih i fl[i] l[i] q (List.getElem?_eq_getElem (by omega)) (List.getElem?_eq_getElem (by omega)) hi b hbq
/-- it stays where its blocks stay -/
theorem ExO.same {t : TypeId} {w w' : World} {v : Value} {l : List Ex} {bl : List Nat} (h : ExO t w v l bl) (hk : ∀ b ∈ bl, w'.heap[b]? = w.heap[b]?) : ExO t w' v l bl := by
  induction h with
  | nil A c hc => exact .nil A c hc
  | mk g cap cur fl l bls hpos hc hm hb hfl hbl hcur h1 h2 ih =>
    refine .mk g cap cur fl l bls hpos hc hm ((hk g (by simp)).trans hb) hfl hbl hcur h1 (fun i f e b hf he hb2 => ih i f e b hf he hb2 (fun x hx => hk x ?_))
    rw [List.mem_cons, List.mem_flatten]
    exact .inr ⟨b, List.mem_of_getElem? hb2, hx⟩
theorem ExO.under {t : TypeId} {B : Nat} {w w' : World} {v : Value} {l : List Ex} {bl : List Nat} (h : ExO t w v l bl) (hb : Below B w w') (hl : ∀ b ∈ bl, b < B) : ExO t w' v l bl := h.same (fun b hbm => hb.block b (hl b hbm))
theorem ExO.ext {t : TypeId} {w w' : World} {v : Value} {l : List Ex} {bl : List Nat} (h : ExO t w v l bl) (hb : Ext w w') : ExO t w' v l bl := h.under hb h.lt
theorem ExOV.ext {t : TypeId} {w w' : World} {v : Value} {e : Ex} {bl : List Nat} (h : ExOV t w v e bl) (hb : Ext w w') : ExOV t w' v e bl := by
  obtain ⟨kv, h1, h2, h3⟩ := h; exact ⟨kv, h1, h2, h3.ext hb⟩
/-- blocks of the call's own: from lo on, each once -/
def Own (lo hi : Nat) (bl : List Nat) : Prop := (∀ b ∈ bl, lo ≤ b ∧ b < hi) ∧ bl.Nodup
theorem Own.nil (lo hi : Nat) : Own lo hi [] := ⟨fun b h => by simp at h, List.nodup_nil⟩
theorem Own.append {a b c d : Nat} {x y : List Nat} (h : Own a b x) (k : Own c d y) (hbc : b ≤ c) (hab : a ≤ c) (hbd : b ≤ d) : Own a d (x ++ y) := by
  refine ⟨fun z hz => ?_, ?_⟩
  · rw [List.mem_append] at hz
    rcases hz with hz | hz
    · have := h.1 z hz; omega
    · have := k.1 z hz; omega
  · rw [List.nodup_append]
    refine ⟨h.2, k.2, fun p hp q hq e => ?_⟩
    have := h.1 p hp
    have := k.1 q hq
    omega
theorem Own.cons {a b c g : Nat} {x : List Nat} (h : Own b c x) (hg : a ≤ g) (hb : g < b) (hgc : g < c) : Own a c (g :: x) := by
  refine ⟨fun z hz => ?_, ?_⟩
  · rw [List.mem_cons] at hz
    rcases hz with rfl | hz
    · omega
    · have := h.1 z hz; omega
  · rw [List.nodup_cons]
    exact ⟨fun hm => by have := h.1 g hm; omega, h.2⟩
theorem Own.widen {a b c d : Nat} {x : List Nat} (h : Own a b x) (h1 : c ≤ a) (h2 : b ≤ d) : Own c d x := ⟨fun z hz => by have := h.1 z hz; omega, h.2⟩
theorem Own.snoc {a b c g : Nat} {x : List Nat} (h : Own a b x) (hg : b ≤ g) (ha : a ≤ g) (hc : g < c) : Own a c (g :: x) := by
  refine ⟨fun z hz => ?_, ?_⟩
  · rw [List.mem_cons] at hz
    rcases hz with rfl | hz
    · omega
    · have := h.1 z hz; omega
  · rw [List.nodup_cons]
    exact ⟨fun hm => by have := h.1 g hm; omega, h.2⟩
end Go.Proofs.YtgfdakgibjplkaaGreatDoor
