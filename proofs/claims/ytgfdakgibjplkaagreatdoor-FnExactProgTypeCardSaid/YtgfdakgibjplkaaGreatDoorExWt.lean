
/- Plain Lean: how much a tree holds; trees of the call's own, one after the other. No program in sight, no condition. -/
import Derived.Test.YtgfdakgibjplkaaGreatDoorExO
namespace Go.Proofs.YtgfdakgibjplkaaGreatDoor
set_option maxRecDepth 100000
open Go.RowKit

/-- how many parts and letters a tree holds below its root -/
def Ex.wt : Ex → Nat
  | .mk _ _ s kids => s.length + kids.length + (kids.attach.map (fun x => Ex.wt x.1)).sum
termination_by e => SizeOf.sizeOf e
decreasing_by
  have := List.sizeOf_lt_of_mem x.2
  simp
  omega
def wtL (l : List Ex) : Nat := l.length + (l.map Ex.wt).sum
theorem Ex.wt_mk (k n : Int) (s : Bytes) (l : List Ex) : (Ex.mk k n s l).wt = s.length + wtL l := by
  rw [Ex.wt, wtL, List.attach_map_val]
  omega
def wtTo (l : List Ex) (i : Nat) : Nat := ((l.take i).map Ex.wt).sum
theorem wtTo_zero (l : List Ex) : wtTo l 0 = 0 := by simp [wtTo]
theorem wtTo_succ {l : List Ex} {i : Nat} {e : Ex} (h : l[i]? = some e) : wtTo l (i + 1) = wtTo l i + e.wt := by
  have hi := (List.getElem?_eq_some_iff.1 h).1
  have he : l[i] = e := by rw [List.getElem?_eq_getElem hi] at h; exact Option.some.inj h
  unfold wtTo
  rw [List.take_succ_eq_append_getElem hi, List.map_append, List.sum_append, he]
  simp
theorem wtTo_all (l : List Ex) : wtL l = l.length + wtTo l l.length := by simp [wtL, wtTo]
theorem wtTo_le (l : List Ex) : ∀ i, wtTo l i ≤ wtTo l l.length := by
  intro i
  unfold wtTo
  rw [List.take_length]
  have h : (l.take i ++ l.drop i) = l := List.take_append_drop i l
  have h2 := congrArg (fun l => (l.map Ex.wt).sum) h
  simp only [List.map_append, List.sum_append] at h2
  omega
theorem wt_mem {l : List Ex} {i : Nat} {e : Ex} (h : l[i]? = some e) : l.length + e.wt ≤ wtL l := by
  have h1 := wtTo_succ h
  have h2 := wtTo_le l (i + 1)
  rw [wtTo_all]
  omega

/-- the first i trees of l stand in cur -/
def TreesTo (t : TypeId) (w : World) (cur : Array Value) (l : List Ex) (i : Nat) (fl : List FE) (bls : List (List Nat)) : Prop :=
  fl.length = i ∧ bls.length = i ∧ (∀ (j : Nat) (f : FE), fl[j]? = some f → ∀ (k : Nat) (x : Value), (feRow f)[k]? = some x → cur[j * 4 + k]? = some x) ∧
    (∀ (j : Nat) (f : FE) (e : Ex), fl[j]? = some f → l[j]? = some e → f.kind = e.kind ∧ f.n = e.n ∧ f.s = e.s ∧ f.s.length ≤ 9223372036854775807) ∧
    (∀ (j : Nat) (f : FE) (e : Ex) (b : List Nat), fl[j]? = some f → l[j]? = some e → bls[j]? = some b → ExO t w f.kv e.kids b)
theorem TreesTo.zero (t : TypeId) (w : World) (cur : Array Value) (l : List Ex) : TreesTo t w cur l 0 [] [] :=
  ⟨rfl, rfl, fun j f h => by simp at h, fun j f e h => by simp at h, fun j f e b h => by simp at h⟩
theorem getElem?_snoc {α : Type} {l : List α} {a x : α} {j : Nat} (h : (l ++ [a])[j]? = some x) : (j < l.length ∧ l[j]? = some x) ∨ (j = l.length ∧ x = a) := by
  by_cases hj : j < l.length
  · rw [List.getElem?_append_left hj] at h
    exact .inl ⟨hj, h⟩
  · rw [List.getElem?_append_right (by omega)] at h
    have hk := (List.getElem?_eq_some_iff.1 h).1
    simp only [List.length_singleton] at hk
    have hj2 : j - l.length = 0 := by omega
    rw [hj2] at h
    exact .inr ⟨by omega, by simpa using h.symm⟩
theorem TreesTo.step {t : TypeId} {w w' : World} {cur : Array Value} {l : List Ex} {i : Nat} {fl : List FE} {bls : List (List Nat)} {f : FE} {e : Ex} {b : List Nat} (h : TreesTo t w cur l i fl bls) (he : l[i]? = some e) (hsz : i * 4 + 4 ≤ cur.size)
    (hf : f.kind = e.kind ∧ f.n = e.n ∧ f.s = e.s ∧ f.s.length ≤ 9223372036854775807) (hO : ExO t w' f.kv e.kids b) (hk : ∀ x ∈ bls.flatten, w'.heap[x]? = w.heap[x]?) : TreesTo t w' (putRow cur (i * 4) (feRow f)) l (i + 1) (fl ++ [f]) (bls ++ [b]) := by
  obtain ⟨h1, h2, h3, h4, h5⟩ := h
  refine ⟨by simp [h1], by simp [h2], fun j f' hj k x hx => ?_, fun j f' e' hj he' => ?_, fun j f' e' b' hj he' hb' => ?_⟩
  · have hkl : k < 4 := (List.getElem?_eq_some_iff.1 hx).1
    rw [putRow_get _ _ _ _ (by exact hsz)]
    rcases getElem?_snoc hj with ⟨hj1, hj2⟩ | ⟨rfl, rfl⟩
    · rw [if_neg (by omega)]
      exact h3 j f' hj2 k x hx
    · rw [h1, if_pos (by simp [feRow]; omega), Nat.add_sub_cancel_left]
      exact hx
  · rcases getElem?_snoc hj with ⟨hj1, hj2⟩ | ⟨rfl, rfl⟩
    · exact h4 j f' e' hj2 he'
    · rw [h1, he] at he'
      obtain rfl := Option.some.inj he'
      exact hf
  · rcases getElem?_snoc hj with ⟨hj1, hj2⟩ | ⟨rfl, rfl⟩
    · rcases getElem?_snoc hb' with ⟨hb1, hb2⟩ | ⟨hb1, rfl⟩
      · exact (h5 j f' e' b' hj2 he' hb2).same (fun x hx => hk x (List.mem_flatten.2 ⟨b', List.mem_of_getElem? hb2, hx⟩))
      · omega
    · rcases getElem?_snoc hb' with ⟨hb1, hb2⟩ | ⟨hb1, rfl⟩
      · omega
      · rw [h1, he] at he'
        obtain rfl := Option.some.inj he'
        exact hO
/-- all stand there -/
theorem TreesTo.all {t : TypeId} {w : World} {cur : Array Value} {l : List Ex} {fl : List FE} {bls : List (List Nat)} {g cap : Nat} (h : TreesTo t w cur l l.length fl bls) (hb : Blk w g t cur) (hc : l.length ≤ cap) (hm : cap ≤ maxLen) :
    ∃ bl, ExO t w (.slice (some ⟨g, 0, none⟩) l.length cap) l bl ∧ (bl = [] ∨ bl = g :: bls.flatten) := by
  obtain ⟨h1, h2, h3, h4, h5⟩ := h
  cases l with
  | nil => exact ⟨[], .nil _ _ hm, .inl rfl⟩
  | cons e l => exact ⟨_, .mk g cap cur fl (e :: l) bls (by simp) hc hm hb h1 h2 h3 h4 h5, .inr rfl⟩
end Go.Proofs.YtgfdakgibjplkaaGreatDoor
