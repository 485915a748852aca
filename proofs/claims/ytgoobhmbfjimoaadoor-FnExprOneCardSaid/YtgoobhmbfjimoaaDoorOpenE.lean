
/- From the data of a row's arguments to the words of the walks: strings, trees, statements. No condition. -/
import Derived.Test.YtgoobhmbfjimoaaDoorOpen
import Derived.Test.YtgoobhmbfjimoaaDoorBas
namespace Go.Proofs.YtgoobhmbfjimoaaDoor
set_option maxRecDepth 100000
set_option linter.unusedSimpArgs false
set_option linter.unusedVariables false
open Go.RowKit Go.ChangeShapes Go.WideShapes Go.ChangeAt Go.Deep
section
variable {H : Type} {enc : TypeId × Value → H} {W W' : World}

theorem list_choose {α β : Type} {R : α → β → Prop} : ∀ (fl : List α), (∀ f ∈ fl, ∃ e, R f e) → ∃ l : List β, fl.length = l.length ∧ ∀ (i : Nat) (f : α) (e : β), fl[i]? = some f → l[i]? = some e → R f e
  | [], _ => ⟨[], rfl, fun i f e h => by simp at h⟩
  | a :: fl, h => by
    obtain ⟨e, he⟩ := h a (by simp)
    obtain ⟨l, hl, hh⟩ := list_choose fl (fun f hf => h f (by simp [hf]))
    refine ⟨e :: l, by simp [hl], fun i f e' h1 h2 => ?_⟩
    cases i with
    | zero =>
      simp only [List.getElem?_cons_zero, Option.some.injEq] at h1 h2
      subst h1 h2
      exact he
    | succ i =>
      simp only [List.getElem?_cons_succ] at h1 h2
      exact hh i f e' h1 h2
/-- a slice of rows of cells, out of its elements, each with what it reads as -/
theorem sl_of_reads {α : Type} {row : α → List Value} {R : α → Prop} {k len cap : Nat} {a : Addr} (hk : 0 < k) (hl : len ≤ cap) (hm : cap ≤ maxLen)
    (h : ∀ i, i < len → ∃ s : α, (row s).length = k ∧ R s ∧ ∀ (j : Nat) (x : Value), (row s)[j]? = some x → W.cell? (a.add (i * k + j)) = some x) :
    ∃ l : List α, Sl row k W W.heap.size (.slice (some a) len cap) l ∧ ∀ f ∈ l, R f := by
  obtain ⟨l, hS⟩ := sl_of_cells (α := {s : α // R s}) (row := fun s => row s.1) hk hl hm (fun i hi => by
    obtain ⟨s, h1, h2, h3⟩ := h i hi
    exact ⟨⟨s, h2⟩, h1, h3⟩)
  obtain ⟨A, c, hv, hc, hm', hh⟩ := hS
  refine ⟨l.map (·.1), ⟨A, c, by rw [List.length_map]; exact hv, by rw [List.length_map]; exact hc, hm', fun hpos => ?_⟩, fun f hf => ?_⟩
  · rw [List.length_map] at hpos
    obtain ⟨b, o, hA, hb, hx⟩ := hh hpos
    refine ⟨b, o, hA, hb, fun i s hs j x hj => ?_⟩
    rw [List.getElem?_map, Option.map_eq_some_iff] at hs
    obtain ⟨t, ht, rfl⟩ := hs
    exact hx i t ht j x hj
  · obtain ⟨t, _, rfl⟩ := List.mem_map.1 hf
    exact t.2
/-- the elements of a slice, each read -/
theorem reads_of_trod {α : Type} {row : α → List Value} {R : α → Prop} {k : Nat} {e : TypeId} {n : Nat} {sp : Nat → Bool} {len : Nat} {a : Addr} {elems : List (DataW H × List MemPlace)} (hk : Tryd.prog.cellsOf e = k)
    (hi : ∀ i, i < len → (W.cells? 0 (a.add (i * Tryd.prog.cellsOf e)) (Tryd.prog.cellsOf e)).bind (DataW.trod enc Tryd.prog W 0 sp true n e) = elems[i]?) (hel : elems.length = len)
    (hone : ∀ (cs : List Value) (x : DataW H × List MemPlace), DataW.trod enc Tryd.prog W 0 sp true n e cs = some x → ∃ s : α, cs = row s ∧ (row s).length = k ∧ R s) :
    ∀ i, i < len → ∃ s : α, (row s).length = k ∧ R s ∧ ∀ (j : Nat) (x : Value), (row s)[j]? = some x → W.cell? (a.add (i * k + j)) = some x := by
  intro i him
  have h1 := hi i him
  rw [List.getElem?_eq_getElem (by omega)] at h1
  obtain ⟨cs, hc, ht⟩ := Option.bind_eq_some_iff.1 h1
  obtain ⟨s, rfl, hl, hr⟩ := hone cs _ ht
  obtain ⟨_, hcl, hat⟩ := World.cells?_some hc
  rw [hk] at hat
  refine ⟨s, hl, hr, fun j x hj => ?_⟩
  have hjk : j < k := by rw [← hl]; exact (List.getElem?_eq_some_iff.1 hj).1
  rw [← add_of_add, hat j hjk]
  exact hj
theorem ex_cells : ∀ (n : Nat) {sp : Nat → Bool} {cs : List Value} {x : DataW H × List MemPlace}, DataW.trod enc Tryd.prog W 0 sp true n 24 cs = some x →
    ∃ f : FE, cs = feRow f ∧ (feRow f).length = 4 ∧ ∃ e : Ex, (f.kind = e.kind ∧ f.n = e.n ∧ f.s = e.s ∧ f.s.length ≤ 9223372036854775807) ∧ ExS W W.heap.size f.kv e.kids := by
  intro n
  induction n using Nat.strongRecOn with
  | _ n ih =>
    intro sp cs x h
    obtain ⟨ys, n', hn', hy, hlen, hyl, hf⟩ := DataW.trod_struct Tryd.underlying24 h
    have h0 := hf 0 _ rfl
    have h1 := hf 1 _ rfl
    have h2 := hf 2 _ rfl
    have h3 := hf 3 _ rfl
    rw [List.getElem?_eq_getElem (by rw [hyl]; decide)] at h0 h1 h2 h3
    have hc : cs.length = 4 := hlen.trans (by kernel_rfl)
    match cs, hc with
    | [c0, c1, c2, c3], _ =>
      have e0 : Tryd.prog.cellsOf 3 = 1 := by kernel_rfl
      have e2 : Tryd.prog.cellsOf 9 = 1 := by kernel_rfl
      have e3 : Tryd.prog.cellsOf 22 = 1 := by kernel_rfl
      obtain ⟨a, ha, _, _⟩ := DataW.trod_int Tryd.underlying3 h0
      obtain ⟨b, hb, _, _⟩ := DataW.trod_int Tryd.underlying3 h1
      obtain ⟨s, hs, _, hsz⟩ := DataW.trod_string Tryd.underlying9 h2
      simp [e0, e2] at ha hb hs
      have hsz2 : s.data.toList.length ≤ 9223372036854775807 := by
        have : s.data.toList.length = s.size := by rw [Array.length_toList]; rfl
        unfold maxLen at hsz
        omega
      have hS : ∃ l : List Ex, ExS W W.heap.size c3 l := by
        rcases DataW.trod_slice Tryd.underlying22 h3 with ⟨hcs, _⟩ | ⟨a0, len, cap, elems, rest, n2, hn2, hcs, _, _, hl, hm, hel, hi, _⟩
        · simp [e3] at hcs
          subst hcs
          exact ⟨[], ExS.nil _ _⟩
        · simp [e3] at hcs
          subst hcs
          obtain ⟨fl, hSl, hR⟩ := sl_of_reads (row := feRow) (k := 4) (by decide) hl hm (reads_of_trod (k := 4) (by kernel_rfl) hi hel (fun cs x hx => ih n2 (by omega) hx))
          obtain ⟨l, hll, hh⟩ := list_choose fl hR
          exact ⟨l, .mk _ fl l hSl hll (fun i f e h1 h2 => (hh i f e h1 h2).1) (fun i f e h1 h2 => (hh i f e h1 h2).2)⟩
      obtain ⟨l, hl⟩ := hS
      exact ⟨⟨a, b, s.data.toList, c3⟩, by rw [ha, hb, hs]; simp [feRow, bs_of], rfl, .mk a b s.data.toList l, ⟨rfl, rfl, rfl, hsz2⟩, hl⟩
theorem ex_open {sp : Nat → Bool} {v : Value} {d : DataW H} {p : List MemPlace} {r : Reach} {b0 : Nat} (hv : Value.okWide Tryd.prog W r b0 24 v) (h : DataW.Trod enc Tryd.prog W 0 sp true 24 v d p) : ∃ e : Ex, ExV W W.heap.size v e := by
  obtain ⟨cs, rfl, hsz⟩ := okWide_struct Tryd.underlying24 hv
  obtain ⟨fuel, hf⟩ := h
  obtain ⟨f, hfr, _, e, ⟨h1, h2, h3, h4⟩, h5⟩ := ex_cells _ hf
  refine ⟨e, f.kv, ?_, by rw [← h3]; exact h4, h5⟩
  have : cs.toList = feRow f := hfr
  rw [← Array.toArray_toList (xs := cs), this, ← h1, ← h2, ← h3]
  rfl
theorem strs_open {sp : Nat → Bool} {v : Value} {d : DataW H} {p : List MemPlace} {r : Reach} {b0 : Nat} (hv : Value.okWide Tryd.prog W r b0 35 v) (h : DataW.Trod enc Tryd.prog W 0 sp true 35 v d p) : ∃ l : List Bytes, SlB W W.heap.size v l ∧ ∀ s ∈ l, (bs s).size ≤ 9223372036854775807 := by
  obtain ⟨a0, len0, cap0, rfl⟩ := okWide_slice Tryd.underlying35 hv
  obtain ⟨fuel, hf⟩ := h
  rcases DataW.trod_slice Tryd.underlying35 hf with ⟨hcs, _⟩ | ⟨a, len, cap, elems, rest, n, _, hcs, _, _, hl, hm, hel, hi, _⟩
  · simp [Value.cells] at hcs
    obtain ⟨rfl, rfl, rfl⟩ := hcs
    exact ⟨[], ⟨none, 0, rfl, Nat.le_refl _, by unfold maxLen; omega, fun h => absurd h (by simp)⟩, fun s h => by simp at h⟩
  · simp [Value.cells] at hcs
    obtain ⟨rfl, rfl, rfl⟩ := hcs
    exact sl_of_reads (row := strRow) (k := 1) (by decide) hl hm (reads_of_trod (k := 1) (by kernel_rfl) hi hel (fun cs x hx => by
      obtain ⟨s, hs, _, hz⟩ := DataW.trod_string Tryd.underlying9 hx
      exact ⟨s.data.toList, by rw [hs]; simp [strRow, bs_of], rfl, by rw [bs_of]; exact hz⟩))
end
end Go.Proofs.YtgoobhmbfjimoaaDoor
