/- From the data of a row's arguments to the words of the walks, and from a law's walk to the row's end. No condition. -/
import Derived.Test.YtgfbjpmbaibnoaaGreatDoorLib
import Derived.Test.YtgfbjpmbaibnoaaGreatDoorRows
import Derived.ProofKit
import Derived.Deep.Slices
import Derived.Test.YtgfbjpmbaibnoaaGreatDoorBas
import Derived.Test.YtgfbjpmbaibnoaaGreatDoorDwPQ
namespace Go.Proofs.YtgfbjpmbaibnoaaGreatDoor
set_option maxRecDepth 100000
set_option linter.unusedSimpArgs false
set_option linter.unusedVariables false
open Go.RowKit Go.ChangeShapes Go.WideShapes Go.ChangeAt Go.Deep

theorem own : ownKnob Tryz.prog.godebug = none := by kernel_rfl
theorem laidOut : laidOutB Tryz.prog = true := by kernel_rfl

section
variable {H : Type} {enc : TypeId × Value → H} {W W' : World}

/-- The arguments read behind the call as before it. -/
theorem trodAll_stays (hb : Below W.heap.size W W') {sp : Nat → Bool} : ∀ {ts : List TypeId} {vs : List Value} {ds : List (DataW H)} {ps : List MemPlace}, (∀ t ∈ ts, Tryz.prog.readableRec t = true ∧ t < Tryz.prog.types.size) →
    DataW.TrodAll enc Tryz.prog W 0 (fun _ => true) true ts vs ds ps → (∀ x ∈ ps, x.block < W.heap.size) → (∀ x ∈ ps, sp x.block = true) → DataW.TrodAll enc Tryz.prog W' 0 sp true ts vs ds ps
  | [], [], [], _, _, h, _, _ => h
  | [], [], _ :: _, _, _, h, _, _ => h.elim
  | [], _ :: _, _, _, _, h, _, _ => h.elim
  | _ :: _, [], _, _, _, h, _, _ => h.elim
  | _ :: _, _ :: _, [], _, _, h, _, _ => h.elim
  | t :: ts, v :: vs, d :: ds, ps, hr, h, hl, hs => by
    obtain ⟨p, q, h1, h2, rfl⟩ := h
    have h0 := hr t (List.mem_cons_self ..)
    exact ⟨p, q, WideElems.Trod_stays laidOut h0.1 h0.2 h1 (fun x hx => hb.same (hl x (List.mem_append_left _ hx))) (fun x hx => hs x (List.mem_append_left _ hx)),
      trodAll_stays hb (fun t' ht' => hr t' (List.mem_cons_of_mem _ ht')) h2 (fun x hx => hl x (List.mem_append_right _ hx)) (fun x hx => hs x (List.mem_append_right _ hx)), rfl⟩

/-- The end of a law's row: it answered true, and what was there is as it was. -/
theorem close_law {f : Func} {s : ChangeSpec} {args : Array Value} {ds : List (DataW H)} {before : List MemPlace}
    (hW : DataW.Whole enc Tryz.prog f.params.toList s.vars false W args.toList ds [] before) (hv : s.vars = []) (hrt : f.resultTypes = #[4]) (hr : ∀ t ∈ f.params.toList, Tryz.prog.readableRec t = true ∧ t < Tryz.prog.types.size)
    (hfn : s.fn H (ds ++ []) = { results := [.lit (.bool true)], args := ds }) (hb : Below W.heap.size W W') :
    s.post enc Tryz.prog f false true false false W args (.bool true) W' := by
  have hlt : ∀ p ∈ before, p.block < W.heap.size := fun p hp => hW.lt p hp
  have hW2 := hW
  obtain ⟨p, q, hA, hV, hpq, hz, hn⟩ := hW2
  have hq : q = [] := by rw [hv] at hV; exact hV
  rw [hq, List.append_nil] at hpq
  subst hpq
  have hres : ∀ (b : Nat) (sp : Nat → Bool) (hd : Bool), DataW.TrodAll enc Tryz.prog W' b sp hd f.resultTypes.toList ((Value.bool true).resultList f.resultTypes.size) (s.fn H (ds ++ [])).results [] := fun b sp hd => by
    rw [hfn, hrt]
    exact trodAll_mk1 (shut_bool Tryz.underlying4 true)
  have hargs : ∀ sp : Nat → Bool, (∀ x ∈ before, sp x.block = true) → DataW.TrodAll enc Tryz.prog W' 0 sp true f.params.toList args.toList (s.fn H (ds ++ [])).args before := fun sp hsp => by
    rw [hfn]
    exact trodAll_stays hb hr hA hlt hsp
  have hvars : ∀ sp : Nat → Bool, DataW.TrodVars enc Tryz.prog W' sp s.vars (s.fn H (ds ++ [])).vars [] := fun sp => by
    rw [hfn, hv]
    rfl
  have hold : ∀ p ∈ before, (fun b => decide (b < W.heap.size)) p.block = true := fun p hp => by simpa using hlt p hp
  refine ⟨ds, [], before, [], before, [], hW, hres _ _ _, hargs _ hold, hvars _, World.keptBut_mono (fun p hp => ⟨hp, Or.inr (by simpa using hp)⟩) (hb.frame (· ∈ before)), fun _ => ?_⟩
  refine ⟨?_, _, _, ([] ++ before) ++ [], ⟨[] ++ before, [], trodAll_append (hargs _ (fun _ _ => rfl)) (hres _ _ _), hvars _, rfl, ?_, ?_⟩, ?_⟩
  · exact ok_one (by rw [hrt]) rfl (okWide_bool_mk Tryz.underlying4 true)
  · intro b off hp
    have hin : MemPlace.cell b off ∈ before := by simpa using hp
    rw [hb.frozen (hlt _ hin)]
    exact hz b off hin
  · intro ha
    cases ha
  · intro p hp _
    simpa using hp

/-- A slice of rows of cells, out of its elements. -/
theorem sl_of_cells {α : Type} {row : α → List Value} {k len cap : Nat} {a : Addr} (hk : 0 < k) (hl : len ≤ cap) (hm : cap ≤ maxLen)
    (h : ∀ i, i < len → ∃ s : α, (row s).length = k ∧ ∀ (j : Nat) (x : Value), (row s)[j]? = some x → W.cell? (a.add (i * k + j)) = some x) : ∃ l : List α, Sl row k W W.heap.size (.slice (some a) len cap) l := by
  have key : ∀ n, n ≤ len → ∃ l : List α, l.length = n ∧ ∀ (i : Nat) (s : α), l[i]? = some s → (row s).length = k ∧ ∀ (j : Nat) (x : Value), (row s)[j]? = some x → W.cell? (a.add (i * k + j)) = some x := by
    intro n
    induction n with
    | zero => intro _; exact ⟨[], rfl, fun i s hs => by simp at hs⟩
    | succ n ih =>
      intro hn
      obtain ⟨l, hl, hh⟩ := ih (by omega)
      obtain ⟨s, h1, h2⟩ := h n (by omega)
      refine ⟨l ++ [s], by simp [hl], fun i t ht => ?_⟩
      by_cases e : i < n
      · rw [List.getElem?_append_left (by omega)] at ht
        exact hh i t ht
      · rw [List.getElem?_append_right (by omega)] at ht
        have hi : i - l.length = 0 := by
          have := (List.getElem?_eq_some_iff.1 ht).1
          simp at this
          omega
        rw [hi] at ht
        obtain rfl : s = t := by simpa using ht
        obtain rfl : i = n := by omega
        exact ⟨h1, h2⟩
  obtain ⟨l, hll, hh⟩ := key len (Nat.le_refl _)
  refine ⟨l, some a, cap, by rw [hll], by omega, hm, fun hpos => ?_⟩
  have hg : l[0]? = some l[0] := List.getElem?_eq_getElem hpos
  obtain ⟨h1, h2⟩ := hh 0 _ hg
  have hx := h2 0 _ (List.getElem?_eq_getElem (by omega))
  have hsp : a.spot = none := by
    simp only [Nat.zero_mul, Nat.add_zero] at hx
    unfold Addr.add at hx
    simp only [if_true] at hx
    unfold World.cell? at hx
    split at hx
    · cases hs : a.spot with
      | none => rfl
      | some _ => simp [hs] at hx
    · cases hx
  obtain ⟨b, o, sp⟩ := a
  simp only at hsp
  subst hsp
  refine ⟨b, o, rfl, by simpa [block_of_add] using World.block_lt_of_cell? _ _ hx, fun i s hs j x hj => ?_⟩
  have := (hh i s hs).2 j x hj
  rwa [Addr.add_lit, ← Nat.add_assoc] at this

end
end Go.Proofs.YtgfbjpmbaibnoaaGreatDoor


/- From the data of a row's arguments to the words of the walks: strings, trees, statements. No condition. -/
namespace Go.Proofs.YtgfbjpmbaibnoaaGreatDoor
set_option maxRecDepth 100000
set_option linter.unusedSimpArgs false
set_option linter.unusedVariables false
open Go.RowKit Go.ChangeShapes Go.WideShapes Go.ChangeAt Go.Deep
section
variable {H : Type} {enc : TypeId × Value → H} {W W' : World}

theorem list_choose {α β : Type} {R : α → β → Prop} : ∀ (fl : List α), (∀ f ∈ fl, ∃ e, R f e) → ∃ l : List β, fl.length = l.length ∧ ∀ (i : Nat) (f : α) (e : β), fl[i]? = some f → l[i]? = some e → R f e
  | [], _ => ⟨[], rfl, fun i f e h => by simp at h⟩
  | a :: fl, h => by
    obtain ⟨e, he⟩ := h a (by simp)
    obtain ⟨l, hl, hh⟩ := list_choose fl (fun f hf => h f (by simp [hf]))
    refine ⟨e :: l, by simp [hl], fun i f e' h1 h2 => ?_⟩
    cases i with
    | zero =>
      simp only [List.getElem?_cons_zero, Option.some.injEq] at h1 h2
      subst h1 h2
      exact he
    | succ i =>
      simp only [List.getElem?_cons_succ] at h1 h2
      exact hh i f e' h1 h2
/-- a slice of rows of cells, out of its elements, each with what it reads as -/
theorem sl_of_reads {α : Type} {row : α → List Value} {R : α → Prop} {k len cap : Nat} {a : Addr} (hk : 0 < k) (hl : len ≤ cap) (hm : cap ≤ maxLen)
    (h : ∀ i, i < len → ∃ s : α, (row s).length = k ∧ R s ∧ ∀ (j : Nat) (x : Value), (row s)[j]? = some x → W.cell? (a.add (i * k + j)) = some x) :
    ∃ l : List α, Sl row k W W.heap.size (.slice (some a) len cap) l ∧ ∀ f ∈ l, R f := by
  obtain ⟨l, hS⟩ := sl_of_cells (α := {s : α // R s}) (row := fun s => row s.1) hk hl hm (fun i hi => by
    obtain ⟨s, h1, h2, h3⟩ := h i hi
    exact ⟨⟨s, h2⟩, h1, h3⟩)
  obtain ⟨A, c, hv, hc, hm', hh⟩ := hS
  refine ⟨l.map (·.1), ⟨A, c, by rw [List.length_map]; exact hv, by rw [List.length_map]; exact hc, hm', fun hpos => ?_⟩, fun f hf => ?_⟩
  · rw [List.length_map] at hpos
    obtain ⟨b, o, hA, hb, hx⟩ := hh hpos
    refine ⟨b, o, hA, hb, fun i s hs j x hj => ?_⟩
    rw [List.getElem?_map, Option.map_eq_some_iff] at hs
    obtain ⟨t, ht, rfl⟩ := hs
    exact hx i t ht j x hj
  · obtain ⟨t, _, rfl⟩ := List.mem_map.1 hf
    exact t.2
/-- the elements of a slice, each read -/
theorem reads_of_trod {α : Type} {row : α → List Value} {R : α → Prop} {k : Nat} {e : TypeId} {n : Nat} {sp : Nat → Bool} {len : Nat} {a : Addr} {elems : List (DataW H × List MemPlace)} (hk : Tryz.prog.cellsOf e = k)
    (hi : ∀ i, i < len → (W.cells? 0 (a.add (i * Tryz.prog.cellsOf e)) (Tryz.prog.cellsOf e)).bind (DataW.trod enc Tryz.prog W 0 sp true n e) = elems[i]?) (hel : elems.length = len)
    (hone : ∀ (cs : List Value) (x : DataW H × List MemPlace), DataW.trod enc Tryz.prog W 0 sp true n e cs = some x → ∃ s : α, cs = row s ∧ (row s).length = k ∧ R s) :
    ∀ i, i < len → ∃ s : α, (row s).length = k ∧ R s ∧ ∀ (j : Nat) (x : Value), (row s)[j]? = some x → W.cell? (a.add (i * k + j)) = some x := by
  intro i him
  have h1 := hi i him
  rw [List.getElem?_eq_getElem (by omega)] at h1
  obtain ⟨cs, hc, ht⟩ := Option.bind_eq_some_iff.1 h1
  obtain ⟨s, rfl, hl, hr⟩ := hone cs _ ht
  obtain ⟨_, hcl, hat⟩ := World.cells?_some hc
  rw [hk] at hat
  refine ⟨s, hl, hr, fun j x hj => ?_⟩
  have hjk : j < k := by rw [← hl]; exact (List.getElem?_eq_some_iff.1 hj).1
  rw [← add_of_add, hat j hjk]
  exact hj
theorem ex_cells : ∀ (n : Nat) {sp : Nat → Bool} {cs : List Value} {x : DataW H × List MemPlace}, DataW.trod enc Tryz.prog W 0 sp true n 37 cs = some x →
    ∃ f : FE, cs = feRow f ∧ (feRow f).length = 4 ∧ ∃ e : Ex, (f.kind = e.kind ∧ f.n = e.n ∧ f.s = e.s ∧ f.s.length ≤ 9223372036854775807) ∧ ExS W W.heap.size f.kv e.kids := by
  intro n
  induction n using Nat.strongRecOn with
  | _ n ih =>
    intro sp cs x h
    obtain ⟨ys, n', hn', hy, hlen, hyl, hf⟩ := DataW.trod_struct Tryz.underlying37 h
    have h0 := hf 0 _ rfl
    have h1 := hf 1 _ rfl
    have h2 := hf 2 _ rfl
    have h3 := hf 3 _ rfl
    rw [List.getElem?_eq_getElem (by rw [hyl]; decide)] at h0 h1 h2 h3
    have hc : cs.length = 4 := hlen.trans (by kernel_rfl)
    match cs, hc with
    | [c0, c1, c2, c3], _ =>
      have e0 : Tryz.prog.cellsOf 3 = 1 := by kernel_rfl
      have e2 : Tryz.prog.cellsOf 9 = 1 := by kernel_rfl
      have e3 : Tryz.prog.cellsOf 35 = 1 := by kernel_rfl
      obtain ⟨a, ha, _, _⟩ := DataW.trod_int Tryz.underlying3 h0
      obtain ⟨b, hb, _, _⟩ := DataW.trod_int Tryz.underlying3 h1
      obtain ⟨s, hs, _, hsz⟩ := DataW.trod_string Tryz.underlying9 h2
      simp [e0, e2] at ha hb hs
      have hsz2 : s.data.toList.length ≤ 9223372036854775807 := by
        have : s.data.toList.length = s.size := by rw [Array.length_toList]; rfl
        unfold maxLen at hsz
        omega
      have hS : ∃ l : List Ex, ExS W W.heap.size c3 l := by
        rcases DataW.trod_slice Tryz.underlying35 h3 with ⟨hcs, _⟩ | ⟨a0, len, cap, elems, rest, n2, hn2, hcs, _, _, hl, hm, hel, hi, _⟩
        · simp [e3] at hcs
          subst hcs
          exact ⟨[], ExS.nil _ _⟩
        · simp [e3] at hcs
          subst hcs
          obtain ⟨fl, hSl, hR⟩ := sl_of_reads (row := feRow) (k := 4) (by decide) hl hm (reads_of_trod (k := 4) (by kernel_rfl) hi hel (fun cs x hx => ih n2 (by omega) hx))
          obtain ⟨l, hll, hh⟩ := list_choose fl hR
          exact ⟨l, .mk _ fl l hSl hll (fun i f e h1 h2 => (hh i f e h1 h2).1) (fun i f e h1 h2 => (hh i f e h1 h2).2)⟩
      obtain ⟨l, hl⟩ := hS
      exact ⟨⟨a, b, s.data.toList, c3⟩, by rw [ha, hb, hs]; simp [feRow, bs_of], rfl, .mk a b s.data.toList l, ⟨rfl, rfl, rfl, hsz2⟩, hl⟩
theorem ex_open {sp : Nat → Bool} {v : Value} {d : DataW H} {p : List MemPlace} {r : Reach} {b0 : Nat} (hv : Value.okWide Tryz.prog W r b0 37 v) (h : DataW.Trod enc Tryz.prog W 0 sp true 37 v d p) : ∃ e : Ex, ExV W W.heap.size v e := by
  obtain ⟨cs, rfl, hsz⟩ := okWide_struct Tryz.underlying37 hv
  obtain ⟨fuel, hf⟩ := h
  obtain ⟨f, hfr, _, e, ⟨h1, h2, h3, h4⟩, h5⟩ := ex_cells _ hf
  refine ⟨e, f.kv, ?_, by rw [← h3]; exact h4, h5⟩
  have : cs.toList = feRow f := hfr
  rw [← Array.toArray_toList (xs := cs), this, ← h1, ← h2, ← h3]
  rfl
theorem strs_open {sp : Nat → Bool} {v : Value} {d : DataW H} {p : List MemPlace} {r : Reach} {b0 : Nat} (hv : Value.okWide Tryz.prog W r b0 29 v) (h : DataW.Trod enc Tryz.prog W 0 sp true 29 v d p) : ∃ l : List Bytes, SlB W W.heap.size v l ∧ ∀ s ∈ l, (bs s).size ≤ 9223372036854775807 := by
  obtain ⟨a0, len0, cap0, rfl⟩ := okWide_slice Tryz.underlying29 hv
  obtain ⟨fuel, hf⟩ := h
  rcases DataW.trod_slice Tryz.underlying29 hf with ⟨hcs, _⟩ | ⟨a, len, cap, elems, rest, n, _, hcs, _, _, hl, hm, hel, hi, _⟩
  · simp [Value.cells] at hcs
    obtain ⟨rfl, rfl, rfl⟩ := hcs
    exact ⟨[], ⟨none, 0, rfl, Nat.le_refl _, by unfold maxLen; omega, fun h => absurd h (by simp)⟩, fun s h => by simp at h⟩
  · simp [Value.cells] at hcs
    obtain ⟨rfl, rfl, rfl⟩ := hcs
    exact sl_of_reads (row := strRow) (k := 1) (by decide) hl hm (reads_of_trod (k := 1) (by kernel_rfl) hi hel (fun cs x hx => by
      obtain ⟨s, hs, _, hz⟩ := DataW.trod_string Tryz.underlying9 hx
      exact ⟨s.data.toList, by rw [hs]; simp [strRow, bs_of], rfl, by rw [bs_of]; exact hz⟩))
end
end Go.Proofs.YtgfbjpmbaibnoaaGreatDoor


/- From the data of a law's code to bytes in memory. No condition. -/
namespace Go.Proofs.YtgfbjpmbaibnoaaGreatDoor
set_option maxRecDepth 100000
set_option linter.unusedSimpArgs false
set_option linter.unusedVariables false
open Go.RowKit Go.ChangeShapes Go.WideShapes Go.ChangeAt Go.Deep
section
variable {H : Type} {enc : TypeId × Value → H} {W W' : World}
theorem code_open {sp : Nat → Bool} {v : Value} {d : DataW H} {p : List MemPlace} {r : Reach} {b0 : Nat} (hv : Value.okWide Tryz.prog W r b0 22 v) (h : DataW.Trod enc Tryz.prog W 0 sp true 22 v d p) : ∃ l : List Int, CodeV W v l := by
  obtain ⟨a0, len0, cap0, rfl⟩ := okWide_slice Tryz.underlying22 hv
  obtain ⟨fuel, hf⟩ := h
  rcases DataW.trod_slice Tryz.underlying22 hf with ⟨hcs, _⟩ | ⟨a, len, cap, elems, rest, n, _, hcs, _, _, hl, hm, hel, hi, _⟩
  · simp [Value.cells] at hcs
    obtain ⟨rfl, rfl, rfl⟩ := hcs
    exact ⟨[], ⟨none, 0, rfl, Nat.le_refl _, by unfold maxLen; omega, fun h => absurd h (by simp)⟩, fun s h => by simp at h⟩
  · simp [Value.cells] at hcs
    obtain ⟨rfl, rfl, rfl⟩ := hcs
    exact sl_of_reads (row := byRow) (k := 1) (by decide) hl hm (reads_of_trod (k := 1) (by kernel_rfl) hi hel (fun cs x hx => by
      obtain ⟨n, hn, _, hz⟩ := DataW.trod_int Tryz.underlying5 hx
      refine ⟨n, hn, rfl, ?_⟩
      have h1 : IntKind.u8.min = 0 := by decide
      have h2 : IntKind.u8.max = 255 := by decide
      simp [Lit.wf, h1, h2] at hz
      omega))
end
end Go.Proofs.YtgfbjpmbaibnoaaGreatDoor
