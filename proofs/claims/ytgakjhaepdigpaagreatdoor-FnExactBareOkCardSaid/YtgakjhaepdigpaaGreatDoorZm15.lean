/- From the data of a row's arguments to the words of the walks, and from a law's walk to the row's end. No condition. -/
import Derived.Test.YtgakjhaepdigpaaGreatDoorLib
import Derived.Test.YtgakjhaepdigpaaGreatDoorRows
import Derived.ProofKit
import Derived.Deep.Slices
import Derived.Test.YtgakjhaepdigpaaGreatDoorBas
import Derived.Test.YtgakjhaepdigpaaGreatDoorZm12
import Derived.OpenVars
import Derived.LaidMore
import Derived.OpenShut
import Derived.Stop.LaidErr
import Derived.Stop.Joined
import Derived.Lib.LaidTab
import Derived.SevenTiedAt
import Derived.Test.YtgakjhaepdigpaaGreatDoorCards
import Derived.Test.YtgakjhaepdigpaaGreatDoorTie
namespace Go.Proofs.YtgakjhaepdigpaaGreatDoor
set_option maxRecDepth 100000
set_option linter.unusedSimpArgs false
set_option linter.unusedVariables false
open Go.RowKit Go.ChangeShapes Go.WideShapes Go.ChangeAt Go.Deep

theorem own : ownKnob Tryz.prog.godebug = none := by kernel_rfl
theorem laidOut : laidOutB Tryz.prog = true := by kernel_rfl

section
variable {H : Type} {enc : TypeId × Value → H} {W W' : World}

/-- The arguments read behind the call as before it. -/
theorem trodAll_stays (hb : Below W.heap.size W W') {sp : Nat → Bool} : ∀ {ts : List TypeId} {vs : List Value} {ds : List (DataW H)} {ps : List MemPlace}, (∀ t ∈ ts, Tryz.prog.readableRec t = true ∧ t < Tryz.prog.types.size) →
    DataW.TrodAll enc Tryz.prog W 0 (fun _ => true) true ts vs ds ps → (∀ x ∈ ps, x.block < W.heap.size) → (∀ x ∈ ps, sp x.block = true) → DataW.TrodAll enc Tryz.prog W' 0 sp true ts vs ds ps
  | [], [], [], _, _, h, _, _ => h
  | [], [], _ :: _, _, _, h, _, _ => h.elim
  | [], _ :: _, _, _, _, h, _, _ => h.elim
  | _ :: _, [], _, _, _, h, _, _ => h.elim
  | _ :: _, _ :: _, [], _, _, h, _, _ => h.elim
  | t :: ts, v :: vs, d :: ds, ps, hr, h, hl, hs => by
    obtain ⟨p, q, h1, h2, rfl⟩ := h
    have h0 := hr t (List.mem_cons_self ..)
    exact ⟨p, q, WideElems.Trod_stays laidOut h0.1 h0.2 h1 (fun x hx => hb.same (hl x (List.mem_append_left _ hx))) (fun x hx => hs x (List.mem_append_left _ hx)),
      trodAll_stays hb (fun t' ht' => hr t' (List.mem_cons_of_mem _ ht')) h2 (fun x hx => hl x (List.mem_append_right _ hx)) (fun x hx => hs x (List.mem_append_right _ hx)), rfl⟩

/-- The end of a law's row: it answered true, and what was there is as it was. -/
theorem close_law {f : Func} {s : ChangeSpec} {args : Array Value} {ds : List (DataW H)} {before : List MemPlace}
    (hW : DataW.Whole enc Tryz.prog f.params.toList s.vars false W args.toList ds [] before) (hv : s.vars = []) (hrt : f.resultTypes = #[4]) (hr : ∀ t ∈ f.params.toList, Tryz.prog.readableRec t = true ∧ t < Tryz.prog.types.size)
    (hfn : s.fn H (ds ++ []) = { results := [.lit (.bool true)], args := ds }) (hb : Below W.heap.size W W') :
    s.post enc Tryz.prog f false true false false W args (.bool true) W' := by
  have hlt : ∀ p ∈ before, p.block < W.heap.size := fun p hp => hW.lt p hp
  have hW2 := hW
  obtain ⟨p, q, hA, hV, hpq, hz, hn⟩ := hW2
  have hq : q = [] := by rw [hv] at hV; exact hV
  rw [hq, List.append_nil] at hpq
  subst hpq
  have hres : ∀ (b : Nat) (sp : Nat → Bool) (hd : Bool), DataW.TrodAll enc Tryz.prog W' b sp hd f.resultTypes.toList ((Value.bool true).resultList f.resultTypes.size) (s.fn H (ds ++ [])).results [] := fun b sp hd => by
    rw [hfn, hrt]
    exact trodAll_mk1 (shut_bool Tryz.underlying4 true)
  have hargs : ∀ sp : Nat → Bool, (∀ x ∈ before, sp x.block = true) → DataW.TrodAll enc Tryz.prog W' 0 sp true f.params.toList args.toList (s.fn H (ds ++ [])).args before := fun sp hsp => by
    rw [hfn]
    exact trodAll_stays hb hr hA hlt hsp
  have hvars : ∀ sp : Nat → Bool, DataW.TrodVars enc Tryz.prog W' sp s.vars (s.fn H (ds ++ [])).vars [] := fun sp => by
    rw [hfn, hv]
    rfl
  have hold : ∀ p ∈ before, (fun b => decide (b < W.heap.size)) p.block = true := fun p hp => by simpa using hlt p hp
  refine ⟨ds, [], before, [], before, [], hW, hres _ _ _, hargs _ hold, hvars _, World.keptBut_mono (fun p hp => ⟨hp, Or.inr (by simpa using hp)⟩) (hb.frame (· ∈ before)), fun _ => ?_⟩
  refine ⟨?_, _, _, ([] ++ before) ++ [], ⟨[] ++ before, [], trodAll_append (hargs _ (fun _ _ => rfl)) (hres _ _ _), hvars _, rfl, ?_, ?_⟩, ?_⟩
  · exact ok_one (by rw [hrt]) rfl (okWide_bool_mk Tryz.underlying4 true)
  · intro b off hp
    have hin : MemPlace.cell b off ∈ before := by simpa using hp
    rw [hb.frozen (hlt _ hin)]
    exact hz b off hin
  · intro ha
    cases ha
  · intro p hp _
    simpa using hp

/-- A slice of rows of cells, out of its elements. -/
theorem sl_of_cells {α : Type} {row : α → List Value} {k len cap : Nat} {a : Addr} (hk : 0 < k) (hl : len ≤ cap) (hm : cap ≤ maxLen)
    (h : ∀ i, i < len → ∃ s : α, (row s).length = k ∧ ∀ (j : Nat) (x : Value), (row s)[j]? = some x → W.cell? (a.add (i * k + j)) = some x) : ∃ l : List α, Sl row k W W.heap.size (.slice (some a) len cap) l := by
  have key : ∀ n, n ≤ len → ∃ l : List α, l.length = n ∧ ∀ (i : Nat) (s : α), l[i]? = some s → (row s).length = k ∧ ∀ (j : Nat) (x : Value), (row s)[j]? = some x → W.cell? (a.add (i * k + j)) = some x := by
    intro n
    induction n with
    | zero => intro _; exact ⟨[], rfl, fun i s hs => by simp at hs⟩
    | succ n ih =>
      intro hn
      obtain ⟨l, hl, hh⟩ := ih (by omega)
      obtain ⟨s, h1, h2⟩ := h n (by omega)
      refine ⟨l ++ [s], by simp [hl], fun i t ht => ?_⟩
      by_cases e : i < n
      · rw [List.getElem?_append_left (by omega)] at ht
        exact hh i t ht
      · rw [List.getElem?_append_right (by omega)] at ht
        have hi : i - l.length = 0 := by
          have := (List.getElem?_eq_some_iff.1 ht).1
          simp at this
          omega
        rw [hi] at ht
        obtain rfl : s = t := by simpa using ht
        obtain rfl : i = n := by omega
        exact ⟨h1, h2⟩
  obtain ⟨l, hll, hh⟩ := key len (Nat.le_refl _)
  refine ⟨l, some a, cap, by rw [hll], by omega, hm, fun hpos => ?_⟩
  have hg : l[0]? = some l[0] := List.getElem?_eq_getElem hpos
  obtain ⟨h1, h2⟩ := hh 0 _ hg
  have hx := h2 0 _ (List.getElem?_eq_getElem (by omega))
  have hsp : a.spot = none := by
    simp only [Nat.zero_mul, Nat.add_zero] at hx
    unfold Addr.add at hx
    simp only [if_true] at hx
    unfold World.cell? at hx
    split at hx
    · cases hs : a.spot with
      | none => rfl
      | some _ => simp [hs] at hx
    · cases hx
  obtain ⟨b, o, sp⟩ := a
  simp only at hsp
  subst hsp
  refine ⟨b, o, rfl, by simpa [block_of_add] using World.block_lt_of_cell? _ _ hx, fun i s hs j x hj => ?_⟩
  have := (hh i s hs).2 j x hj
  rwa [Addr.add_lit, ← Nat.add_assoc] at this

end
end Go.Proofs.YtgakjhaepdigpaaGreatDoor


/- From the data of a row's arguments to the words of the walks: strings, trees, statements. No condition. -/
namespace Go.Proofs.YtgakjhaepdigpaaGreatDoor
set_option maxRecDepth 100000
set_option linter.unusedSimpArgs false
set_option linter.unusedVariables false
open Go.RowKit Go.ChangeShapes Go.WideShapes Go.ChangeAt Go.Deep
section
variable {H : Type} {enc : TypeId × Value → H} {W W' : World}

theorem list_choose {α β : Type} {R : α → β → Prop} : ∀ (fl : List α), (∀ f ∈ fl, ∃ e, R f e) → ∃ l : List β, fl.length = l.length ∧ ∀ (i : Nat) (f : α) (e : β), fl[i]? = some f → l[i]? = some e → R f e
  | [], _ => ⟨[], rfl, fun i f e h => by simp at h⟩
  | a :: fl, h => by
    obtain ⟨e, he⟩ := h a (by simp)
    obtain ⟨l, hl, hh⟩ := list_choose fl (fun f hf => h f (by simp [hf]))
    refine ⟨e :: l, by simp [hl], fun i f e' h1 h2 => ?_⟩
    cases i with
    | zero =>
      simp only [List.getElem?_cons_zero, Option.some.injEq] at h1 h2
      subst h1 h2
      exact he
    | succ i =>
      simp only [List.getElem?_cons_succ] at h1 h2
      exact hh i f e' h1 h2
/-- a slice of rows of cells, out of its elements, each with what it reads as -/
theorem sl_of_reads {α : Type} {row : α → List Value} {R : α → Prop} {k len cap : Nat} {a : Addr} (hk : 0 < k) (hl : len ≤ cap) (hm : cap ≤ maxLen)
    (h : ∀ i, i < len → ∃ s : α, (row s).length = k ∧ R s ∧ ∀ (j : Nat) (x : Value), (row s)[j]? = some x → W.cell? (a.add (i * k + j)) = some x) :
    ∃ l : List α, Sl row k W W.heap.size (.slice (some a) len cap) l ∧ ∀ f ∈ l, R f := by
  obtain ⟨l, hS⟩ := sl_of_cells (α := {s : α // R s}) (row := fun s => row s.1) hk hl hm (fun i hi => by
    obtain ⟨s, h1, h2, h3⟩ := h i hi
    exact ⟨⟨s, h2⟩, h1, h3⟩)
  obtain ⟨A, c, hv, hc, hm', hh⟩ := hS
  refine ⟨l.map (·.1), ⟨A, c, by rw [List.length_map]; exact hv, by rw [List.length_map]; exact hc, hm', fun hpos => ?_⟩, fun f hf => ?_⟩
  · rw [List.length_map] at hpos
    obtain ⟨b, o, hA, hb, hx⟩ := hh hpos
    refine ⟨b, o, hA, hb, fun i s hs j x hj => ?_⟩
    rw [List.getElem?_map, Option.map_eq_some_iff] at hs
    obtain ⟨t, ht, rfl⟩ := hs
    exact hx i t ht j x hj
  · obtain ⟨t, _, rfl⟩ := List.mem_map.1 hf
    exact t.2
/-- the elements of a slice, each read -/
theorem reads_of_trod {α : Type} {row : α → List Value} {R : α → Prop} {k : Nat} {e : TypeId} {n : Nat} {sp : Nat → Bool} {len : Nat} {a : Addr} {elems : List (DataW H × List MemPlace)} (hk : Tryz.prog.cellsOf e = k)
    (hi : ∀ i, i < len → (W.cells? 0 (a.add (i * Tryz.prog.cellsOf e)) (Tryz.prog.cellsOf e)).bind (DataW.trod enc Tryz.prog W 0 sp true n e) = elems[i]?) (hel : elems.length = len)
    (hone : ∀ (cs : List Value) (x : DataW H × List MemPlace), DataW.trod enc Tryz.prog W 0 sp true n e cs = some x → ∃ s : α, cs = row s ∧ (row s).length = k ∧ R s) :
    ∀ i, i < len → ∃ s : α, (row s).length = k ∧ R s ∧ ∀ (j : Nat) (x : Value), (row s)[j]? = some x → W.cell? (a.add (i * k + j)) = some x := by
  intro i him
  have h1 := hi i him
  rw [List.getElem?_eq_getElem (by omega)] at h1
  obtain ⟨cs, hc, ht⟩ := Option.bind_eq_some_iff.1 h1
  obtain ⟨s, rfl, hl, hr⟩ := hone cs _ ht
  obtain ⟨_, hcl, hat⟩ := World.cells?_some hc
  rw [hk] at hat
  refine ⟨s, hl, hr, fun j x hj => ?_⟩
  have hjk : j < k := by rw [← hl]; exact (List.getElem?_eq_some_iff.1 hj).1
  rw [← add_of_add, hat j hjk]
  exact hj
theorem ex_cells : ∀ (n : Nat) {sp : Nat → Bool} {cs : List Value} {x : DataW H × List MemPlace}, DataW.trod enc Tryz.prog W 0 sp true n 55 cs = some x →
    ∃ f : FE, cs = feRow f ∧ (feRow f).length = 4 ∧ ∃ e : Ex, (f.kind = e.kind ∧ f.n = e.n ∧ f.s = e.s ∧ f.s.length ≤ 9223372036854775807) ∧ ExS W W.heap.size f.kv e.kids := by
  intro n
  induction n using Nat.strongRecOn with
  | _ n ih =>
    intro sp cs x h
    obtain ⟨ys, n', hn', hy, hlen, hyl, hf⟩ := DataW.trod_struct Tryz.underlying55 h
    have h0 := hf 0 _ rfl
    have h1 := hf 1 _ rfl
    have h2 := hf 2 _ rfl
    have h3 := hf 3 _ rfl
    rw [List.getElem?_eq_getElem (by rw [hyl]; decide)] at h0 h1 h2 h3
    have hc : cs.length = 4 := hlen.trans (by kernel_rfl)
    match cs, hc with
    | [c0, c1, c2, c3], _ =>
      have e0 : Tryz.prog.cellsOf 3 = 1 := by kernel_rfl
      have e2 : Tryz.prog.cellsOf 9 = 1 := by kernel_rfl
      have e3 : Tryz.prog.cellsOf 53 = 1 := by kernel_rfl
      obtain ⟨a, ha, _, _⟩ := DataW.trod_int Tryz.underlying3 h0
      obtain ⟨b, hb, _, _⟩ := DataW.trod_int Tryz.underlying3 h1
      obtain ⟨s, hs, _, hsz⟩ := DataW.trod_string Tryz.underlying9 h2
      simp [e0, e2] at ha hb hs
      have hsz2 : s.data.toList.length ≤ 9223372036854775807 := by
        have : s.data.toList.length = s.size := by rw [Array.length_toList]; rfl
        unfold maxLen at hsz
        omega
      have hS : ∃ l : List Ex, ExS W W.heap.size c3 l := by
        rcases DataW.trod_slice Tryz.underlying53 h3 with ⟨hcs, _⟩ | ⟨a0, len, cap, elems, rest, n2, hn2, hcs, _, _, hl, hm, hel, hi, _⟩
        · simp [e3] at hcs
          subst hcs
          exact ⟨[], ExS.nil _ _⟩
        · simp [e3] at hcs
          subst hcs
          obtain ⟨fl, hSl, hR⟩ := sl_of_reads (row := feRow) (k := 4) (by decide) hl hm (reads_of_trod (k := 4) (by kernel_rfl) hi hel (fun cs x hx => ih n2 (by omega) hx))
          obtain ⟨l, hll, hh⟩ := list_choose fl hR
          exact ⟨l, .mk _ fl l hSl hll (fun i f e h1 h2 => (hh i f e h1 h2).1) (fun i f e h1 h2 => (hh i f e h1 h2).2)⟩
      obtain ⟨l, hl⟩ := hS
      exact ⟨⟨a, b, s.data.toList, c3⟩, by rw [ha, hb, hs]; simp [feRow, bs_of], rfl, .mk a b s.data.toList l, ⟨rfl, rfl, rfl, hsz2⟩, hl⟩
theorem ex_open {sp : Nat → Bool} {v : Value} {d : DataW H} {p : List MemPlace} {r : Reach} {b0 : Nat} (hv : Value.okWide Tryz.prog W r b0 55 v) (h : DataW.Trod enc Tryz.prog W 0 sp true 55 v d p) : ∃ e : Ex, ExV W W.heap.size v e := by
  obtain ⟨cs, rfl, hsz⟩ := okWide_struct Tryz.underlying55 hv
  obtain ⟨fuel, hf⟩ := h
  obtain ⟨f, hfr, _, e, ⟨h1, h2, h3, h4⟩, h5⟩ := ex_cells _ hf
  refine ⟨e, f.kv, ?_, by rw [← h3]; exact h4, h5⟩
  have : cs.toList = feRow f := hfr
  rw [← Array.toArray_toList (xs := cs), this, ← h1, ← h2, ← h3]
  rfl
theorem strs_open {sp : Nat → Bool} {v : Value} {d : DataW H} {p : List MemPlace} {r : Reach} {b0 : Nat} (hv : Value.okWide Tryz.prog W r b0 45 v) (h : DataW.Trod enc Tryz.prog W 0 sp true 45 v d p) : ∃ l : List Bytes, SlB W W.heap.size v l ∧ ∀ s ∈ l, (bs s).size ≤ 9223372036854775807 := by
  obtain ⟨a0, len0, cap0, rfl⟩ := okWide_slice Tryz.underlying45 hv
  obtain ⟨fuel, hf⟩ := h
  rcases DataW.trod_slice Tryz.underlying45 hf with ⟨hcs, _⟩ | ⟨a, len, cap, elems, rest, n, _, hcs, _, _, hl, hm, hel, hi, _⟩
  · simp [Value.cells] at hcs
    obtain ⟨rfl, rfl, rfl⟩ := hcs
    exact ⟨[], ⟨none, 0, rfl, Nat.le_refl _, by unfold maxLen; omega, fun h => absurd h (by simp)⟩, fun s h => by simp at h⟩
  · simp [Value.cells] at hcs
    obtain ⟨rfl, rfl, rfl⟩ := hcs
    exact sl_of_reads (row := strRow) (k := 1) (by decide) hl hm (reads_of_trod (k := 1) (by kernel_rfl) hi hel (fun cs x hx => by
      obtain ⟨s, hs, _, hz⟩ := DataW.trod_string Tryz.underlying9 hx
      exact ⟨s.data.toList, by rw [hs]; simp [strRow, bs_of], rfl, by rw [bs_of]; exact hz⟩))
end
end Go.Proofs.YtgakjhaepdigpaaGreatDoor


/- A row that lists package variables: what they hold when the call begins, a start at which they do, and the end of such a law's row. -/
namespace Go.Proofs.YtgakjhaepdigpaaGreatDoor
set_option maxRecDepth 100000
set_option linter.unusedSimpArgs false
set_option linter.unusedVariables false
open Go.RowKit Go.ChangeShapes Go.WideShapes Go.ChangeAt Go.Deep

def laidL : List (String × DataW Unit) := [("math/bits.deBruijn32tab", Rows.laid_math_bits_deBruijn32tab), ("math/bits.deBruijn64tab", Rows.laid_math_bits_deBruijn64tab), ("internal/strconv.uint64pow10", Rows.laid_internal_strconv_uint64pow10), ("strconv.ErrRange", Rows.laid_strconv_ErrRange), ("strconv.ErrSyntax", Rows.laid_strconv_ErrSyntax), ("loop.example/interlinear/impl.ownWords", Rows.laid_loop_example_interlinear_impl_ownWords)]
theorem laidL_plain (w : World) : laidMetH Tryz.prog laidL w ↔ laidMet Tryz.prog laidL w := by rw [MakeChecks.laidMetH_plain _ _ _ (by kernel_rfl)]
theorem env_of_laid {W : World} (h0 : laidMetH Tryz.prog laidL W) : Env W := by
  have h := (laidL_plain W).1 h0
  have h3 := h.tail.tail
  have h6 := h3.tail.tail.tail
  refine ⟨?_, Lib.tabIs_of_head gTab (by kernel_rfl : (Tryz.prog.globals[2]?).map (·.type) = some 193) Tryz.underlying193 Tryz.underlying180 (by kernel_rfl) (by kernel_rfl) h3⟩
  obtain ⟨ps, ⟨g, t, cs, fuel, p, q, hg, ht, hv, hd, _, _⟩, _⟩ := h6
  obtain rfl := Option.some.inj (gOwn.symm.trans hg)
  have hty : (Tryz.prog.globals[0]?).map (·.type) = some 45 := by kernel_rfl
  obtain rfl := Option.some.inj (hty.symm.trans ht)
  rcases DataW.trod_slice Tryz.underlying45 hd with ⟨_, hx⟩ | ⟨a, len, cap, elems, rest, n, _, hcs, hx, _, hl, hm, hel, hi, _⟩
  · exfalso
    simp [Rows.laid_loop_example_interlinear_impl_ownWords] at hx
  simp only [Prod.mk.injEq, Rows.laid_loop_example_interlinear_impl_ownWords, DataW.slice.injEq] at hx
  have hem := hx.1.1
  have hlen : len = 8 := by
    have := congrArg List.length hem
    simp at this
    omega
  subst hlen
  have hown : ∀ i, i < 8 → W.cell? (a.add i) = some (.string (bs (ownList.getD i []))) := by
    intro i hi8
    have h1 := hi i hi8
    rw [List.getElem?_eq_getElem (by omega)] at h1
    obtain ⟨ci, hc, htr⟩ := Option.bind_eq_some_iff.1 h1
    obtain ⟨s, rfl, hs, _⟩ := DataW.trod_string Tryz.underlying9 htr
    obtain ⟨_, _, hat⟩ := World.cells?_some hc
    have e0 : Tryz.prog.cellsOf 9 = 1 := by kernel_rfl
    rw [e0, Nat.mul_one] at hat
    have h2 := hat 0 (by omega)
    have h3 : (elems.map (·.1))[i]? = some (.lit (.string s.data.toList)) := by
      rw [List.getElem?_map, List.getElem?_eq_getElem (by omega), hs]; rfl
    rw [← hem] at h3
    rw [add_of_add, Nat.add_zero] at h2
    rw [h2]
    have h4 : s.data.toList = ownList.getD i [] := by
      match i, hi8 with
      | 0, _ | 1, _ | 2, _ | 3, _ | 4, _ | 5, _ | 6, _ | 7, _ => simpa [ownList, cLet, cSay, cWhen, cAs, cPrint, cIf, cInt, cBool] using h3.symm
    have h5 : s = bs (ownList.getD i []) := by rw [← h4]; exact (bs_of s).symm
    rw [h5]
    rfl
  have hcell : W.cell? ⟨0, 0, none⟩ = some (.slice (some a) 8 cap) := by
    have := World.var?_cell gOwn hv 0
    rw [Array.eq_one_of_toList hcs] at this
    simpa using this
  obtain ⟨l, hS⟩ := sl_of_cells (row := strRow) (k := 1) (W := W) (by decide) hl hm (fun i hi8 => ⟨ownList.getD i [], rfl, fun j x hx => by
    have hj0 : j = 0 := by have := (List.getElem?_eq_some_iff.1 hx).1; simp [strRow] at this; omega
    subst hj0
    simp [strRow] at hx
    subst hx
    simpa using hown i hi8⟩)
  refine ⟨some a, cap, hcell, ?_⟩
  have hll : l = ownList := by
    obtain ⟨A, c, hva, hc, hm2, hh⟩ := hS
    obtain ⟨rfl, hl8, rfl⟩ : some a = A ∧ 8 = l.length ∧ cap = c := by injection hva; exact ⟨‹_›, ‹_›, ‹_›⟩
    obtain ⟨b, o, hA, hb, hx2⟩ := hh (by omega)
    obtain rfl := Option.some.inj hA
    apply List.ext_getElem
    · rw [← hl8]; rfl
    · intro i h1 h2
      have e1 := hx2 i _ (List.getElem?_eq_getElem h1) 0 _ rfl
      have e2 := hown i (by omega)
      rw [Addr.add_lit] at e2
      rw [Nat.mul_one, Nat.add_zero, e2] at e1
      have e3 : bs (ownList.getD i []) = bs l[i] := by simpa using e1
      have e4 := congrArg (fun x => x.data.toList) e3
      simp only [bs_data] at e4
      rw [← e4, List.getD_eq_getElem?_getD, List.getElem?_eq_getElem h2]
      rfl
  rw [← hll]
  exact hS
theorem door_met (os : Os) (args : Array Value) : laidMetH Tryz.prog laidL ((World.doorLaid Tryz.prog 400 os).forCall (fun _ _ => 0) ⟨#[], args, []⟩).memory :=
  laidMetH_of_parts3 (fuel := 8) (laidMet_of_run' 8 (by kernel_rfl) (by kernel_rfl)) (by kernel_rfl) (by kernel_rfl)
theorem one_var {H : Type} {enc : TypeId × Value → H} {W : World} {sp : Nat → Bool} {n : String} {gs : List (DataW H)} {ps : List MemPlace} (h : DataW.TrodVars enc Tryz.prog W sp [n] gs ps) : ∃ g, gs = [g] := by
  match gs, h with
  | [g], _ => exact ⟨g, rfl⟩
  | [], h => exact h.elim
  | g :: g2 :: r, h =>
    obtain ⟨_, _, _, _, _, _, _, _, _, _, h5, _⟩ := h
    exact h5.elim
section
variable {H : Type} {enc : TypeId × Value → H} {W W' : World}
open Go.WideElems
theorem vars_stay (hb : Below W.heap.size W W') {sp : Nat → Bool} : ∀ {ns : List String} {gs : List (DataW H)} {ps : List MemPlace}, varsRowed Tryz.prog ns = true → DataW.TrodVars enc Tryz.prog W (fun _ => true) ns gs ps → (∀ x ∈ ps, sp x.block = true) → DataW.TrodVars enc Tryz.prog W' sp ns gs ps
  | [], [], _, _, h, _ => h
  | [], _ :: _, _, _, h, _ => h.elim
  | _ :: _, [], _, _, h, _ => h.elim
  | n :: ns, d :: ds, ps, hv, h, hs => by
    have hlt := h.lt
    obtain ⟨g, t, cs, fuel, p, q, h1, h2, h3, h4, h5, e⟩ := h
    simp only [varsRowed, List.all_cons, Bool.and_eq_true] at hv
    have ht : Tryz.prog.readableRec t = true ∧ t < Tryz.prog.types.size := by
      have := hv.1
      rw [h1] at this
      cases hg : Tryz.prog.globals[g]? with
      | none => rw [hg] at h2; cases h2
      | some gl =>
        rw [hg] at h2
        obtain rfl : gl.type = t := Option.some.inj h2
        simpa [hg] using this
    have hp : ∀ x ∈ p, x ∈ ps := fun x hx => by rw [e]; simp [hx]
    have hq : ∀ x ∈ q, x ∈ ps := fun x hx => by rw [e]; simp [hx]
    have h3' : W'.var? Tryz.prog n = some cs := by
      unfold World.var? at h3 ⊢
      rw [h1] at h3 ⊢
      simp only [Option.bind_some] at h3 ⊢
      have hg : g < W.heap.size := by
        cases hh : W.heap[g]? with
        | none => rw [hh] at h3; cases h3
        | some o => exact (Array.getElem?_eq_some_iff.1 hh).1
      rw [hb.block g hg]; exact h3
    exact ⟨g, t, cs, fuel, p, q, h1, h2, h3', DataW.trod_stays (kids_book laidOut ht.1) (book_sized ht.1) (fun h => by cases h) ⟨ht.2, book_self t⟩ h4 (fun x hx => hb.same (hlt x (hp x hx))) (fun x hx => hs x (hp x hx)),
      vars_stay hb (by simpa [varsRowed] using hv.2) h5 (fun x hx => hs x (hq x hx)), e⟩
/-- The end of a law's row that names variables: it answered true, and what was there is as it was. -/
theorem close_law_v {f : Func} {s : ChangeSpec} {args : Array Value} {ds gs : List (DataW H)} {before : List MemPlace}
    (hW : DataW.Whole enc Tryz.prog f.params.toList s.vars false W args.toList ds gs before) (hv : varsRowed Tryz.prog s.vars = true) (hrt : f.resultTypes = #[4]) (hr : ∀ t ∈ f.params.toList, Tryz.prog.readableRec t = true ∧ t < Tryz.prog.types.size)
    (hfn : s.fn H (ds ++ gs) = { results := [.lit (.bool true)], args := ds, vars := gs }) (hb : Below W.heap.size W W') :
    s.post enc Tryz.prog f false true false false W args (.bool true) W' := by
  have hlt : ∀ p ∈ before, p.block < W.heap.size := fun p hp => hW.lt p hp
  have hW2 := hW
  obtain ⟨p, q, hA, hV, hpq, hz, hn⟩ := hW2
  subst hpq
  have hres : ∀ (b : Nat) (sp : Nat → Bool) (hd : Bool), DataW.TrodAll enc Tryz.prog W' b sp hd f.resultTypes.toList ((Value.bool true).resultList f.resultTypes.size) (s.fn H (ds ++ gs)).results [] := fun b sp hd => by
    rw [hfn, hrt]
    exact trodAll_mk1 (shut_bool Tryz.underlying4 true)
  have hargs : ∀ sp : Nat → Bool, (∀ x ∈ p ++ q, sp x.block = true) → DataW.TrodAll enc Tryz.prog W' 0 sp true f.params.toList args.toList (s.fn H (ds ++ gs)).args p := fun sp hsp => by
    rw [hfn]
    exact trodAll_stays hb hr hA (fun x hx => hlt x (List.mem_append_left _ hx)) (fun x hx => hsp x (List.mem_append_left _ hx))
  have hvars : ∀ sp : Nat → Bool, (∀ x ∈ p ++ q, sp x.block = true) → DataW.TrodVars enc Tryz.prog W' sp s.vars (s.fn H (ds ++ gs)).vars q := fun sp hsp => by
    rw [hfn]
    exact vars_stay hb hv hV (fun x hx => hsp x (List.mem_append_right _ hx))
  have hold : ∀ x ∈ p ++ q, (fun b => decide (b < W.heap.size)) x.block = true := fun x hx => by simpa using hlt x hx
  refine ⟨ds, gs, p ++ q, [], p, q, hW, hres _ _ _, hargs _ hold, hvars _ hold, World.keptBut_mono (fun x hx => ⟨hx, Or.inr (by simpa using hx)⟩) (hb.frame (· ∈ p ++ q)), fun _ => ?_⟩
  refine ⟨?_, _, _, ([] ++ p) ++ q, ⟨[] ++ p, q, trodAll_append (hargs _ (fun _ _ => rfl)) (hres _ _ _), hvars _ (fun _ _ => rfl), rfl, ?_, ?_⟩, ?_⟩
  · exact ok_one (by rw [hrt]) rfl (okWide_bool_mk Tryz.underlying4 true)
  · intro b off hp
    have hin : MemPlace.cell b off ∈ p ++ q := by simpa using hp
    rw [hb.frozen (hlt _ hin)]
    exact hz b off hin
  · intro ha
    cases ha
  · intro x hx _
    simpa using hx
end
end Go.Proofs.YtgakjhaepdigpaaGreatDoor


/- What the laid variables hold, the library's errors too. -/
namespace Go.Proofs.YtgakjhaepdigpaaGreatDoor
set_option maxRecDepth 100000
set_option linter.unusedSimpArgs false
set_option linter.unusedVariables false
open Go.RowKit Go.ChangeShapes Go.WideShapes Go.ChangeAt Go.Deep

theorem iface_cell {n nm : String} {d : DataW Unit} {r : List (String × DataW Unit)} {W : World} {g : Nat} {ti : TypeId} {ms : Array (String × TypeId)} (h : laidMet Tryz.prog ((n, .iface nm d) :: r) W) (hg : Tryz.prog.globalNamed n = some g) (ht : (Tryz.prog.globals[g]?).map (·.type) = some ti) (hi : Tryz.prog.underlying ti = some (.interface ms)) :
    ∃ tp p, W.cell? ⟨g, 0, none⟩ = some (.iface tp p) := by
  obtain ⟨ps, ⟨g0, t0, cs0, f0, p0, q0, hg0, ht0, hv0, hd0, _, _⟩, _, _⟩ := h
  obtain rfl := Option.some.inj (hg.symm.trans hg0)
  obtain rfl := Option.some.inj (ht.symm.trans ht0)
  obtain ⟨f1, u, v, hcs, _, _⟩ := iface_of_trod hi hd0
  have := World.var?_cell hg0 hv0 0
  rw [Array.eq_one_of_toList hcs] at this
  exact ⟨u, v, by simpa using this⟩
theorem enva_of_laid {W : World} (h0 : laidMetH Tryz.prog laidL W) : EnvA W := by
  have h := (laidL_plain W).1 h0
  have h4 := h.tail.tail.tail
  exact ⟨env_of_laid h0, iface_cell h4.tail (by kernel_rfl : Tryz.prog.globalNamed "strconv.ErrSyntax" = some 3) (by kernel_rfl : (Tryz.prog.globals[3]?).map (·.type) = some 140) Tryz.underlying140, iface_cell h4 (by kernel_rfl : Tryz.prog.globalNamed "strconv.ErrRange" = some 4) (by kernel_rfl : (Tryz.prog.globals[4]?).map (·.type) = some 140) Tryz.underlying140⟩
end Go.Proofs.YtgakjhaepdigpaaGreatDoor
