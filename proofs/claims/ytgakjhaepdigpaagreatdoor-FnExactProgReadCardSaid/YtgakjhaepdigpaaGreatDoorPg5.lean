/- A row whose code reads a variable of the library's own: what that holds comes of the world's shape. -/
import Derived.Test.YtgakjhaepdigpaaGreatDoorZm15
import Derived.Test.YtgakjhaepdigpaaGreatDoorPg4
import Derived.Test.YtgakjhaepdigpaaGreatDoorRows
import Derived.Test.YtgakjhaepdigpaaGreatDoorCards
import Derived.Test.YtgakjhaepdigpaaGreatDoorTie
import Derived.HandedShaped
import Derived.OpenVars
import Derived.LaidMore
import Derived.OpenShut
import Derived.SevenTiedAt
import Derived.Lay
namespace Go.Proofs.YtgakjhaepdigpaaGreatDoor
set_option maxRecDepth 100000
set_option linter.unusedSimpArgs false
set_option linter.unusedVariables false
open Go.RowKit Go.ChangeShapes Go.WideShapes Go.ChangeAt

section
variable {H : Type} {enc : TypeId × Value → H}
theorem handed_shaped_and {a : Assume} {C : Checked} {os : Os} {f : FuncId} {fn : Func} {s : ChangeSpec} {conds : List PathCond} {apart fresh handsOn again : Bool} {X : World → Array Value → Prop}
    (hX : ∀ (w w' : World) (args : Array Value), w.heap = w'.heap → X w args → X w' args)
    (own : ownKnob C.prog.godebug = none) (started : os.Started) (noInit : C.prog.inits.idxOf? f = none) (hfn : C.prog.funcs[f]? = some fn)
    (wit : ∃ (w : World) (tape : Tape) (i : Input), w.os = os ∧ (w.forCall tape i).Shaped C.prog ∧ i.vars = [] ∧ Input.okWide C.prog (w.forCall tape i) .any w.heap.size f i ∧
      ((s.pre enc C.prog fn conds apart (w.forCall tape i).memory i.args ∧ X (w.forCall tape i).memory i.args) ∧ sizedMet enc C.prog fn (OpenSpec.ofChange s) apart (w.forCall tape i).memory i.args) ∧ a.holds C.prog (lone (Frame.enter C.prog f i.args .normal) [] (w.forCall tape i)))
    (con : ∀ (W : World) (base : Nat) (args : Array Value) (ds gs : List (DataW H)) (before : List MemPlace),
      (∀ (j : Nat) t v, fn.params[j]? = some t → args[j]? = some v → Value.okWide C.prog W .any base t v) →
      DataW.Whole enc C.prog fn.params.toList s.vars apart W args.toList ds gs before → X W args → W.ShapedOpen C.prog →
      Calls C.prog f args W fun e W' => ∃ v, e = .returned v ∧ s.post enc C.prog fn apart fresh handsOn again W args v W') :
    ReturnsInHanded a C os f .any (fun w args => (s.pre enc C.prog fn conds apart w args ∧ X w args) ∧ sizedMet enc C.prog fn (OpenSpec.ofChange s) apart w args) (s.post enc C.prog fn apart fresh handsOn again) := by
  refine returnsInHanded_of_calls own started noInit wit fun w tape i _ hsh _ hok hpre _ => ?_
  obtain ⟨_, _, _, fn', hfn', _, _, _, _, hval⟩ := hok
  cases Option.some.inj (hfn'.symm.trans hfn)
  obtain ⟨⟨⟨ds, gs, before, hw, _⟩, hx⟩, _⟩ := hpre
  refine (con (w.forCall tape i) w.heap.size i.args ds gs before hval (DataW.Whole.of_heap (w' := w.forCall tape i) (by rfl) hw) (hX _ _ _ (by rfl) hx) hsh).mono fun e W' ⟨v, he, hp⟩ => ?_
  cases he
  exact ChangeSpec.post_blind hp
end
theorem maxM_of {W : World} (h : W.ShapedOpen Tryz.prog) : MaxM W := Tryz.laysM146.s1_3 W h
def laidM : List (String × DataW Unit) := [("unicode/utf8.acceptRanges", Rows.laid_unicode_utf8_acceptRanges), ("unicode/utf8.first", Rows.laid_unicode_utf8_first)]
theorem laidM_plain (w : World) : laidMetH Tryz.prog laidM w ↔ laidMet Tryz.prog laidM w := by rw [MakeChecks.laidMetH_plain _ _ _ (by kernel_rfl)]
theorem laidM_met (os : Os) (args : Array Value) : laidMetH Tryz.prog laidM ((World.laidAll Tryz.prog os laidM).forCall (fun _ _ => 0) ⟨#[], args, []⟩).memory :=
  (laidM_plain _).2 (laidMet_laidAll _ (by kernel_rfl) (by kernel_rfl))
end Go.Proofs.YtgakjhaepdigpaaGreatDoor


/- What is laid where a row lists utf8's tables too: the program's environment; a start at which they hold so. -/
namespace Go.Proofs.YtgakjhaepdigpaaGreatDoor
set_option maxRecDepth 100000
set_option linter.unusedSimpArgs false
set_option linter.unusedVariables false
open Go.RowKit Go.ChangeShapes Go.WideShapes Go.ChangeAt Go.Deep

def laidP : List (String × DataW Unit) := [("math/bits.deBruijn32tab", Rows.laid_math_bits_deBruijn32tab), ("math/bits.deBruijn64tab", Rows.laid_math_bits_deBruijn64tab), ("internal/strconv.uint64pow10", Rows.laid_internal_strconv_uint64pow10), ("unicode/utf8.acceptRanges", Rows.laid_unicode_utf8_acceptRanges), ("strconv.ErrRange", Rows.laid_strconv_ErrRange), ("strconv.ErrSyntax", Rows.laid_strconv_ErrSyntax), ("loop.example/interlinear/impl.ownWords", Rows.laid_loop_example_interlinear_impl_ownWords), ("unicode/utf8.first", Rows.laid_unicode_utf8_first)]
theorem laidP_plain (w : World) : laidMetH Tryz.prog laidP w ↔ laidMet Tryz.prog laidP w := by rw [MakeChecks.laidMetH_plain _ _ _ (by kernel_rfl)]
set_option maxRecDepth 100000 in
theorem laidP_met (os : Os) (args : Array Value) : laidMetH Tryz.prog laidP ((World.laidAll Tryz.prog os laidP).forCall (fun _ _ => 0) ⟨#[], args, []⟩).memory :=
  (laidP_plain _).2 (laidMet_laidAll _ (by kernel_rfl) (by kernel_rfl))
theorem own_of_laid {r : List (String × DataW Unit)} {W : World} (h6 : laidMet Tryz.prog (("loop.example/interlinear/impl.ownWords", Rows.laid_loop_example_interlinear_impl_ownWords) :: r) W) : ∃ A c, W.cell? ⟨0, 0, none⟩ = some (.slice A 8 c) ∧ SlB W W.heap.size (.slice A 8 c) ownList := by
  obtain ⟨ps, ⟨g, t, cs, fuel, p, q, hg, ht, hv, hd, _, _⟩, _, _⟩ := h6
  obtain rfl := Option.some.inj (gOwn.symm.trans hg)
  have hty : (Tryz.prog.globals[0]?).map (·.type) = some 45 := by kernel_rfl
  obtain rfl := Option.some.inj (hty.symm.trans ht)
  rcases DataW.trod_slice Tryz.underlying45 hd with ⟨_, hx⟩ | ⟨a, len, cap, elems, rest, n, _, hcs, hx, _, hl, hm, hel, hi, _⟩
  · exfalso
    simp [Rows.laid_loop_example_interlinear_impl_ownWords] at hx
  simp only [Prod.mk.injEq, Rows.laid_loop_example_interlinear_impl_ownWords, DataW.slice.injEq] at hx
  have hem := hx.1.1
  have hlen : len = 8 := by
    have := congrArg List.length hem
    simp at this
    omega
  subst hlen
  have hown : ∀ i, i < 8 → W.cell? (a.add i) = some (.string (bs (ownList.getD i []))) := by
    intro i hi8
    have h1 := hi i hi8
    rw [List.getElem?_eq_getElem (by omega)] at h1
    obtain ⟨ci, hc, htr⟩ := Option.bind_eq_some_iff.1 h1
    obtain ⟨s, rfl, hs, _⟩ := DataW.trod_string Tryz.underlying9 htr
    obtain ⟨_, _, hat⟩ := World.cells?_some hc
    have e0 : Tryz.prog.cellsOf 9 = 1 := by kernel_rfl
    rw [e0, Nat.mul_one] at hat
    have h2 := hat 0 (by omega)
    have h3 : (elems.map (·.1))[i]? = some (.lit (.string s.data.toList)) := by
      rw [List.getElem?_map, List.getElem?_eq_getElem (by omega), hs]; rfl
    rw [← hem] at h3
    rw [add_of_add, Nat.add_zero] at h2
    rw [h2]
    have h4 : s.data.toList = ownList.getD i [] := by
      match i, hi8 with
      | 0, _ | 1, _ | 2, _ | 3, _ | 4, _ | 5, _ | 6, _ | 7, _ => simpa [ownList, cLet, cSay, cWhen, cAs, cPrint, cIf, cInt, cBool] using h3.symm
    have h5 : s = bs (ownList.getD i []) := by rw [← h4]; exact (bs_of s).symm
    rw [h5]
    rfl
  have hcell : W.cell? ⟨0, 0, none⟩ = some (.slice (some a) 8 cap) := by
    have := World.var?_cell gOwn hv 0
    rw [Array.eq_one_of_toList hcs] at this
    simpa using this
  obtain ⟨l, hS⟩ := sl_of_cells (row := strRow) (k := 1) (W := W) (by decide) hl hm (fun i hi8 => ⟨ownList.getD i [], rfl, fun j x hx => by
    have hj0 : j = 0 := by have := (List.getElem?_eq_some_iff.1 hx).1; simp [strRow] at this; omega
    subst hj0
    simp [strRow] at hx
    subst hx
    simpa using hown i hi8⟩)
  refine ⟨some a, cap, hcell, ?_⟩
  have hll : l = ownList := by
    obtain ⟨A, c, hva, hc, hm2, hh⟩ := hS
    obtain ⟨rfl, hl8, rfl⟩ : some a = A ∧ 8 = l.length ∧ cap = c := by injection hva; exact ⟨‹_›, ‹_›, ‹_›⟩
    obtain ⟨b, o, hA, hb, hx2⟩ := hh (by omega)
    obtain rfl := Option.some.inj hA
    apply List.ext_getElem
    · rw [← hl8]; rfl
    · intro i h1 h2
      have e1 := hx2 i _ (List.getElem?_eq_getElem h1) 0 _ rfl
      have e2 := hown i (by omega)
      rw [Addr.add_lit] at e2
      rw [Nat.mul_one, Nat.add_zero, e2] at e1
      have e3 : bs (ownList.getD i []) = bs l[i] := by simpa using e1
      have e4 := congrArg (fun x => x.data.toList) e3
      simp only [bs_data] at e4
      rw [← e4, List.getD_eq_getElem?_getD, List.getElem?_eq_getElem h2]
      rfl
  rw [← hll]
  exact hS
theorem enva_of_laidP {W : World} (h0 : laidMetH Tryz.prog laidP W) : EnvA W := by
  have h := (laidP_plain W).1 h0
  have h3 := h.tail.tail
  have h5 := h3.tail.tail
  have h7 := h5.tail.tail
  exact ⟨⟨own_of_laid h7, Lib.tabIs_of_head gTab (by kernel_rfl : (Tryz.prog.globals[2]?).map (·.type) = some 193) Tryz.underlying193 Tryz.underlying180 (by kernel_rfl) (by kernel_rfl) h3⟩,
    iface_cell h5.tail (by kernel_rfl : Tryz.prog.globalNamed "strconv.ErrSyntax" = some 3) (by kernel_rfl : (Tryz.prog.globals[3]?).map (·.type) = some 140) Tryz.underlying140, iface_cell h5 (by kernel_rfl : Tryz.prog.globalNamed "strconv.ErrRange" = some 4) (by kernel_rfl : (Tryz.prog.globals[4]?).map (·.type) = some 140) Tryz.underlying140⟩
end Go.Proofs.YtgakjhaepdigpaaGreatDoor
