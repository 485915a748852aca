
/- A row that lists package variables: what they hold when the call begins, a start at which they do, and the end of such a law's row. -/
import Derived.Test.YtgfbjpmbaibnoaaGreatDoorOpens
import Derived.Test.YtgfbjpmbaibnoaaGreatDoorEnv
import Derived.Test.YtgfbjpmbaibnoaaGreatDoorRows
import Derived.OpenVars
import Derived.LaidMore
import Derived.OpenShut
import Derived.Stop.LaidErr
import Derived.Stop.Joined
import Derived.Lib.LaidTab
import Derived.SevenTiedAt
import Derived.Test.YtgfbjpmbaibnoaaGreatDoorCards
import Derived.Test.YtgfbjpmbaibnoaaGreatDoorTie
namespace Go.Proofs.YtgfbjpmbaibnoaaGreatDoor
set_option maxRecDepth 100000
set_option linter.unusedSimpArgs false
set_option linter.unusedVariables false
open Go.RowKit Go.ChangeShapes Go.WideShapes Go.ChangeAt Go.Deep

def laidL : List (String × DataW Unit) := [("math/bits.deBruijn32tab", Rows.laid_math_bits_deBruijn32tab), ("math/bits.deBruijn64tab", Rows.laid_math_bits_deBruijn64tab), ("internal/strconv.uint64pow10", Rows.laid_internal_strconv_uint64pow10), ("strconv.ErrRange", Rows.laid_strconv_ErrRange), ("strconv.ErrSyntax", Rows.laid_strconv_ErrSyntax), ("loop.example/interlinear/impl.ownWords", Rows.laid_loop_example_interlinear_impl_ownWords)]
theorem laidL_plain (w : World) : laidMetH Tryz.prog laidL w ↔ laidMet Tryz.prog laidL w := by rw [MakeChecks.laidMetH_plain _ _ _ (by kernel_rfl)]
theorem env_of_laid {W : World} (h0 : laidMetH Tryz.prog laidL W) : Env W := by
  have h := (laidL_plain W).1 h0
  have h3 := h.tail.tail
  have h6 := h3.tail.tail.tail
  refine ⟨?_, Lib.tabIs_of_head gTab (by kernel_rfl : (Tryz.prog.globals[2]?).map (·.type) = some 236) Tryz.underlying236 Tryz.underlying218 (by kernel_rfl) (by kernel_rfl) h3⟩
  obtain ⟨ps, ⟨g, t, cs, fuel, p, q, hg, ht, hv, hd, _, _⟩, _⟩ := h6
  obtain rfl := Option.some.inj (gOwn.symm.trans hg)
  have hty : (Tryz.prog.globals[0]?).map (·.type) = some 29 := by kernel_rfl
  obtain rfl := Option.some.inj (hty.symm.trans ht)
  rcases DataW.trod_slice Tryz.underlying29 hd with ⟨_, hx⟩ | ⟨a, len, cap, elems, rest, n, _, hcs, hx, _, hl, hm, hel, hi, _⟩
  · exfalso
    simp [Rows.laid_loop_example_interlinear_impl_ownWords] at hx
  simp only [Prod.mk.injEq, Rows.laid_loop_example_interlinear_impl_ownWords, DataW.slice.injEq] at hx
  have hem := hx.1.1
  have hlen : len = 8 := by
    have := congrArg List.length hem
    simp at this
    omega
  subst hlen
  have hown : ∀ i, i < 8 → W.cell? (a.add i) = some (.string (bs (ownList.getD i []))) := by
    intro i hi8
    have h1 := hi i hi8
    rw [List.getElem?_eq_getElem (by omega)] at h1
    obtain ⟨ci, hc, htr⟩ := Option.bind_eq_some_iff.1 h1
    obtain ⟨s, rfl, hs, _⟩ := DataW.trod_string Tryz.underlying9 htr
    obtain ⟨_, _, hat⟩ := World.cells?_some hc
    have e0 : Tryz.prog.cellsOf 9 = 1 := by kernel_rfl
    rw [e0, Nat.mul_one] at hat
    have h2 := hat 0 (by omega)
    have h3 : (elems.map (·.1))[i]? = some (.lit (.string s.data.toList)) := by
      rw [List.getElem?_map, List.getElem?_eq_getElem (by omega), hs]; rfl
    rw [← hem] at h3
    rw [add_of_add, Nat.add_zero] at h2
    rw [h2]
    have h4 : s.data.toList = ownList.getD i [] := by
      match i, hi8 with
      | 0, _ | 1, _ | 2, _ | 3, _ | 4, _ | 5, _ | 6, _ | 7, _ => simpa [ownList, cLet, cSay, cWhen, cAs, cPrint, cIf, cInt, cBool] using h3.symm
    have h5 : s = bs (ownList.getD i []) := by rw [← h4]; exact (bs_of s).symm
    rw [h5]
    rfl
  have hcell : W.cell? ⟨0, 0, none⟩ = some (.slice (some a) 8 cap) := by
    have := World.var?_cell gOwn hv 0
    rw [Array.eq_one_of_toList hcs] at this
    simpa using this
  obtain ⟨l, hS⟩ := sl_of_cells (row := strRow) (k := 1) (W := W) (by decide) hl hm (fun i hi8 => ⟨ownList.getD i [], rfl, fun j x hx => by
    have hj0 : j = 0 := by have := (List.getElem?_eq_some_iff.1 hx).1; simp [strRow] at this; omega
    subst hj0
    simp [strRow] at hx
    subst hx
    simpa using hown i hi8⟩)
  refine ⟨some a, cap, hcell, ?_⟩
  have hll : l = ownList := by
    obtain ⟨A, c, hva, hc, hm2, hh⟩ := hS
    obtain ⟨rfl, hl8, rfl⟩ : some a = A ∧ 8 = l.length ∧ cap = c := by injection hva; exact ⟨‹_›, ‹_›, ‹_›⟩
    obtain ⟨b, o, hA, hb, hx2⟩ := hh (by omega)
    obtain rfl := Option.some.inj hA
    apply List.ext_getElem
    · rw [← hl8]; rfl
    · intro i h1 h2
      have e1 := hx2 i _ (List.getElem?_eq_getElem h1) 0 _ rfl
      have e2 := hown i (by omega)
      rw [Addr.add_lit] at e2
      rw [Nat.mul_one, Nat.add_zero, e2] at e1
      have e3 : bs (ownList.getD i []) = bs l[i] := by simpa using e1
      have e4 := congrArg (fun x => x.data.toList) e3
      simp only [bs_data] at e4
      rw [← e4, List.getD_eq_getElem?_getD, List.getElem?_eq_getElem h2]
      rfl
  rw [← hll]
  exact hS
theorem door_met (os : Os) (args : Array Value) : laidMetH Tryz.prog laidL ((World.doorLaid Tryz.prog 400 os).forCall (fun _ _ => 0) ⟨#[], args, []⟩).memory :=
  laidMetH_of_parts3 (fuel := 8) (laidMet_of_run' 8 (by kernel_rfl) (by kernel_rfl)) (by kernel_rfl) (by kernel_rfl)
theorem one_var {H : Type} {enc : TypeId × Value → H} {W : World} {sp : Nat → Bool} {n : String} {gs : List (DataW H)} {ps : List MemPlace} (h : DataW.TrodVars enc Tryz.prog W sp [n] gs ps) : ∃ g, gs = [g] := by
  match gs, h with
  | [g], _ => exact ⟨g, rfl⟩
  | [], h => exact h.elim
  | g :: g2 :: r, h =>
    obtain ⟨_, _, _, _, _, _, _, _, _, _, h5, _⟩ := h
    exact h5.elim
section
variable {H : Type} {enc : TypeId × Value → H} {W W' : World}
open Go.WideElems
theorem vars_stay (hb : Below W.heap.size W W') {sp : Nat → Bool} : ∀ {ns : List String} {gs : List (DataW H)} {ps : List MemPlace}, varsRowed Tryz.prog ns = true → DataW.TrodVars enc Tryz.prog W (fun _ => true) ns gs ps → (∀ x ∈ ps, sp x.block = true) → DataW.TrodVars enc Tryz.prog W' sp ns gs ps
  | [], [], _, _, h, _ => h
  | [], _ :: _, _, _, h, _ => h.elim
  | _ :: _, [], _, _, h, _ => h.elim
  | n :: ns, d :: ds, ps, hv, h, hs => by
    have hlt := h.lt
    obtain ⟨g, t, cs, fuel, p, q, h1, h2, h3, h4, h5, e⟩ := h
    simp only [varsRowed, List.all_cons, Bool.and_eq_true] at hv
    have ht : Tryz.prog.readableRec t = true ∧ t < Tryz.prog.types.size := by
      have := hv.1
      rw [h1] at this
      cases hg : Tryz.prog.globals[g]? with
      | none => rw [hg] at h2; cases h2
      | some gl =>
        rw [hg] at h2
        obtain rfl : gl.type = t := Option.some.inj h2
        simpa [hg] using this
    have hp : ∀ x ∈ p, x ∈ ps := fun x hx => by rw [e]; simp [hx]
    have hq : ∀ x ∈ q, x ∈ ps := fun x hx => by rw [e]; simp [hx]
    have h3' : W'.var? Tryz.prog n = some cs := by
      unfold World.var? at h3 ⊢
      rw [h1] at h3 ⊢
      simp only [Option.bind_some] at h3 ⊢
      have hg : g < W.heap.size := by
        cases hh : W.heap[g]? with
        | none => rw [hh] at h3; cases h3
        | some o => exact (Array.getElem?_eq_some_iff.1 hh).1
      rw [hb.block g hg]; exact h3
    exact ⟨g, t, cs, fuel, p, q, h1, h2, h3', DataW.trod_stays (kids_book laidOut ht.1) (book_sized ht.1) (fun h => by cases h) ⟨ht.2, book_self t⟩ h4 (fun x hx => hb.same (hlt x (hp x hx))) (fun x hx => hs x (hp x hx)),
      vars_stay hb (by simpa [varsRowed] using hv.2) h5 (fun x hx => hs x (hq x hx)), e⟩
/-- The end of a law's row that names variables: it answered true, and what was there is as it was. -/
theorem close_law_v {f : Func} {s : ChangeSpec} {args : Array Value} {ds gs : List (DataW H)} {before : List MemPlace}
    (hW : DataW.Whole enc Tryz.prog f.params.toList s.vars false W args.toList ds gs before) (hv : varsRowed Tryz.prog s.vars = true) (hrt : f.resultTypes = #[4]) (hr : ∀ t ∈ f.params.toList, Tryz.prog.readableRec t = true ∧ t < Tryz.prog.types.size)
    (hfn : s.fn H (ds ++ gs) = { results := [.lit (.bool true)], args := ds, vars := gs }) (hb : Below W.heap.size W W') :
    s.post enc Tryz.prog f false true false false W args (.bool true) W' := by
  have hlt : ∀ p ∈ before, p.block < W.heap.size := fun p hp => hW.lt p hp
  have hW2 := hW
  obtain ⟨p, q, hA, hV, hpq, hz, hn⟩ := hW2
  subst hpq
  have hres : ∀ (b : Nat) (sp : Nat → Bool) (hd : Bool), DataW.TrodAll enc Tryz.prog W' b sp hd f.resultTypes.toList ((Value.bool true).resultList f.resultTypes.size) (s.fn H (ds ++ gs)).results [] := fun b sp hd => by
    rw [hfn, hrt]
    exact trodAll_mk1 (shut_bool Tryz.underlying4 true)
  have hargs : ∀ sp : Nat → Bool, (∀ x ∈ p ++ q, sp x.block = true) → DataW.TrodAll enc Tryz.prog W' 0 sp true f.params.toList args.toList (s.fn H (ds ++ gs)).args p := fun sp hsp => by
    rw [hfn]
    exact trodAll_stays hb hr hA (fun x hx => hlt x (List.mem_append_left _ hx)) (fun x hx => hsp x (List.mem_append_left _ hx))
  have hvars : ∀ sp : Nat → Bool, (∀ x ∈ p ++ q, sp x.block = true) → DataW.TrodVars enc Tryz.prog W' sp s.vars (s.fn H (ds ++ gs)).vars q := fun sp hsp => by
    rw [hfn]
    exact vars_stay hb hv hV (fun x hx => hsp x (List.mem_append_right _ hx))
  have hold : ∀ x ∈ p ++ q, (fun b => decide (b < W.heap.size)) x.block = true := fun x hx => by simpa using hlt x hx
  refine ⟨ds, gs, p ++ q, [], p, q, hW, hres _ _ _, hargs _ hold, hvars _ hold, World.keptBut_mono (fun x hx => ⟨hx, Or.inr (by simpa using hx)⟩) (hb.frame (· ∈ p ++ q)), fun _ => ?_⟩
  refine ⟨?_, _, _, ([] ++ p) ++ q, ⟨[] ++ p, q, trodAll_append (hargs _ (fun _ _ => rfl)) (hres _ _ _), hvars _ (fun _ _ => rfl), rfl, ?_, ?_⟩, ?_⟩
  · exact ok_one (by rw [hrt]) rfl (okWide_bool_mk Tryz.underlying4 true)
  · intro b off hp
    have hin : MemPlace.cell b off ∈ p ++ q := by simpa using hp
    rw [hb.frozen (hlt _ hin)]
    exact hz b off hin
  · intro ha
    cases ha
  · intro x hx _
    simpa using hx
end
end Go.Proofs.YtgfbjpmbaibnoaaGreatDoor
