/- Programs that are drawn. -/
import Derived.Test.YtgakjhaepdigpaaGreatDoorDwS
import Derived.Deep.RegionLaw
namespace Go.Proofs.YtgakjhaepdigpaaGreatDoor
set_option maxRecDepth 100000
set_option linter.unusedSimpArgs false
set_option linter.unusedVariables false
open Go.RowKit
attribute [local go_sem] bs_toList bs_get bs_size

def DrewP (rb p q n : Nat) (w : World) (e : Ending) (w' : World) : Prop := ∃ (u : Value) (l : List Sm) (p' : Nat), e = .returned u ∧ DrS w.heap.size w' u l ∧ (∀ s ∈ l, s.name ≠ cNew) ∧ l.length ≤ n ∧ Rd w' rb p' ∧ p' ≤ p + q ∧ w.grownBy w' (some rb)
theorem fs_all {lo : Nat} {w : World} {fl : List FS} {l : List Sm} (hl : fl.length = l.length) (h : ∀ (i : Nat) (f : FS) (s : Sm), fl[i]? = some f → l[i]? = some s → DrF lo w f s) : ∀ s ∈ fl, ∀ u ∈ fsRow s, u.oneCell' = true := by
  intro f hf u hu
  obtain ⟨i, hi⟩ := List.mem_iff_getElem?.1 hf
  have hil := (List.getElem?_eq_some_iff.1 hi).1
  obtain ⟨_, _, _, _, _, _, _, _, _, _, x1, x2⟩ := h i f l[i] hi (List.getElem?_eq_getElem (by omega))
  obtain ⟨A1, c1, e1, _, _⟩ := x1.val
  obtain ⟨A2, c2, e2, _, _⟩ := x2.val
  simp [fsRow, e1, e2] at hu
  rcases hu with rfl | rfl | rfl | rfl | rfl | rfl | rfl | rfl | rfl | rfl | rfl <;> rfl
/-- a drawn statement as cells -/
theorem DrV.drf {lo : Nat} {w : World} {k : Int} {nm ty : Bytes} {k1 n1 : Int} {s1 : Bytes} {v1 : Value} {k2 n2 : Int} {s2 : Bytes} {v2 : Value} {a b : Ex} (h1 : DrE lo w (.agg #[.int .i64 k1, .int .i64 n1, .string (bs s1), v1]) a) (h2 : DrE lo w (.agg #[.int .i64 k2, .int .i64 n2, .string (bs s2), v2]) b) (hn : nm.length ≤ 9223372036854775807) (ht : ty.length ≤ 9223372036854775807) :
    DrF lo w ⟨k, nm, ty, k1, n1, s1, v1, k2, n2, s2, v2⟩ ⟨k, nm, ty, a, b⟩ := by
  obtain ⟨kv, he, hs, hk⟩ := h1
  obtain ⟨kv', he', hs', hk'⟩ := h2
  simp at he he'
  obtain ⟨rfl, rfl, hss, rfl⟩ := he
  obtain ⟨rfl, rfl, hss', rfl⟩ := he'
  have e1 := bs_inj hss
  have e2 := bs_inj hss'
  subst e1 e2
  exact ⟨rfl, rfl, rfl, rfl, rfl, rfl, rfl, rfl, rfl, ⟨hn, ht, hs, hs'⟩, hk, hk'⟩
theorem DrS.nil {lo : Nat} {w w' : World} (hB : lo ≤ w.heap.size) (h : Below (w.heap.size + 1) (w.alloc (.cells #[] 26)) w') : DrS lo w' (.slice (some ⟨w.heap.size, 0, none⟩) 0 0) [] := ⟨[], gt_empty fsRow 11 26 w w' hB h, rfl, fun i f s h => by simp at h⟩
theorem DrS.own {lo : Nat} {w : World} {u : Value} {l : List Sm} (h : DrS lo w u l) : ∀ k, u.ownBlock = some k → lo ≤ k := by
  obtain ⟨fl, h1, _⟩ := h; exact fun b hb => (h1.lt hb).1
theorem Gt.gr {α : Type} {row : α → List Value} {k lo rb : Nat} {t : TypeId} {w w' : World} {u : Value} {m : List α} (h : Gt row k t lo w u m) (hg : w.grownBy w' (some rb)) (hr : rb < lo) : Gt row k t lo w' u m := by
  refine h.grown hg ?_
  rcases hq : u.ownBlock with _ | q
  · exact .inl rfl
  · right
    intro e
    have := (h.lt hq).1
    have := Option.some.inj e
    omega
theorem news_at {V : World} {n : Nat} {l : List FS} {t : TypeId} (h : V.heap.size = n) : ∀ (j : Nat) (u : Value), (l.flatMap fsRow)[j]? = some u → (V.alloc (.cells (l.flatMap fsRow).toArray t)).cell? ((⟨n, 0, none⟩ : Addr).add j) = some u := h ▸ World.news_of_block (heap_alloc_new V _)
theorem Rd.app {w w' : World} {rb p lo : Nat} {u : Value} {l : List Sm} (h : Rd w rb p) (hu : DrS lo w u l) (hr : rb < lo) (hg : w.grownBy w' u.ownBlock) : Rd w' rb p := h.grown hg (fun q e => by have := hu.own q e; omega)
theorem let_push {wr wb w6 w0 : World} {rb p g cap : Nat} {u : Value} {fl : List FS} {l : List Sm} {f : FS} {s : Sm} (HF : ∀ w' : World, wr.grownBy w' (some rb) → GtF w0.heap.size w' u fl ∧ ∀ (i : Nat) (f : FS) (s : Sm), fl[i]? = some f → l[i]? = some s → DrF w0.heap.size w' f s)
    (hgr : wb.grownBy w6 u.ownBlock) (h1 : wr.grownBy wb (some rb)) (hR : Rd wb rb p) (h2 : w0.grownBy wb (some rb)) (hfl : fl.length = l.length) (hG : GtF w0.heap.size w6 (.slice (some ⟨g, 0, none⟩) (fl.length + 1) cap) (fl ++ [f])) (hrb : rb < w0.heap.size) (hf : ∀ (lo : Nat) (w : World), DrF lo w f s) :
    DrS w0.heap.size w6 (.slice (some ⟨g, 0, none⟩) (fl.length + 1) cap) (l ++ [s]) ∧ True ∧ Rd w6 rb p ∧ w0.grownBy w6 (some rb) := by
  obtain ⟨hG5, hF5⟩ := HF wb h1
  have hS5 : DrS w0.heap.size wb u l := ⟨fl, hG5, hfl, hF5⟩
  exact ⟨DrS.push hG5 hfl hF5 (hf _ _) hG hgr, trivial, hR.app hS5 hrb hgr, grown_app h2 hgr hS5.own⟩
def nm3 (j : Nat) : Bytes := ([[120], [121], [122]] : List Bytes).getD j []
def fLet (j : Nat) (n : Int) : FS := ⟨1, nm3 j, [105, 110, 116], 1, n, [], .slice none 0 0, 0, 0, [], .slice none 0 0⟩
theorem fLet_one (j : Nat) (n : Int) : ∀ u ∈ fsRow (fLet j n), u.oneCell' = true := fs_one (f := fLet j n) rfl rfl _ (List.mem_singleton.2 rfl)
def sLet (j : Nat) (n : Int) : Sm := ⟨1, nm3 j, [105, 110, 116], .mk 1 n [] [], Ex.none⟩
set_option maxHeartbeats 4000000 in
theorem l6Prog_any (rb p : Nat) (w : World) (h : Rd w rb p) (hp : p + 1613 ≤ 1000000) : Calls Tryz.prog 144 #[.pointer (some ⟨rb, 0, none⟩)] w (DrewP rb p 1613 9 w) := by
  have hrb := h.lt
  go_enter Tryz.func144, Tryz.ntmps144
  go_upto_region 2 with fail
  have hS1 : DrS w.heap.size (w.alloc (.cells #[] 26)) (.slice (some ⟨w.heap.size, 0, none⟩) 0 0) [] := DrS.nil (Nat.le_refl _) (Below.refl _ _)
  have hR1 := h.alloc (.cells #[] 26)
  have hg1 : w.grownBy (w.alloc (.cells #[] 26)) (some rb) := grown_al (grown_rfl _ _) _
  clear h
  generalize hW : World.alloc w _ = W1 at *
  clear hW
  go_wp2_with fail
  refine (pick_any rb _ 4 _ hR1 (by omega) (by omega) (by omega)).mono ?_
  rintro r w2 ⟨k2, rfl, hk2, hk2', hR2, hg2⟩
  have hS2 := hS1.grown hg2 (fun q e => by have := Option.some.inj e; omega)
  have hgw2 := grown_tr hg1 hg2
  clear hS1 hR1 hg1 hg2
  obtain ⟨b, hb⟩ : ∃ b, decide (0 < k2) = b := ⟨_, rfl⟩
  go_upto_if 9 with fail
  clear hb hk2 hk2'
  go_cut [3, 4] (fun o i wx => ∃ (l : List Sm) (q : Nat), DrS w.heap.size wx o l ∧ (∀ s ∈ l, s.name ≠ cNew) ∧ l.length ≤ 3 ∧ Rd wx rb q ∧ q ≤ p + 4 ∧ w.grownBy wx (some rb))
  case first =>
    have HX := Lib.hid (And.intro hS2 (And.intro hR2 hgw2))
    clear hS2 hR2 hgw2
    cases b
    · go_wp2_with fail
      go_meet
      exact ⟨[], _, HX.out.1, fun s hs => by simp at hs, by simp, HX.out.2.1, by omega, HX.out.2.2⟩
    go_wp2_with fail
    go_loopg [3, 4] 3 (fun k o i wr => ∃ (j : Nat) (l : List Sm), k = 3 - j ∧ j ≤ 3 ∧ i = .int .i64 j ∧ DrS w.heap.size wr o l ∧ (∀ s ∈ l, s.name ≠ cNew) ∧ l.length = j ∧ Rd wr rb (p + 1 + j) ∧ w.grownBy wr (some rb))
    case atStart => exact ⟨0, [], by omega, by omega, rfl, HX.out.1, fun s hs => by simp at hs, rfl, HX.out.2.1, HX.out.2.2⟩
    case round =>
      obtain ⟨j, l, hk, hj, rfl, hS, hN, hlj, hR, hg⟩ := hrel
      have HK := Lib.hid (And.intro hk (And.intro hN hlj))
      have hl3 : l.length ≤ 3 := by omega
      clear hk hN hlj HX
      have hzg := hg.size
      by_cases hlt : j < 3
      rotate_left
      · have HY := Lib.hid (And.intro hS (And.intro hR hg))
        clear hS hR hg
        go_wp2_with fail
        go_meet
        exact ⟨l, _, HY.out.1, HK.out.2.1, by omega, HY.out.2.1, by omega, HY.out.2.2⟩
      · have HG := Lib.hid hg
        clear hg
        obtain rfl | rfl | rfl : j = 0 ∨ j = 1 ∨ j = 2 := by omega
        · go_wp2_with fail
          obtain ⟨fl, hG0, hfl, hF0⟩ := hS
          have hl4 : fl.length + 1 ≤ 1000000 := by omega
          have HF := Lib.hid (fun (w' : World) (hh : wr.grownBy w' (some rb)) => And.intro (hG0.gr hh hrb) (fun (i : Nat) (f : FS) (s : Sm) (h1 : fl[i]? = some f) (h2 : l[i]? = some s) => (hF0 i f s h1 h2).grown hh (fun q e => by have := Option.some.inj e; omega)))
          clear hG0 hF0
          go_region_law
            (first
              | (refine app_stepF (by rfl) (.tmp 14) (.tmp 23) (by rfl) w.heap.size u3 fl (by rfl) ?_ (fLet 0 k5) (fLet_one _ _) (wr.heap.size + 1) (by rfl) ?_ hl4 ?_ ?_; exact (HF.out _ (by (repeat (first | with_reducible assumption | with_reducible exact grown_rfl _ _ | with_reducible refine grown_al ?_ _ | with_reducible refine grown_sn ?_ (by first | omega | (simp; done) | (simp; omega)) _ _ | with_reducible refine grown_dr ?_ | with_reducible refine grown_tr ?_ hg5)))).1; exact news_at (by first | exact hz5 | (simp; omega)); (first | omega | (simp; done) | (simp only [List.length_cons, List.length_nil, List.length_append]; omega) | (simp; omega)); intro g6 cap6 w6 hG6 hgr6 hat6)
              | (go_simp; go_at_call 109; refine (pick_all rb _ 9 wr.drew hR.drew (by omega) (by omega) (by omega)).mono ?_; rintro r w5 ⟨⟨k5, rfl, hk5, hk5', hR5, hg5⟩, hz5⟩; replace hz5 : w5.heap.size = wr.heap.size := hz5)
              | (go_simp; go_at_call 109; refine (pick_all rb _ 9 (wr.alloc (.cells #[.string ⟨#[120]⟩, .string ⟨#[121]⟩, .string ⟨#[122]⟩] 9)).drew (hR.alloc _).drew (by omega) (by omega) (by omega)).mono ?_; rintro r w5 ⟨⟨k5, rfl, hk5, hk5', hR5, hg5⟩, hz5⟩; simp at hz5; have hm := blk_gr (Blk.new wr 9 #[.string ⟨#[120]⟩, .string ⟨#[121]⟩, .string ⟨#[122]⟩]).drew hg5 (by omega); have m0 := hm.cell 0; have m1 := hm.cell 1; have m2 := hm.cell 2; simp at m0 m1 m2; clear hm)
              | fail)
          all_goals
            have HW := Lib.hid (And.intro hG6 (And.intro hgr6 (And.intro hR5 hg5)))
            clear hG6 hgr6 hat6 hR5 hg5 hR
            go_wp2_with fail
            go_roundg (3 - (0 + 1))
            case measure => have := HK.out.1; omega
            case rel =>
              obtain ⟨hG6, hgr6, hR5, hg5⟩ := HW.out
              have hg := HG.out
              obtain ⟨hA1, hA2, hA3, hA4⟩ := let_push HF.out hgr6 (by (repeat (first | with_reducible assumption | with_reducible exact grown_rfl _ _ | with_reducible refine grown_al ?_ _ | with_reducible refine grown_sn ?_ (by first | omega | (simp; done) | (simp; omega)) _ _ | with_reducible refine grown_dr ?_ | with_reducible refine grown_tr ?_ hg5))) (by (repeat (first | with_reducible assumption | with_reducible refine Rd.alloc ?_ _ | with_reducible refine Rd.drew ?_ | with_reducible refine Rd.drewN ?_ _ | with_reducible refine Rd.setN ?_ (by first | omega | (simp; done) | (simp; omega)) _ _))) (by (repeat (first | with_reducible assumption | with_reducible exact grown_rfl _ _ | with_reducible refine grown_al ?_ _ | with_reducible refine grown_sn ?_ (by first | omega | (simp; done) | (simp; omega)) _ _ | with_reducible refine grown_dr ?_ | with_reducible refine grown_tr ?_ hg5 | with_reducible refine grown_tr ?_ hg))) hfl hG6 (w0 := w) (f := fLet 0 k5) (s := sLet 0 k5) (p := p + 1 + 0 + 1) hrb (fun lo w => DrV.drf (DrE.of (by simp) (DrK.nil _ _)) (DrE.none _ _) (by simp [nm3]) (by simp))
              refine ⟨0 + 1, l ++ [sLet 0 k5], rfl, by omega, by go_num, (by first | exact hA1 | (rw [← hfl]; exact hA1)), ?_, by rw [List.length_append, HK.out.2.2]; rfl, hA3, hA4⟩
              intro s hs
              rw [List.mem_append] at hs
              rcases hs with hs | hs
              · exact HK.out.2.1 s hs
              · simp at hs
                subst hs
                show nm3 0 ≠ cNew
                decide
        · go_wp2_with fail
          obtain ⟨fl, hG0, hfl, hF0⟩ := hS
          have hl4 : fl.length + 1 ≤ 1000000 := by omega
          have HF := Lib.hid (fun (w' : World) (hh : wr.grownBy w' (some rb)) => And.intro (hG0.gr hh hrb) (fun (i : Nat) (f : FS) (s : Sm) (h1 : fl[i]? = some f) (h2 : l[i]? = some s) => (hF0 i f s h1 h2).grown hh (fun q e => by have := Option.some.inj e; omega)))
          clear hG0 hF0
          go_region_law
            (first
              | (refine app_stepF (by rfl) (.tmp 14) (.tmp 23) (by rfl) w.heap.size u3 fl (by rfl) ?_ (fLet 1 k5) (fLet_one _ _) (wr.heap.size + 1) (by rfl) ?_ hl4 ?_ ?_; exact (HF.out _ (by (repeat (first | with_reducible assumption | with_reducible exact grown_rfl _ _ | with_reducible refine grown_al ?_ _ | with_reducible refine grown_sn ?_ (by first | omega | (simp; done) | (simp; omega)) _ _ | with_reducible refine grown_dr ?_ | with_reducible refine grown_tr ?_ hg5)))).1; exact news_at (by first | exact hz5 | (simp; omega)); (first | omega | (simp; done) | (simp only [List.length_cons, List.length_nil, List.length_append]; omega) | (simp; omega)); intro g6 cap6 w6 hG6 hgr6 hat6)
              | (go_simp; go_at_call 109; refine (pick_all rb _ 9 wr.drew hR.drew (by omega) (by omega) (by omega)).mono ?_; rintro r w5 ⟨⟨k5, rfl, hk5, hk5', hR5, hg5⟩, hz5⟩; replace hz5 : w5.heap.size = wr.heap.size := hz5)
              | (go_simp; go_at_call 109; refine (pick_all rb _ 9 (wr.alloc (.cells #[.string ⟨#[120]⟩, .string ⟨#[121]⟩, .string ⟨#[122]⟩] 9)).drew (hR.alloc _).drew (by omega) (by omega) (by omega)).mono ?_; rintro r w5 ⟨⟨k5, rfl, hk5, hk5', hR5, hg5⟩, hz5⟩; simp at hz5; have hm := blk_gr (Blk.new wr 9 #[.string ⟨#[120]⟩, .string ⟨#[121]⟩, .string ⟨#[122]⟩]).drew hg5 (by omega); have m0 := hm.cell 0; have m1 := hm.cell 1; have m2 := hm.cell 2; simp at m0 m1 m2; clear hm)
              | fail)
          all_goals
            have HW := Lib.hid (And.intro hG6 (And.intro hgr6 (And.intro hR5 hg5)))
            clear hG6 hgr6 hat6 hR5 hg5 hR
            go_wp2_with fail
            go_roundg (3 - (1 + 1))
            case measure => have := HK.out.1; omega
            case rel =>
              obtain ⟨hG6, hgr6, hR5, hg5⟩ := HW.out
              have hg := HG.out
              obtain ⟨hA1, hA2, hA3, hA4⟩ := let_push HF.out hgr6 (by (repeat (first | with_reducible assumption | with_reducible exact grown_rfl _ _ | with_reducible refine grown_al ?_ _ | with_reducible refine grown_sn ?_ (by first | omega | (simp; done) | (simp; omega)) _ _ | with_reducible refine grown_dr ?_ | with_reducible refine grown_tr ?_ hg5))) (by (repeat (first | with_reducible assumption | with_reducible refine Rd.alloc ?_ _ | with_reducible refine Rd.drew ?_ | with_reducible refine Rd.drewN ?_ _ | with_reducible refine Rd.setN ?_ (by first | omega | (simp; done) | (simp; omega)) _ _))) (by (repeat (first | with_reducible assumption | with_reducible exact grown_rfl _ _ | with_reducible refine grown_al ?_ _ | with_reducible refine grown_sn ?_ (by first | omega | (simp; done) | (simp; omega)) _ _ | with_reducible refine grown_dr ?_ | with_reducible refine grown_tr ?_ hg5 | with_reducible refine grown_tr ?_ hg))) hfl hG6 (w0 := w) (f := fLet 1 k5) (s := sLet 1 k5) (p := p + 1 + 1 + 1) hrb (fun lo w => DrV.drf (DrE.of (by simp) (DrK.nil _ _)) (DrE.none _ _) (by simp [nm3]) (by simp))
              refine ⟨1 + 1, l ++ [sLet 1 k5], rfl, by omega, by go_num, (by first | exact hA1 | (rw [← hfl]; exact hA1)), ?_, by rw [List.length_append, HK.out.2.2]; rfl, hA3, hA4⟩
              intro s hs
              rw [List.mem_append] at hs
              rcases hs with hs | hs
              · exact HK.out.2.1 s hs
              · simp at hs
                subst hs
                show nm3 1 ≠ cNew
                decide
        · go_wp2_with fail
          obtain ⟨fl, hG0, hfl, hF0⟩ := hS
          have hl4 : fl.length + 1 ≤ 1000000 := by omega
          have HF := Lib.hid (fun (w' : World) (hh : wr.grownBy w' (some rb)) => And.intro (hG0.gr hh hrb) (fun (i : Nat) (f : FS) (s : Sm) (h1 : fl[i]? = some f) (h2 : l[i]? = some s) => (hF0 i f s h1 h2).grown hh (fun q e => by have := Option.some.inj e; omega)))
          clear hG0 hF0
          go_region_law
            (first
              | (refine app_stepF (by rfl) (.tmp 14) (.tmp 23) (by rfl) w.heap.size u3 fl (by rfl) ?_ (fLet 2 k5) (fLet_one _ _) (wr.heap.size + 1) (by rfl) ?_ hl4 ?_ ?_; exact (HF.out _ (by (repeat (first | with_reducible assumption | with_reducible exact grown_rfl _ _ | with_reducible refine grown_al ?_ _ | with_reducible refine grown_sn ?_ (by first | omega | (simp; done) | (simp; omega)) _ _ | with_reducible refine grown_dr ?_ | with_reducible refine grown_tr ?_ hg5)))).1; exact news_at (by first | exact hz5 | (simp; omega)); (first | omega | (simp; done) | (simp only [List.length_cons, List.length_nil, List.length_append]; omega) | (simp; omega)); intro g6 cap6 w6 hG6 hgr6 hat6)
              | (go_simp; go_at_call 109; refine (pick_all rb _ 9 wr.drew hR.drew (by omega) (by omega) (by omega)).mono ?_; rintro r w5 ⟨⟨k5, rfl, hk5, hk5', hR5, hg5⟩, hz5⟩; replace hz5 : w5.heap.size = wr.heap.size := hz5)
              | (go_simp; go_at_call 109; refine (pick_all rb _ 9 (wr.alloc (.cells #[.string ⟨#[120]⟩, .string ⟨#[121]⟩, .string ⟨#[122]⟩] 9)).drew (hR.alloc _).drew (by omega) (by omega) (by omega)).mono ?_; rintro r w5 ⟨⟨k5, rfl, hk5, hk5', hR5, hg5⟩, hz5⟩; simp at hz5; have hm := blk_gr (Blk.new wr 9 #[.string ⟨#[120]⟩, .string ⟨#[121]⟩, .string ⟨#[122]⟩]).drew hg5 (by omega); have m0 := hm.cell 0; have m1 := hm.cell 1; have m2 := hm.cell 2; simp at m0 m1 m2; clear hm)
              | fail)
          all_goals
            have HW := Lib.hid (And.intro hG6 (And.intro hgr6 (And.intro hR5 hg5)))
            clear hG6 hgr6 hat6 hR5 hg5 hR
            go_wp2_with fail
            go_roundg (3 - (2 + 1))
            case measure => have := HK.out.1; omega
            case rel =>
              obtain ⟨hG6, hgr6, hR5, hg5⟩ := HW.out
              have hg := HG.out
              obtain ⟨hA1, hA2, hA3, hA4⟩ := let_push HF.out hgr6 (by (repeat (first | with_reducible assumption | with_reducible exact grown_rfl _ _ | with_reducible refine grown_al ?_ _ | with_reducible refine grown_sn ?_ (by first | omega | (simp; done) | (simp; omega)) _ _ | with_reducible refine grown_dr ?_ | with_reducible refine grown_tr ?_ hg5))) (by (repeat (first | with_reducible assumption | with_reducible refine Rd.alloc ?_ _ | with_reducible refine Rd.drew ?_ | with_reducible refine Rd.drewN ?_ _ | with_reducible refine Rd.setN ?_ (by first | omega | (simp; done) | (simp; omega)) _ _))) (by (repeat (first | with_reducible assumption | with_reducible exact grown_rfl _ _ | with_reducible refine grown_al ?_ _ | with_reducible refine grown_sn ?_ (by first | omega | (simp; done) | (simp; omega)) _ _ | with_reducible refine grown_dr ?_ | with_reducible refine grown_tr ?_ hg5 | with_reducible refine grown_tr ?_ hg))) hfl hG6 (w0 := w) (f := fLet 2 k5) (s := sLet 2 k5) (p := p + 1 + 2 + 1) hrb (fun lo w => DrV.drf (DrE.of (by simp) (DrK.nil _ _)) (DrE.none _ _) (by simp [nm3]) (by simp))
              refine ⟨2 + 1, l ++ [sLet 2 k5], rfl, by omega, by go_num, (by first | exact hA1 | (rw [← hfl]; exact hA1)), ?_, by rw [List.length_append, HK.out.2.2]; rfl, hA3, hA4⟩
              intro s hs
              rw [List.mem_append] at hs
              rcases hs with hs | hs
              · exact HK.out.2.1 s hs
              · simp at hs
                subst hs
                show nm3 2 ≠ cNew
                decide
  case rest =>
    obtain ⟨l0, q0, hS0, hN0, hl0, hR0, hq0, hg0⟩ := hcut
    have HX := Lib.hid (And.intro hS0 (And.intro hN0 (And.intro hg0 (And.intro hl0 hq0))))
    clear hS0 hN0 hg0
    go_wp2_with fail
    refine (pick_any rb _ 6 _ hR0 (by omega) (by omega) (by omega)).mono ?_
    rintro r w3 ⟨k3, rfl, hk3, hk3', hR3, hg3⟩
    obtain ⟨m, rfl⟩ := Int.eq_ofNat_of_zero_le hk3
    have hm6 : m < 6 := by omega
    have HY := Lib.hid (And.intro hR3 hg3)
    have HM := Lib.hid (And.intro hm6 hq0)
    clear hR3 hg3 hR0 hk3 hk3' hm6 hl0 hq0
    go_wp2_with fail
    go_loopg [3, 5] (m + 1) (fun k o i wr => ∃ (l : List Sm) (q : Nat), i = .int .i64 (k : Int) ∧ k ≤ m + 1 ∧ DrS w.heap.size wr o l ∧ (∀ s ∈ l, s.name ≠ cNew) ∧ l.length + k ≤ 3 + (m + 1) ∧ Rd wr rb q ∧ q + 268 * k ≤ p + 5 + 268 * (m + 1) ∧ w.grownBy wr (some rb))
    case atStart =>
      obtain ⟨hS0, hN0, hg0, hl0, hq0⟩ := HX.out
      have hm6 := HM.out.1
      exact ⟨l0, _, (by have hw := w64_in (n := 1 + (m : Int)) (by omega); go_num), by omega, hS0.grown HY.out.2 (fun q e => by have := Option.some.inj e; omega), hN0, by omega, HY.out.1, by omega, grown_tr hg0 HY.out.2⟩
    case round =>
      obtain ⟨l, q, rfl, hkm, hS, hN, hl, hR, hq, hg⟩ := hrel
      have hm6 := HM.out.1
      rcases gk with _ | k
      · have HZ := Lib.hid (And.intro hS (And.intro hR hg))
        clear hS hR hg
        go_wp2_with fail
        go_ret
        exact ⟨_, l, q, rfl, HZ.out.1, hN, by omega, HZ.out.2.1, by omega, HZ.out.2.2⟩
      · have hd : decide ((0 : Int) < ((k + 1 : Nat) : Int)) = true := by rw [decide_eq_true_eq]; omega
        have hwr : IntKind.i64.wrap (((k + 1 : Nat) : Int) - 1) = (k : Int) := by rw [IntKind.wrap_i64]; omega
        obtain ⟨fl, hG0, hfl, hF0⟩ := hS
        have hl4 : fl.length + 1 ≤ 1000000 := by omega
        have HK := Lib.hid (And.intro hN (And.intro hl (And.intro hq (And.intro hkm hfl))))
        have HG := Lib.hid hg
        have hzg := hg.size
        have hq9 : q + 268 ≤ 1000000 := by omega
        have HF := Lib.hid (fun (w' : World) (hh : wr.grownBy w' (some rb)) => And.intro (hG0.gr hh hrb) (fun (i : Nat) (f : FS) (s : Sm) (h1 : fl[i]? = some f) (h2 : l[i]? = some s) => (hF0 i f s h1 h2).grown hh (fun q e => by have := Option.some.inj e; omega)))
        clear hG0 hF0 hN hl hq hkm hg hfl
        generalize ((k + 1 : Nat) : Int) = kk at *
        go_wp2_with fail
        refine (l5Some_any rb _ _ hR hq9).mono ?_
        rintro r w5 ⟨v5, s5, q5, rfl, hV5, hNN, hR5, hq5, hg5⟩
        have hz5 := hg5.size
        obtain ⟨k0, nm, ty, k1, n1, s1, A1, m1, cp1, k2', n2, s2, A2, m2, cp2, x1, x2, rfl, rfl, hX1, hX2, hl1, hl2⟩ := (hV5.less (lo' := w.heap.size) (by omega)).form
        have HV := Lib.hid (DrV.drf (k := k0) hX1 hX2 hl1 hl2)
        have HN5 := Lib.hid (And.intro (show nm ≠ cNew from hNN.1) (And.intro hq5 (And.intro hR5 hg5)))
        have hgx : wr.grownBy (w5.alloc (.cells #[.int .i64 k0, .string (bs nm), .string (bs ty), .int .i64 k1, .int .i64 n1, .string (bs s1), .slice A1 m1 cp1, .int .i64 k2', .int .i64 n2, .string (bs s2), .slice A2 m2 cp2] 26)) (some rb) := by (repeat (first | with_reducible assumption | with_reducible exact grown_rfl _ _ | with_reducible refine grown_al ?_ _ | with_reducible refine grown_sn ?_ (by first | omega | (simp; done) | (simp; omega)) _ _ | with_reducible refine grown_dr ?_ | with_reducible refine grown_tr ?_ hg5))
        have HG6 := Lib.hid (HF.out _ hgx)
        have HGX := Lib.hid hgx
        clear hX1 hX2 hl1 hl2 hV5 hNN hR5 hq5 hg5 HF hR hgx
        go_wp2_with (first
          | (at_builtin; refine app_plainF (by rfl) (.tmp 32) (.tmp 35) (by rfl) w.heap.size u3 fl (by rfl) HG6.out.1 ⟨k0, nm, ty, k1, n1, s1, .slice A1 m1 cp1, k2', n2, s2, .slice A2 m2 cp2⟩ (fs_one (f := ⟨k0, nm, ty, k1, n1, s1, .slice A1 m1 cp1, k2', n2, s2, .slice A2 m2 cp2⟩) rfl rfl _ (List.mem_singleton.2 rfl)) w5.heap.size (by rfl) (news_at rfl) hl4 (by first | omega | (simp; done) | (simp only [List.length_cons, List.length_nil, List.length_append]; omega) | (simp; omega)) ?_; intro g6 cap6 w6 hG6 hgr6 hat6; have HW := Lib.hid (And.intro hG6 hgr6); clear hG6 hgr6 hat6)
          | fail)
        go_roundg k
        case measure => omega
        case rel =>
          obtain ⟨hN, hl, hq, hkm, hfl⟩ := HK.out
          obtain ⟨hG6, hgr6⟩ := HW.out
          obtain ⟨hNN, hq5, hR5, hg5⟩ := HN5.out
          have hg := HG.out
          have hgw : w.grownBy _ (some rb) := grown_tr hg HGX.out
          have hS5 : DrS w.heap.size _ u3 l := ⟨fl, HG6.out.1, hfl, HG6.out.2⟩
          refine ⟨l ++ [⟨k0, nm, ty, x1, x2⟩], q5, by go_num, by omega, DrS.push HG6.out.1 hfl HG6.out.2 ((HV.out.grown (r := none) (by (repeat (first | with_reducible assumption | with_reducible exact grown_rfl _ _ | with_reducible refine grown_st ?_ _ _ | with_reducible refine grown_al ?_ _))) (fun q e => by cases e))) hG6 hgr6, ?_, by rw [List.length_append]; simp only [List.length_singleton]; omega, (hR5.alloc _).app hS5 hrb hgr6, by omega, grown_app hgw hgr6 hS5.own⟩
          intro s hs
          rw [List.mem_append] at hs
          rcases hs with hs | hs
          · exact hN s hs
          · simp at hs
            subst hs
            exact hNN
end Go.Proofs.YtgakjhaepdigpaaGreatDoor


/- Programs that are drawn, bent; the drawers. -/
namespace Go.Proofs.YtgakjhaepdigpaaGreatDoor
set_option maxRecDepth 100000
set_option linter.unusedSimpArgs false
set_option linter.unusedVariables false
open Go.RowKit
attribute [local go_sem] bs_toList bs_get bs_size

theorem Gt.zero {α : Type} {row : α → List Value} {k B : Nat} {t : TypeId} {w : World} {u : Value} {m : List α} (h : Gt row k t B w u m) : (u = .slice none 0 0 ∧ Gt row k t B w (.slice none 0 0) []) ∨ ∃ g cap, u = .slice (some ⟨g, 0, none⟩) m.length cap ∧ m.length ≤ cap ∧ cap ≤ 9223372036854775807 ∧ Gt row k t B w (.slice (some ⟨g, 0, none⟩) 0 cap) [] := by
  rcases h.2 with ⟨rfl, h0⟩ | ⟨g, cap, cur, rfl, hlo, hbk, hc, hm, hsz, ht⟩
  · exact .inl ⟨rfl, Gt.nil _ _ _ _ _⟩
  · exact .inr ⟨g, cap, rfl, hc, by unfold maxLen at hm; omega, by simp, .inr ⟨g, cap, cur, rfl, hlo, hbk, by simp, hm, hsz, by simp⟩⟩
def fZero : FS := ⟨0, [], [], 0, 0, [], .slice none 0 0, 0, 0, [], .slice none 0 0⟩
def sZero : Sm := ⟨0, [], [], Ex.none, Ex.none⟩
theorem fZero_one : ∀ u ∈ fsRow fZero, u.oneCell' = true := fs_one (f := fZero) rfl rfl _ (List.mem_singleton.2 rfl)
theorem fZero_dr (lo : Nat) (w : World) : DrF lo w fZero sZero := DrV.drf (DrE.none _ _) (DrE.none _ _) (by simp) (by simp)
set_option maxHeartbeats 4000000 in
theorem l6Bent_any (rb p : Nat) (w : World) (h : Rd w rb p) (hp : p + 2110 ≤ 1000000) : Calls Tryz.prog 95 #[.pointer (some ⟨rb, 0, none⟩)] w (DrewP rb p 2110 17 w) := by
  have hrb := h.lt
  go_enter Tryz.func95, Tryz.ntmps95
  go_wp2_with fail
  refine (l6Prog_any rb _ _ h (by omega)).mono ?_
  rintro r wr ⟨u, l, p1, rfl, hS, hN, hl, hR1, hp1, hg1⟩
  go_wp2_with fail
  refine (pick_any rb _ 40 _ hR1 (by omega) (by omega) (by omega)).mono ?_
  rintro r w2 ⟨k2, rfl, hk2, hk2', hR2, hg2⟩
  have hS2 := hS.grown hg2 (fun q e => by have := Option.some.inj e; omega)
  have hgw2 := grown_tr hg1 hg2
  have hzg := hgw2.size
  have HX := Lib.hid (And.intro hS2 (And.intro hN (And.intro hgw2 (And.intro hl hp1))))
  have hp2 : p1 + 1 + 496 ≤ 1000000 := by omega
  clear hS hN hR1 hg1 hg2 hS2 hgw2 hl hp1 h
  by_cases e0 : k2 = 0
  · subst e0
    obtain ⟨⟨fl, hG0, hfl, hF0⟩, hN, hg, hl, hp1⟩ := HX.out
    have hl4 : fl.length + 1 ≤ 1000000 := by omega
    have HF := Lib.hid (fun (w' : World) (hh : w2.grownBy w' (some rb)) => And.intro (hG0.gr hh hrb) (fun (i : Nat) (f : FS) (s : Sm) (h1 : fl[i]? = some f) (h2 : l[i]? = some s) => (hF0 i f s h1 h2).grown hh (fun q e => by have := Option.some.inj e; omega)))
    have HK := Lib.hid (And.intro hN (And.intro hg (And.intro hl (And.intro hp1 hfl))))
    clear hG0 hF0 hN hg hl hp1 hfl HX
    go_wp2_with fail
    refine (l5Bent_any rb _ _ hR2 hp2).mono ?_
    rintro r w5 ⟨v5, s5, q5, rfl, hV5, hNN, hR5, hq5, hg5⟩
    have hz5 := hg5.size
    obtain ⟨k0, nm, ty, k1, n1, s1, A1, m1, cp1, k2', n2, s2, A2, m2, cp2, x1, x2, rfl, rfl, hX1, hX2, hl1, hl2⟩ := (hV5.less (lo' := w.heap.size) (by omega)).form
    have HV := Lib.hid (DrV.drf (k := k0) hX1 hX2 hl1 hl2)
    have HN5 := Lib.hid (And.intro (show nm ≠ cNew from hNN.1) (And.intro hq5 (And.intro hR5 hg5)))
    have hgx : w2.grownBy (w5.alloc (.cells #[.int .i64 k0, .string (bs nm), .string (bs ty), .int .i64 k1, .int .i64 n1, .string (bs s1), .slice A1 m1 cp1, .int .i64 k2', .int .i64 n2, .string (bs s2), .slice A2 m2 cp2] 26)) (some rb) := by (repeat (first | with_reducible assumption | with_reducible exact grown_rfl _ _ | with_reducible refine grown_al ?_ _ | with_reducible refine grown_sn ?_ (by first | omega | (simp; done) | (simp; omega)) _ _ | with_reducible refine grown_dr ?_ | with_reducible refine grown_tr ?_ hg5))
    have HG6 := Lib.hid (HF.out _ hgx)
    have HGX := Lib.hid hgx
    clear hX1 hX2 hl1 hl2 hV5 hNN hR5 hq5 hg5 HF hR2 hgx
    go_wp2_with (first
      | (at_builtin; refine app_plainF (by rfl) (.tmp 10) (.tmp 13) (by rfl) w.heap.size u fl (by rfl) HG6.out.1 ⟨k0, nm, ty, k1, n1, s1, .slice A1 m1 cp1, k2', n2, s2, .slice A2 m2 cp2⟩ (fs_one (f := ⟨k0, nm, ty, k1, n1, s1, .slice A1 m1 cp1, k2', n2, s2, .slice A2 m2 cp2⟩) rfl rfl _ (List.mem_singleton.2 rfl)) w5.heap.size (by rfl) (news_at rfl) hl4 (by first | omega | (simp; done) | (simp only [List.length_cons, List.length_nil, List.length_append]; omega) | (simp; omega)) ?_; intro g6 cap6 w6 hG6 hgr6 hat6; have HW := Lib.hid (And.intro hG6 hgr6); clear hG6 hgr6 hat6)
      | fail)
    go_ret
    obtain ⟨hN, hg, hl, hp1, hfl⟩ := HK.out
    obtain ⟨hG6, hgr6⟩ := HW.out
    obtain ⟨hNN, hq5, hR5, hg5⟩ := HN5.out
    have hgw : w.grownBy _ (some rb) := grown_tr hg HGX.out
    have hS5 : DrS w.heap.size _ u l := ⟨fl, HG6.out.1, hfl, HG6.out.2⟩
    refine ⟨_, l ++ [⟨k0, nm, ty, x1, x2⟩], q5, rfl, DrS.push HG6.out.1 hfl HG6.out.2 ((HV.out.grown (r := none) (by (repeat (first | with_reducible assumption | with_reducible exact grown_rfl _ _ | with_reducible refine grown_st ?_ _ _ | with_reducible refine grown_al ?_ _))) (fun q e => by cases e))) hG6 hgr6, ?_, by rw [List.length_append]; simp only [List.length_singleton]; omega, (hR5.alloc _).app hS5 hrb hgr6, by omega, grown_app hgw hgr6 hS5.own⟩
    intro s hs
    rw [List.mem_append] at hs
    rcases hs with hs | hs
    · exact hN s hs
    · simp at hs
      subst hs
      exact hNN
  have d0 : (k2 == 0) = false := by simpa using e0
  by_cases e1 : k2 = 1
  · subst e1
    have HR := Lib.hid hR2
    clear hR2
    go_wp2_with fail
    go_loopg [3] (17 - l.length) (fun k o wr => ∃ l : List Sm, k = 17 - l.length ∧ l.length ≤ 17 ∧ DrS w.heap.size wr o l ∧ (∀ s ∈ l, s.name ≠ cNew) ∧ Rd wr rb (p1 + 1) ∧ w.grownBy wr (some rb))
    case atStart => exact ⟨l, rfl, by have := HX.out.2.2.2.1; omega, HX.out.1, HX.out.2.1, HR.out, HX.out.2.2.1⟩
    case round =>
      obtain ⟨l', hk, hl', hS', hN', hR', hg'⟩ := hrel
      obtain ⟨A, c, rfl, hc, hm⟩ := hS'.val
      by_cases hlt : l'.length ≤ 16
      rotate_left
      · have HZ := Lib.hid (And.intro hS' (And.intro hN' (And.intro hR' hg')))
        have hd : decide (((l'.length : Nat) : Int) ≤ 16) = false := by rw [decide_eq_false_iff_not]; omega
        have HL := Lib.hid hl'
        clear hS' hN' hR' hg' hk
        go_wp2_with fail
        go_ret
        exact ⟨_, l', _, rfl, HZ.out.1, HZ.out.2.1, HL.out, HZ.out.2.2.1, by have := HX.out.2.2.2.2; omega, HZ.out.2.2.2⟩
      · have hd : decide (((l'.length : Nat) : Int) ≤ 16) = true := by rw [decide_eq_true_eq]; omega
        obtain ⟨fl, hG0, hfl, hF0⟩ := hS'
        have hl4 : fl.length + 1 ≤ 1000000 := by omega
        have hgx : wr.grownBy (wr.alloc (.cells ([fZero].flatMap fsRow).toArray 26)) (some rb) := grown_al (grown_rfl _ _) _
        have hG1 := hG0.gr hgx hrb
        have hF1 := fun (i : Nat) (f : FS) (s : Sm) (h1 : fl[i]? = some f) (h2 : l'[i]? = some s) => (hF0 i f s h1 h2).grown hgx (fun q e => by have := Option.some.inj e; omega)
        have HZ := Lib.hid (And.intro hN' (And.intro hR' (And.intro hg' (And.intro hk (And.intro hF1 hfl)))))
        have HG1 := Lib.hid hG1
        have hzg' := hg'.size
        clear hG0 hF0 hgx hG1 hF1 hN' hR' hg' hk hfl
        go_wp2_with (first
          | (at_builtin; refine app_plainF (by rfl) (.tmp 20) (.tmp 22) (by rfl) w.heap.size (.slice A l'.length c) fl (by rfl) HG1.out fZero fZero_one wr.heap.size (by rfl) (news_at rfl) hl4 (by first | omega | (simp; done) | (simp only [List.length_cons, List.length_nil, List.length_append]; omega) | (simp; omega)) ?_; intro g6 cap6 w6 hG6 hgr6 hat6; have HW := Lib.hid (And.intro hG6 hgr6); clear hG6 hgr6 hat6)
          | fail)
        go_roundg (17 - (l'.length + 1))
        case measure => have := HZ.out.2.2.2.1; omega
        case rel =>
          obtain ⟨hN', hR', hg', hk, hF1, hfl⟩ := HZ.out
          obtain ⟨hG6, hgr6⟩ := HW.out
          have hS5 : DrS w.heap.size _ (.slice A l'.length c) l' := ⟨fl, HG1.out, hfl, hF1⟩
          refine ⟨l' ++ [sZero], by rw [List.length_append]; rfl, by rw [List.length_append]; simp only [List.length_singleton]; omega, DrS.push HG1.out hfl hF1 (fZero_dr _ _) hG6 hgr6, ?_, (hR'.alloc _).app hS5 hrb hgr6, grown_app (grown_al hg' _) hgr6 hS5.own⟩
          intro s hs
          rw [List.mem_append] at hs
          rcases hs with hs | hs
          · exact hN' s hs
          · simp at hs
            subst hs
            show ([] : Bytes) ≠ cNew
            decide
  have d1 : (k2 == 1) = false := by simpa using e1
  by_cases e2 : k2 = 2
  · subst e2
    obtain ⟨⟨fl, hG0, hfl, hF0⟩, hN, hg, hl, hp1⟩ := HX.out
    have HK := Lib.hid (And.intro hR2 (And.intro hg hp1))
    clear hR2 hg hF0 hN HX hl
    rcases hG0.zero with ⟨rfl, hG⟩ | ⟨g, cap, rfl, hc, hm, hG⟩
    all_goals
      have HG := Lib.hid hG
      clear hG hG0
      go_wp2_with fail
      go_ret
      exact ⟨_, [], _, rfl, ⟨[], HG.out, rfl, fun i f s h => by simp at h⟩, fun s hs => by simp at hs, by simp, HK.out.1, by have := HK.out.2.2; omega, HK.out.2.1⟩
  have d2 : (k2 == 2) = false := by simpa using e2
  have HR := Lib.hid hR2
  clear hR2
  go_wp2_with fail
  go_ret
  obtain ⟨hS, hN, hg, hl, hp1⟩ := HX.out
  exact ⟨_, l, _, rfl, hS, hN, by omega, HR.out, by omega, hg⟩
theorem Sl.take {α : Type} {row : α → List Value} {k B : Nat} {w : World} {A : Option Addr} {n c m : Nat} {l : List α} (h : Sl row k w B (.slice A n c) l) (hm : m ≤ l.length) : Sl row k w B (.slice A m c) (l.take m) := by
  obtain ⟨A', c', hv, hc, hx, hh⟩ := h
  obtain ⟨rfl, rfl, rfl⟩ : A = A' ∧ n = l.length ∧ c = c' := by injection hv; exact ⟨‹_›, ‹_›, ‹_›⟩
  have hl : (l.take m).length = m := by rw [List.length_take]; omega
  refine ⟨A, c, by rw [hl], by omega, hx, fun h0 => ?_⟩
  obtain ⟨b, o, hA, hb, hx⟩ := hh (by omega)
  exact ⟨b, o, hA, hb, fun i s hs j x hj => hx i s ((List.getElem?_take.symm.trans hs |> fun e => by split at e <;> simp_all)) j x hj⟩
theorem SmS.take {w : World} {B n c m : Nat} {A : Option Addr} {l : List Sm} (h : SmS w B (.slice A n c) l) (hm : m ≤ l.length) : SmS w B (.slice A m c) (l.take m) := by
  obtain ⟨fl, h1, h2, h3⟩ := h
  refine ⟨fl.take m, h1.take (by omega), by simp [h2], fun i f s hf hs => ?_⟩
  rw [List.getElem?_take] at hf hs
  split at hf
  · rw [if_pos ‹_›] at hs; exact h3 i f s hf hs
  · cases hf
/-- the code of a law: bytes in memory -/
def CodeV (w : World) (v : Value) (l : List Int) : Prop := SlY w w.heap.size v l ∧ ∀ x ∈ l, 0 ≤ x ∧ x < 256
theorem l12Open_any (v : Value) (l : List Int) (w : World) (hv : CodeV w v l) : Calls Tryz.prog 62 #[v] w fun e w' => e = .returned (.pointer (some ⟨w.heap.size, 0, none⟩)) ∧ Rd w' w.heap.size 0 ∧ Below w.heap.size w w' := by
  obtain ⟨hs, hr⟩ := hv
  obtain ⟨A, c, rfl, hc, hm⟩ := hs.val
  by_cases hl : l.length ≤ 2000
  · have hd : decide ((2000 : Int) < ((l.length : Nat) : Int)) = false := by rw [decide_eq_false_iff_not]; omega
    have HX := Lib.hid (And.intro hs hr)
    clear hs hr
    go_enter Tryz.func62, Tryz.ntmps62
    go_wp2_with fail
    go_ret
    refine ⟨rfl, ⟨A, c, l, Blk.new _ _ _, hl, HX.out.2, HX.out.1.below (by (repeat (first | with_reducible assumption | with_reducible exact Below.refl _ _ | with_reducible refine Below.setCell ?_ (by first | omega | (simp; done) | (simp; omega)) _ | with_reducible refine Below.alloc ?_ (by first | omega | (simp; done) | (simp; omega)) _ | with_reducible refine below_drewN ?_ _ | with_reducible refine Below.drew ?_))) (Nat.le_refl _)⟩, by (repeat (first | with_reducible assumption | with_reducible exact Below.refl _ _ | with_reducible refine Below.setCell ?_ (by first | omega | (simp; done) | (simp; omega)) _ | with_reducible refine Below.alloc ?_ (by first | omega | (simp; done) | (simp; omega)) _ | with_reducible refine below_drewN ?_ _ | with_reducible refine Below.drew ?_))⟩
  · have hd : decide ((2000 : Int) < ((l.length : Nat) : Int)) = true := by rw [decide_eq_true_eq]; omega
    have h1 : (2000 : Int) ≤ (c : Int) := by omega
    have HX := Lib.hid (And.intro (hs.take (m := 2000) (by omega)) hr)
    have hlt : (l.take 2000).length = 2000 := by rw [List.length_take]; omega
    clear hs hr
    go_enter Tryz.func62, Tryz.ntmps62
    go_wp2_with fail
    go_ret
    refine ⟨rfl, ⟨A, c, l.take 2000, by rw [hlt]; exact Blk.new _ _ _, by omega, fun x hx => HX.out.2 x (List.mem_of_mem_take hx), by rw [hlt]; exact HX.out.1.below (by (repeat (first | with_reducible assumption | with_reducible exact Below.refl _ _ | with_reducible refine Below.setCell ?_ (by first | omega | (simp; done) | (simp; omega)) _ | with_reducible refine Below.alloc ?_ (by first | omega | (simp; done) | (simp; omega)) _ | with_reducible refine below_drewN ?_ _ | with_reducible refine Below.drew ?_))) (Nat.le_refl _)⟩, by (repeat (first | with_reducible assumption | with_reducible exact Below.refl _ _ | with_reducible refine Below.setCell ?_ (by first | omega | (simp; done) | (simp; omega)) _ | with_reducible refine Below.alloc ?_ (by first | omega | (simp; done) | (simp; omega)) _ | with_reducible refine below_drewN ?_ _ | with_reducible refine Below.drew ?_))⟩
def DrewL (w : World) (e : Ending) (w' : World) : Prop := ∃ (u : Value) (l : List Sm), e = .returned u ∧ DrS w.heap.size w' u l ∧ (∀ s ∈ l, s.name ≠ cNew) ∧ l.length ≤ 17 ∧ Below w.heap.size w w'
end Go.Proofs.YtgakjhaepdigpaaGreatDoor
