/- Programs that are drawn. -/
import Derived.Test.YtojoknalnmmpeaaGreatDoorDwS
import Derived.Deep.RegionLaw
namespace Go.Proofs.YtojoknalnmmpeaaGreatDoor
set_option maxRecDepth 100000
set_option linter.unusedSimpArgs false
set_option linter.unusedVariables false
open Go.RowKit
attribute [local go_sem] bs_toList bs_get bs_size

theorem fs_all {lo : Nat} {w : World} {fl : List FS} {l : List Sm} (hl : fl.length = l.length) (h : ∀ (i : Nat) (f : FS) (s : Sm), fl[i]? = some f → l[i]? = some s → DrF lo w f s) : ∀ s ∈ fl, ∀ u ∈ fsRow s, u.oneCell' = true := by
  intro f hf u hu
  obtain ⟨i, hi⟩ := List.mem_iff_getElem?.1 hf
  have hil := (List.getElem?_eq_some_iff.1 hi).1
  obtain ⟨_, _, _, _, _, _, _, _, _, _, x1, x2⟩ := h i f l[i] hi (List.getElem?_eq_getElem (by omega))
  obtain ⟨A1, c1, e1, _, _⟩ := x1.val
  obtain ⟨A2, c2, e2, _, _⟩ := x2.val
  simp [fsRow, e1, e2] at hu
  rcases hu with rfl | rfl | rfl | rfl | rfl | rfl | rfl | rfl | rfl | rfl | rfl <;> rfl
/-- a drawn statement as cells -/
theorem DrV.drf {lo : Nat} {w : World} {k : Int} {nm ty : Bytes} {k1 n1 : Int} {s1 : Bytes} {v1 : Value} {k2 n2 : Int} {s2 : Bytes} {v2 : Value} {a b : Ex} (h1 : DrE lo w (.agg #[.int .i64 k1, .int .i64 n1, .string (bs s1), v1]) a) (h2 : DrE lo w (.agg #[.int .i64 k2, .int .i64 n2, .string (bs s2), v2]) b) (hn : nm.length ≤ 9223372036854775807) (ht : ty.length ≤ 9223372036854775807) :
    DrF lo w ⟨k, nm, ty, k1, n1, s1, v1, k2, n2, s2, v2⟩ ⟨k, nm, ty, a, b⟩ := by
  obtain ⟨kv, he, hs, hk⟩ := h1
  obtain ⟨kv', he', hs', hk'⟩ := h2
  simp at he he'
  obtain ⟨rfl, rfl, hss, rfl⟩ := he
  obtain ⟨rfl, rfl, hss', rfl⟩ := he'
  have e1 := bs_inj hss
  have e2 := bs_inj hss'
  subst e1 e2
  exact ⟨rfl, rfl, rfl, rfl, rfl, rfl, rfl, rfl, rfl, ⟨hn, ht, hs, hs'⟩, hk, hk'⟩
theorem Gt.gr {α : Type} {row : α → List Value} {k lo rb : Nat} {t : TypeId} {w w' : World} {u : Value} {m : List α} (h : Gt row k t lo w u m) (hg : w.grownBy w' (some rb)) (hr : rb < lo) : Gt row k t lo w' u m := by
  refine h.grown hg ?_
  rcases hq : u.ownBlock with _ | q
  · exact .inl rfl
  · right
    intro e
    have := (h.lt hq).1
    have := Option.some.inj e
    omega
theorem news_at {V : World} {n : Nat} {l : List FS} {t : TypeId} (h : V.heap.size = n) : ∀ (j : Nat) (u : Value), (l.flatMap fsRow)[j]? = some u → (V.alloc (.cells (l.flatMap fsRow).toArray t)).cell? ((⟨n, 0, none⟩ : Addr).add j) = some u := h ▸ World.news_of_block (heap_alloc_new V _)
def nm3 (j : Nat) : Bytes := ([[120], [121], [122]] : List Bytes).getD j []
def fLet (j : Nat) (n : Int) : FS := ⟨1, nm3 j, [105, 110, 116], 1, n, [], .slice none 0 0, 0, 0, [], .slice none 0 0⟩
theorem fLet_one (j : Nat) (n : Int) : ∀ u ∈ fsRow (fLet j n), u.oneCell' = true := fs_one (f := fLet j n) rfl rfl _ (List.mem_singleton.2 rfl)
def sLet (j : Nat) (n : Int) : Sm := ⟨1, nm3 j, [105, 110, 116], .mk 1 n [] [], Ex.none⟩
end Go.Proofs.YtojoknalnmmpeaaGreatDoor


/- Programs that are drawn, bent; the drawers. -/
namespace Go.Proofs.YtojoknalnmmpeaaGreatDoor
set_option maxRecDepth 100000
set_option linter.unusedSimpArgs false
set_option linter.unusedVariables false
open Go.RowKit
attribute [local go_sem] bs_toList bs_get bs_size

theorem Gt.zero {α : Type} {row : α → List Value} {k B : Nat} {t : TypeId} {w : World} {u : Value} {m : List α} (h : Gt row k t B w u m) : (u = .slice none 0 0 ∧ Gt row k t B w (.slice none 0 0) []) ∨ ∃ g cap, u = .slice (some ⟨g, 0, none⟩) m.length cap ∧ m.length ≤ cap ∧ cap ≤ 9223372036854775807 ∧ Gt row k t B w (.slice (some ⟨g, 0, none⟩) 0 cap) [] := by
  rcases h.2 with ⟨rfl, h0⟩ | ⟨g, cap, cur, rfl, hlo, hbk, hc, hm, hsz, ht⟩
  · exact .inl ⟨rfl, Gt.nil _ _ _ _ _⟩
  · exact .inr ⟨g, cap, rfl, hc, by unfold maxLen at hm; omega, by simp, .inr ⟨g, cap, cur, rfl, hlo, hbk, by simp, hm, hsz, by simp⟩⟩
def fZero : FS := ⟨0, [], [], 0, 0, [], .slice none 0 0, 0, 0, [], .slice none 0 0⟩
def sZero : Sm := ⟨0, [], [], Ex.none, Ex.none⟩
theorem fZero_one : ∀ u ∈ fsRow fZero, u.oneCell' = true := fs_one (f := fZero) rfl rfl _ (List.mem_singleton.2 rfl)
theorem fZero_dr (lo : Nat) (w : World) : DrF lo w fZero sZero := DrV.drf (DrE.none _ _) (DrE.none _ _) (by simp) (by simp)
theorem Sl.take {α : Type} {row : α → List Value} {k B : Nat} {w : World} {A : Option Addr} {n c m : Nat} {l : List α} (h : Sl row k w B (.slice A n c) l) (hm : m ≤ l.length) : Sl row k w B (.slice A m c) (l.take m) := by
  obtain ⟨A', c', hv, hc, hx, hh⟩ := h
  obtain ⟨rfl, rfl, rfl⟩ : A = A' ∧ n = l.length ∧ c = c' := by injection hv; exact ⟨‹_›, ‹_›, ‹_›⟩
  have hl : (l.take m).length = m := by rw [List.length_take]; omega
  refine ⟨A, c, by rw [hl], by omega, hx, fun h0 => ?_⟩
  obtain ⟨b, o, hA, hb, hx⟩ := hh (by omega)
  exact ⟨b, o, hA, hb, fun i s hs j x hj => hx i s ((List.getElem?_take.symm.trans hs |> fun e => by split at e <;> simp_all)) j x hj⟩
theorem SmS.take {w : World} {B n c m : Nat} {A : Option Addr} {l : List Sm} (h : SmS w B (.slice A n c) l) (hm : m ≤ l.length) : SmS w B (.slice A m c) (l.take m) := by
  obtain ⟨fl, h1, h2, h3⟩ := h
  refine ⟨fl.take m, h1.take (by omega), by simp [h2], fun i f s hf hs => ?_⟩
  rw [List.getElem?_take] at hf hs
  split at hf
  · rw [if_pos ‹_›] at hs; exact h3 i f s hf hs
  · cases hf
/-- the code of a law: bytes in memory -/
def CodeV (w : World) (v : Value) (l : List Int) : Prop := SlY w w.heap.size v l ∧ ∀ x ∈ l, 0 ≤ x ∧ x < 256
theorem l12Open_any (v : Value) (l : List Int) (w : World) (hv : CodeV w v l) : Calls Tryz.prog 16 #[v] w fun e w' => e = .returned (.pointer (some ⟨w.heap.size, 0, none⟩)) ∧ Rd w' w.heap.size 0 ∧ Below w.heap.size w w' := by
  obtain ⟨hs, hr⟩ := hv
  obtain ⟨A, c, rfl, hc, hm⟩ := hs.val
  by_cases hl : l.length ≤ 2000
  · have hd : decide ((2000 : Int) < ((l.length : Nat) : Int)) = false := by rw [decide_eq_false_iff_not]; omega
    have HX := Lib.hid (And.intro hs hr)
    clear hs hr
    go_enter Tryz.func16, Tryz.ntmps16
    go_wp2_with fail
    go_ret
    refine ⟨rfl, ⟨A, c, l, Blk.new _ _ _, hl, HX.out.2, HX.out.1.below (by (repeat (first | with_reducible assumption | with_reducible exact Below.refl _ _ | with_reducible refine Below.setCell ?_ (by first | omega | (simp; done) | (simp; omega)) _ | with_reducible refine Below.alloc ?_ (by first | omega | (simp; done) | (simp; omega)) _ | with_reducible refine below_drewN ?_ _ | with_reducible refine Below.drew ?_))) (Nat.le_refl _)⟩, by (repeat (first | with_reducible assumption | with_reducible exact Below.refl _ _ | with_reducible refine Below.setCell ?_ (by first | omega | (simp; done) | (simp; omega)) _ | with_reducible refine Below.alloc ?_ (by first | omega | (simp; done) | (simp; omega)) _ | with_reducible refine below_drewN ?_ _ | with_reducible refine Below.drew ?_))⟩
  · have hd : decide ((2000 : Int) < ((l.length : Nat) : Int)) = true := by rw [decide_eq_true_eq]; omega
    have h1 : (2000 : Int) ≤ (c : Int) := by omega
    have HX := Lib.hid (And.intro (hs.take (m := 2000) (by omega)) hr)
    have hlt : (l.take 2000).length = 2000 := by rw [List.length_take]; omega
    clear hs hr
    go_enter Tryz.func16, Tryz.ntmps16
    go_wp2_with fail
    go_ret
    refine ⟨rfl, ⟨A, c, l.take 2000, by rw [hlt]; exact Blk.new _ _ _, by omega, fun x hx => HX.out.2 x (List.mem_of_mem_take hx), by rw [hlt]; exact HX.out.1.below (by (repeat (first | with_reducible assumption | with_reducible exact Below.refl _ _ | with_reducible refine Below.setCell ?_ (by first | omega | (simp; done) | (simp; omega)) _ | with_reducible refine Below.alloc ?_ (by first | omega | (simp; done) | (simp; omega)) _ | with_reducible refine below_drewN ?_ _ | with_reducible refine Below.drew ?_))) (Nat.le_refl _)⟩, by (repeat (first | with_reducible assumption | with_reducible exact Below.refl _ _ | with_reducible refine Below.setCell ?_ (by first | omega | (simp; done) | (simp; omega)) _ | with_reducible refine Below.alloc ?_ (by first | omega | (simp; done) | (simp; omega)) _ | with_reducible refine below_drewN ?_ _ | with_reducible refine Below.drew ?_))⟩
end Go.Proofs.YtojoknalnmmpeaaGreatDoor
