
/- Without types: the reference's and the program's walks. -/
import Derived.Test.YtnejngpdplhbhaaDoorTr
import Derived.Test.YtnejngpdplhbhaaDoorExLaw2
import Derived.Test.YtnejngpdplhbhaaDoorOkE
import Derived.Deep.RegionHeld3
import Derived.Deep.CutBlock
namespace Go.Proofs.YtnejngpdplhbhaaDoor
set_option maxRecDepth 100000
set_option linter.unusedSimpArgs false
set_option linter.unusedVariables false
open Go.RowKit
attribute [local go_sem] bs_toList bs_get bs_size

/-- trees gathered by append: a row of the call's own; what is below lies elsewhere -/
def GrP (B : Nat) (w : World) (u : Value) (l : List Ex) (fl : List FE) (bls : List (List Nat)) : Prop :=
  Gt feRow 4 25 B w u fl ∧ fl.length = l.length ∧ bls.length = l.length ∧
    (∀ (i : Nat) (f : FE) (e : Ex), fl[i]? = some f → l[i]? = some e → f.kind = e.kind ∧ f.n = e.n ∧ f.s = e.s ∧ f.s.length ≤ 9223372036854775807) ∧
    (∀ (i : Nat) (f : FE) (e : Ex) (b : List Nat), fl[i]? = some f → l[i]? = some e → bls[i]? = some b → ExO 25 w f.kv e.kids b) ∧
    ∀ q ∈ bls.flatten, B ≤ q ∧ q < w.heap.size ∧ u.ownBlock ≠ some q
theorem GrP.ext {B : Nat} {w w' : World} {u : Value} {l : List Ex} {fl : List FE} {bls : List (List Nat)} (h : GrP B w u l fl bls) (hb : Ext w w') : GrP B w' u l fl bls := by
  obtain ⟨h1, h2, h3, h4, h5, h6⟩ := h
  exact ⟨h1.ext hb, h2, h3, h4, fun i f e b a1 a2 a3 => (h5 i f e b a1 a2 a3).ext hb, fun q hq => ⟨(h6 q hq).1, Nat.lt_of_lt_of_le (h6 q hq).2.1 hb.size, (h6 q hq).2.2⟩⟩
def GrE (B : Nat) (w : World) (u : Value) (l : List Ex) : Prop := ∃ (fl : List FE) (bls : List (List Nat)), GrP B w u l fl bls
theorem GrE.nil (B : Nat) (w : World) : GrE B w (.slice none 0 0) [] := ⟨[], [], Gt.nil _ _ _ _ _, rfl, rfl, fun i f e h => by simp at h, fun i f e b h => by simp at h, fun q h => by simp at h⟩
theorem GrE.far {B g : Nat} {w : World} {u : Value} {l : List Ex} (h : GrE B w u l) (hg : g < B) (i : Nat) (v : Value) : GrE B (w.setCell ⟨g, i, none⟩ v) u l := by
  obtain ⟨fl, bls, h1, h2, h3, h4, h5, h6⟩ := h
  have hgr : w.grownBy (w.setCell ⟨g, i, none⟩ v) (some g) := by (repeat (first | with_reducible assumption | with_reducible exact grown_rfl _ _ | with_reducible refine grown_st ?_ _ _ | with_reducible refine grown_al ?_ _))
  refine ⟨fl, bls, h1.grown hgr ?_, h2, h3, h4, fun i' f e b a1 a2 a3 => (h5 i' f e b a1 a2 a3).same (fun x hx => ?_), fun q hq => ⟨(h6 q hq).1, by simpa using (h6 q hq).2.1, (h6 q hq).2.2⟩⟩
  · rcases hq : u.ownBlock with _ | q
    · exact .inl rfl
    · right
      intro e
      have := (h1.lt hq).1
      have := Option.some.inj e
      omega
  · exact Below.heap_setCell _ _ _ _ (by have := (h6 x (List.mem_flatten.2 ⟨b, List.mem_of_getElem? a3, hx⟩)).1; simp; omega)
theorem GrE.drk {B : Nat} {w : World} {u : Value} {l : List Ex} (h : GrE B w u l) : DrK B w u l := by
  obtain ⟨fl, bls, h1, h2, h3, h4, h5, h6⟩ := h
  rcases h1.2 with ⟨rfl, h0⟩ | ⟨g, cap, cur, rfl, hlo, hbk, hc, hm, hsz, ht⟩
  · obtain rfl : l = [] := List.length_eq_zero_iff.1 (by omega)
    exact DrK.nil _ _
  · rcases Nat.eq_zero_or_pos l.length with h0 | h0
    · obtain rfl : l = [] := List.length_eq_zero_iff.1 h0
      rw [h2]
      exact ⟨[], .nil _ cap hm, fun b h => by simp at h⟩
    · rw [h2]
      refine ⟨g :: bls.flatten, .mk g cap cur fl l bls h0 (by omega) hm hbk h2 h3 (fun i f hf j x hx => ?_) h4 h5, fun b hb => ?_⟩
      · have hx2 := flat_at' (row := feRow) (k := 4) (fun _ => rfl) fl i f hf j x hx
        rw [← ht, List.getElem?_take] at hx2
        split at hx2
        · simpa using hx2
        · cases hx2
      · rw [List.mem_cons] at hb
        rcases hb with rfl | hb
        · exact hlo
        · exact (h6 b hb).1
theorem GrP.push {B lo g cap : Nat} {w w' : World} {u : Value} {l : List Ex} {fl : List FE} {bls : List (List Nat)} {x : Ex} {f : FE} (h : GrP B w u l fl bls) (hd : DrE lo w (.agg #[.int .i64 f.kind, .int .i64 f.n, .string (bs f.s), f.kv]) x) (hlo : ∀ q, u.ownBlock = some q → q < lo) (hB : B ≤ lo)
    (hG : Gt feRow 4 25 B w' (.slice (some ⟨g, 0, none⟩) (fl.length + 1) cap) (fl ++ [f])) (hgr : w.grownBy w' u.ownBlock) (hat : u.ownBlock = some g ∨ g = w.heap.size) : GrE B w' (.slice (some ⟨g, 0, none⟩) (fl.length + 1) cap) (l ++ [x]) := by
  obtain ⟨_, h2, h3, h4, h5, h6⟩ := h
  obtain ⟨kv, he, hs, bl, hO, hl⟩ := hd
  simp at he
  obtain ⟨e1, e2, e3, e4⟩ := he
  have e3 := bs_inj e3
  have hO' := hO
  rw [← e4] at hO'
  have hne : ∀ q ∈ bl, u.ownBlock ≠ some q := fun q hq e => by have := hlo q e; have := hl q hq; omega
  refine ⟨fl ++ [f], bls ++ [bl], hG, by simp [h2], by simp [h3], fun i f' e' a1 a2 => ?_, fun i f' e' b' a1 a2 a3 => ?_, fun q hq => ?_⟩
  · rcases getElem?_snoc a1 with ⟨b1, b2⟩ | ⟨b1, rfl⟩
    · rw [List.getElem?_append_left (by omega)] at a2
      exact h4 i f' e' b2 a2
    · rw [b1, h2, List.getElem?_append_right (Nat.le_refl _), Nat.sub_self] at a2
      simp at a2
      subst a2
      exact ⟨e1, e2, e3, by rw [e3]; exact hs⟩
  · rcases getElem?_snoc a1 with ⟨b1, b2⟩ | ⟨b1, rfl⟩
    · rw [List.getElem?_append_left (by omega)] at a2 a3
      have hO2 := h5 i f' e' b' b2 a2 a3
      exact hO2.same (fun x hx => hgr.block x (hO2.lt x hx) (fun e => (h6 x (List.mem_flatten.2 ⟨b', List.mem_of_getElem? a3, hx⟩)).2.2 e.symm))
    · rw [b1, h2, List.getElem?_append_right (Nat.le_refl _), Nat.sub_self] at a2
      rw [b1, h2, ← h3, List.getElem?_append_right (Nat.le_refl _), Nat.sub_self] at a3
      simp at a2 a3
      subst a2 a3
      exact hO'.same (fun x hx => hgr.block x (hO.lt x hx) (fun e => hne x hx e.symm))
  · rw [List.flatten_append, List.mem_append] at hq
    have hz := hgr.size
    rcases hq with hq | hq
    · obtain ⟨c1, c2, c3⟩ := h6 q hq
      refine ⟨c1, by omega, fun e => ?_⟩
      simp [Value.ownBlock] at e
      rcases hat with hat | hat
      · exact c3 (by rw [hat, e])
      · omega
    · simp at hq
      have c1 := hl q hq
      have c2 := hO.lt q hq
      refine ⟨by omega, by omega, fun e => ?_⟩
      simp [Value.ownBlock] at e
      rcases hat with hat | hat
      · have := hlo g hat; omega
      · omega
section
variable {ops : Array Oper} {rest : List Oper} {o : Oper} {a : Act} {Q : Exit → Act → World → Prop} {w : World}
theorem app_stepE {K : Act → World → Prop} {E : Prop} (hgd : o.guard = none) (s x : Operand) (ho : o.op = .call { callee := .builtin .append, args := #[s, x], argTypes := #[23, 23] })
    (B : Nat) (v : Value) (l : List FE) (hs : a.eval s = v) (hv : Gt feRow 4 25 B w v l) (f : FE) (hone : ∀ u ∈ feRow f, u.oneCell' = true) (g0 : Nat) (hx : a.eval x = .slice (some ⟨g0, 0, none⟩) 1 1)
    (hc : ∀ (j : Nat) (u : Value), ([f].flatMap feRow)[j]? = some u → w.cell? ((⟨g0, 0, none⟩ : Addr).add j) = some u) (hl : l.length + 1 ≤ 1000000) (hB : B ≤ w.heap.size)
    (h : ∀ g cap w', Gt feRow 4 25 B w' (.slice (some ⟨g, 0, none⟩) (l.length + 1) cap) (l ++ [f]) → w.grownBy w' v.ownBlock → (v.ownBlock = some g ∨ g = w.heap.size) → K (a.put o.dst (.slice (some ⟨g, 0, none⟩) (l.length + 1) cap)) w') :
    if Region.wanted o (yielded ops a.tmps) = true then Oper.wp Tryd.prog o a w K Q else E :=
  app_step1 (row := feRow) (k := 4) (t := 25) (tS := 23) (l2 := [f]) (fun _ => rfl) (by decide) Tryd.underlying23 infoExpr (by decide) rfl hgd s x ho B v l hs hv ⟨g0, 0, none⟩ 1 (fun s hs => by simp at hs; subst hs; exact hone) hx hc (Nat.succ_pos 0) hl hB h
end
theorem fe_one {k n : Int} {s : Bytes} {A : Option Addr} {m c : Nat} : ∀ u ∈ feRow ⟨k, n, s, .slice A m c⟩, u.oneCell' = true := by
  intro u hu
  simp [feRow] at hu
  rcases hu with rfl | rfl | rfl | rfl <;> rfl
theorem news_fe {V : World} {n : Nat} {l : List FE} {t : TypeId} (h : V.heap.size = n) : ∀ (j : Nat) (u : Value), (l.flatMap feRow)[j]? = some u → (V.alloc (.cells (l.flatMap feRow).toArray t)).cell? ((⟨n, 0, none⟩ : Addr).add j) = some u := h ▸ World.news_of_block (heap_alloc_new V _)
def vEx (k n : Int) (s : Bytes) (kv : Value) : Value := .agg #[.int .i64 k, .int .i64 n, .string (bs s), kv]
theorem take_succ_ex {l : List Ex} {j : Nat} {x : Ex} (h : l[j]? = some x) : l.take (j + 1) = l.take j ++ [x] := by
  obtain ⟨hj, rfl⟩ := List.getElem?_eq_some_iff.1 h
  rw [List.take_succ_eq_append_getElem hj]

def SpB (x y : Ex) : Prop := ∀ (v : Value) (w : World), ExV w w.heap.size v x → Calls Tryd.prog 27 #[v] w fun r w' => ∃ v', r = .returned v' ∧ DrE w.heap.size w' v' y ∧ Below w.heap.size w w'
set_option maxHeartbeats 1000000 in
theorem spBare_list (k n : Int) (s : Bytes) (xs ys : List Ex) (hk : k ≠ 4) (hl : xs.length = ys.length) (hm : xs.length ≤ 1000) (IH : ∀ (i : Nat) (x y : Ex), xs[i]? = some x → ys[i]? = some y → SpB x y) : SpB (.mk k n s xs) (.mk k n s ys) := by
  intro v w hv
  obtain ⟨A, c, rfl, hc, hcm⟩ := (show ∃ A c, v = .agg #[.int .i64 k, .int .i64 n, .string (bs s), .slice A xs.length c] ∧ xs.length ≤ c ∧ c ≤ 9223372036854775807 from by
    obtain ⟨kv, rfl, h1, h2⟩ := id hv
    obtain ⟨A, c, e, h3, h4⟩ := h2.val
    simp only [Ex.kids] at e h3
    exact ⟨A, c, by simp only [Ex.kind, Ex.n, Ex.s]; rw [e], h3, h4⟩)
  obtain ⟨hs, hkv⟩ : s.length ≤ 9223372036854775807 ∧ ExS w w.heap.size (.slice A xs.length c) xs := by
    obtain ⟨kv, e, h1, h2⟩ := hv
    have e4 : (Value.slice A xs.length c) = kv := by simp at e; exact e.2.2.2
    rw [e4]
    exact ⟨h1, h2⟩
  have HI := Lib.hid (And.intro IH (And.intro hl hs))
  have hk4 : (k == 4) = false := by simpa using hk
  clear IH hk hl hs hv
  go_enter Tryd.func27, Tryd.ntmps27
  go_wp2_with fail
  go_loopg [4] xs.length (fun m i wr => ∃ (j : Nat) (u : Value), m = xs.length - j ∧ j ≤ xs.length ∧ i = .int .i64 j ∧ Blk wr w.heap.size 25 #[.int .i64 k, .int .i64 n, .string (bs s), .slice A xs.length c] ∧ Blk wr (w.heap.size + 1) 25 #[.int .i64 0, .int .i64 0, .string ⟨#[]⟩, .slice none 0 0] ∧ Blk wr (w.heap.size + 1 + 1) 25 #[.int .i64 k, .int .i64 n, .string (bs s), u] ∧ GrE (w.heap.size + 3) wr u (ys.take j) ∧ Below w.heap.size w wr)
  case atStart => exact ⟨0, _, by omega, by omega, rfl, ((Blk.new _ _ _).alloc _).alloc _, by simpa using (Blk.new (w.alloc _) 25 #[.int .i64 0, .int .i64 0, .string ⟨#[]⟩, .slice none 0 0]).alloc _, by simpa using Blk.new ((w.alloc _).alloc _) 25 #[.int .i64 k, .int .i64 n, .string (bs s), .slice none 0 0], by rw [List.take_zero]; exact GrE.nil _ _, by (repeat (first | with_reducible assumption | with_reducible exact Below.refl _ _ | with_reducible refine Below.setCell ?_ (by first | omega | (simp; done) | (simp; omega)) _ | with_reducible refine Below.alloc ?_ (by first | omega | (simp; done) | (simp; omega)) _ | with_reducible refine below_drewN ?_ _ | with_reducible refine Below.drew ?_))⟩
  case round =>
    obtain ⟨j, u, hm2, hj, rfl, hB0, hB1, hB2, hG, hbl⟩ := hrel
    have HK := Lib.hid hm2
    clear hm2
    have b03 := hB0.cell 3
    simp at b03
    have hz := hB2.lt
    by_cases hlt : j < xs.length
    · obtain ⟨b, o, p1, q1, s1, A1, c1, m1, rfl, hb, hg, hs1, hm1, hc1, hk1, f0, f1, f2, f3⟩ := ex_at hkv hlt
      have g0 := f0 ⟨wr, hbl⟩; have g1 := f1 ⟨wr, hbl⟩; have g2 := f2 ⟨wr, hbl⟩; have g3 := f3 ⟨wr, hbl⟩
      obtain ⟨y, hy⟩ : ∃ y, ys[j]? = some y := ⟨_, List.getElem?_eq_getElem (by have := HI.out.2.1; omega)⟩
      have IH := Lib.hid (fun (w' : World) (h : Below w.heap.size w w') => HI.out.1 j _ y hg hy (.agg #[.int .i64 p1, .int .i64 q1, .string (bs s1), .slice A1 m1.length c1]) w' ⟨_, rfl, by rw [bs_size] at hs1; exact hs1, (hk1.keep h (Nat.le_refl _)).more h.size⟩)
      obtain ⟨fl, bls, hP⟩ := hG
      have hG1 := hP.1
      have hfl3 : fl.length = j := by rw [hP.2.1, List.length_take]; have := HI.out.2.1; omega
      obtain ⟨Au, cu, rfl, _, _⟩ := hG1.val
      have b23 := hB2.cell 3
      simp at b23
      have HG := Lib.hid (And.intro hG1 (And.intro hP (And.intro hy hfl3)))
      have hown : ∀ q, (Value.slice Au fl.length cu).ownBlock = some q → w.heap.size + 3 ≤ q ∧ q < wr.heap.size := fun q hq => hG1.lt hq
      have KEEP := Lib.hid (show ∀ w' : World, Below (w.heap.size + 3) wr w' → (w'.cell? ⟨w.heap.size, 3, none⟩ = some (.slice (some ⟨b, o, none⟩) xs.length c) ∧ w'.cell? ⟨w.heap.size + 1 + 1, 3, none⟩ = some (.slice Au fl.length cu) ∧ w'.cell? ⟨b, o + j * 4, none⟩ = some (.int .i64 p1) ∧ w'.cell? ⟨b, o + j * 4 + 1, none⟩ = some (.int .i64 q1) ∧ w'.cell? ⟨b, o + j * 4 + 2, none⟩ = some (.string (bs s1)) ∧ w'.cell? ⟨b, o + j * 4 + 3, none⟩ = some (.slice A1 m1.length c1)) from
        fun w' h => ⟨(h.cell (p := ⟨_, 3, none⟩) (by first | omega | (simp; done) | (simp only [List.length_cons, List.length_nil, List.length_append]; omega) | (simp; omega))).trans b03, (h.cell (p := ⟨_, 3, none⟩) (by first | omega | (simp; done) | (simp only [List.length_cons, List.length_nil, List.length_append]; omega) | (simp; omega))).trans b23, (h.cell (p := ⟨b, _, none⟩) (by first | omega | (simp; done) | (simp only [List.length_cons, List.length_nil, List.length_append]; omega) | (simp; omega))).trans g0, (h.cell (p := ⟨b, _, none⟩) (by first | omega | (simp; done) | (simp only [List.length_cons, List.length_nil, List.length_append]; omega) | (simp; omega))).trans g1, (h.cell (p := ⟨b, _, none⟩) (by first | omega | (simp; done) | (simp only [List.length_cons, List.length_nil, List.length_append]; omega) | (simp; omega))).trans g2, (h.cell (p := ⟨b, _, none⟩) (by first | omega | (simp; done) | (simp only [List.length_cons, List.length_nil, List.length_append]; omega) | (simp; omega))).trans g3⟩)
      have HB := Lib.hid (And.intro hB0 (And.intro hB1 hB2))
      have hfb : fl.length + 1 ≤ 1000000 := by omega
      clear f0 f1 f2 f3 hg hy hk1 hG1 hP hfl3 hB0 hB1 hB2 hkv
      go_wp2_with fail
      obtain ⟨y03, y23, yk0, yk1, yk2, yk3⟩ := KEEP.out wr (Below.refl _ _)
      go_region_law
        (first
          | (refine app_stepE (by rfl) (.tmp 28) (.tmp 35) (by rfl) (w.heap.size + 3) (.slice Au fl.length cu) fl (by rfl) ?_ ⟨k2, n2, s2, .slice A2 l2.length c2⟩ fe_one w2.heap.size (by rfl) ?_ ?_ ?_ ?_; exact HG.out.1.ext (by (repeat (first | with_reducible assumption | with_reducible exact Below.refl _ _ | with_reducible refine Below.setCell ?_ (by first | omega | (simp; done) | (simp; omega)) _ | with_reducible refine Below.alloc ?_ (by first | omega | (simp; done) | (simp; omega)) _ | with_reducible refine below_drewN ?_ _ | with_reducible refine Below.drew ?_ | with_reducible refine Below.trans ?_ (Below.mono hb2 (by first | omega | (simp; done) | (simp; omega)))))); exact news_fe rfl; (first | omega | (simp; done) | (simp only [List.length_cons, List.length_nil, List.length_append]; omega) | (simp; omega)); (first | omega | (simp; done) | (simp only [List.length_cons, List.length_nil, List.length_append]; omega) | (simp; omega)); intro g6 cap6 w6 hG6 hgr6 hat6; have hb6 : Below (w.heap.size + 3) wr w6 := below_app (show Below (w.heap.size + 3) wr _ from by (repeat (first | with_reducible assumption | with_reducible exact Below.refl _ _ | with_reducible refine Below.setCell ?_ (by first | omega | (simp; done) | (simp; omega)) _ | with_reducible refine Below.alloc ?_ (by first | omega | (simp; done) | (simp; omega)) _ | with_reducible refine below_drewN ?_ _ | with_reducible refine Below.drew ?_ | with_reducible refine Below.trans ?_ (Below.mono hb2 (by first | omega | (simp; done) | (simp; omega)))))) hgr6 (fun q hq => (hown q hq).1) (by first | omega | (simp; done) | (simp only [List.length_cons, List.length_nil, List.length_append]; omega) | (simp; omega)); obtain ⟨_, x23, _⟩ := KEEP.out w6 hb6; have z23 := (HB.out.2.2.below hb6 (by first | omega | (simp; done) | (simp only [List.length_cons, List.length_nil, List.length_append]; omega) | (simp; omega))).frozen 3)
          | (go_simp; go_at_call 27; refine (IH.out _ (by (repeat (first | with_reducible assumption | with_reducible exact Below.refl _ _ | with_reducible refine Below.setCell ?_ (by first | omega | (simp; done) | (simp; omega)) _ | with_reducible refine Below.alloc ?_ (by first | omega | (simp; done) | (simp; omega)) _ | with_reducible refine below_drewN ?_ _ | with_reducible refine Below.drew ?_ | with_reducible refine Below.trans ?_ (Below.mono hbl (by first | omega | (simp; done) | (simp; omega))))))).mono ?_; rintro r w2 ⟨v2, rfl, hD2, hb2⟩; have hz2 := hb2.size; (try simp at hz2); obtain ⟨k2, n2, s2, A2, c2, l2, rfl, rfl, hs2, hc2, hm2, hK2⟩ := hD2.form; obtain ⟨x03, x23, xk0, xk1, xk2, xk3⟩ := KEEP.out w2 (by (repeat (first | with_reducible assumption | with_reducible exact Below.refl _ _ | with_reducible refine Below.setCell ?_ (by first | omega | (simp; done) | (simp; omega)) _ | with_reducible refine Below.alloc ?_ (by first | omega | (simp; done) | (simp; omega)) _ | with_reducible refine below_drewN ?_ _ | with_reducible refine Below.drew ?_ | with_reducible refine Below.trans ?_ (Below.mono hb2 (by first | omega | (simp; done) | (simp; omega)))))); have a23 := (KEEP.out (w2.alloc (.cells #[.int .i64 k2, .int .i64 n2, .string (bs s2), .slice A2 l2.length c2] 25)) (by (repeat (first | with_reducible assumption | with_reducible exact Below.refl _ _ | with_reducible refine Below.setCell ?_ (by first | omega | (simp; done) | (simp; omega)) _ | with_reducible refine Below.alloc ?_ (by first | omega | (simp; done) | (simp; omega)) _ | with_reducible refine below_drewN ?_ _ | with_reducible refine Below.drew ?_ | with_reducible refine Below.trans ?_ (Below.mono hb2 (by first | omega | (simp; done) | (simp; omega))))))).2.1)
          | fail)
      all_goals
        have HW := Lib.hid (And.intro hb6 (And.intro hG6 (And.intro hgr6 (And.intro hat6 (And.intro hD2 (And.intro hb2 hown))))))
        clear hb6 hG6 hgr6 hat6 hD2 hb2 hown
        go_wp2_with fail
        go_roundg (xs.length - (j + 1))
        case measure => have := HK.out; omega
        case rel =>
          obtain ⟨hb6, hG6, hgr6, hat6, hD2, hb2, hown⟩ := HW.out
          obtain ⟨hB0, hB1, hB2⟩ := HB.out
          obtain ⟨_, hP, hy, hfl3⟩ := HG.out
          refine ⟨j + 1, _, rfl, by omega, by go_num, (hB0.below hb6 (by first | omega | (simp; done) | (simp only [List.length_cons, List.length_nil, List.length_append]; omega) | (simp; omega))).far (by first | omega | (simp; done) | (simp only [List.length_cons, List.length_nil, List.length_append]; omega) | (simp; omega)) _, (hB1.below hb6 (by first | omega | (simp; done) | (simp only [List.length_cons, List.length_nil, List.length_append]; omega) | (simp; omega))).far (by first | omega | (simp; done) | (simp only [List.length_cons, List.length_nil, List.length_append]; omega) | (simp; omega)) _, by simpa using (hB2.below hb6 (by first | omega | (simp; done) | (simp only [List.length_cons, List.length_nil, List.length_append]; omega) | (simp; omega))).set_ 3 _, ?_, by (repeat (first | with_reducible assumption | with_reducible exact Below.refl _ _ | with_reducible refine Below.setCell ?_ (by first | omega | (simp; done) | (simp; omega)) _ | with_reducible refine Below.alloc ?_ (by first | omega | (simp; done) | (simp; omega)) _ | with_reducible refine below_drewN ?_ _ | with_reducible refine Below.drew ?_ | with_reducible refine Below.trans ?_ (Below.mono hb6 (by first | omega | (simp; done) | (simp; omega))) | with_reducible refine Below.trans ?_ (Below.mono hbl (by first | omega | (simp; done) | (simp; omega)))))⟩
          rw [take_succ_ex hy]
          exact ((hP.ext (by (repeat (first | with_reducible assumption | with_reducible exact Below.refl _ _ | with_reducible refine Below.setCell ?_ (by first | omega | (simp; done) | (simp; omega)) _ | with_reducible refine Below.alloc ?_ (by first | omega | (simp; done) | (simp; omega)) _ | with_reducible refine below_drewN ?_ _ | with_reducible refine Below.drew ?_ | with_reducible refine Below.trans ?_ (Below.mono hb2 (by first | omega | (simp; done) | (simp; omega))))))).push (hD2.ext (by (repeat (first | with_reducible assumption | with_reducible exact Below.refl _ _ | with_reducible refine Below.setCell ?_ (by first | omega | (simp; done) | (simp; omega)) _ | with_reducible refine Below.alloc ?_ (by first | omega | (simp; done) | (simp; omega)) _ | with_reducible refine below_drewN ?_ _ | with_reducible refine Below.drew ?_)))) (fun q hq => by have := hown q hq; simp; omega) (by simp; omega) hG6 hgr6 hat6).far (by simp) _ _
    · obtain rfl : j = xs.length := by omega
      obtain ⟨fl, bls, hP⟩ := hG
      obtain ⟨Au, cu, rfl, hcu, hcm2⟩ := hP.1.val
      have z0 := hB1.frozen 0; have z1 := hB1.frozen 1; have z2 := hB1.frozen 2; have z3 := hB1.frozen 3
      have y0 := hB1.cell 0; have y1 := hB1.cell 1; have y2 := hB1.cell 2; have y3 := hB1.cell 3
      have b0 := hB2.cell 0; have b1 := hB2.cell 1; have b2 := hB2.cell 2; have b3 := hB2.cell 3
      simp at y0 y1 y2 y3 b0 b1 b2 b3
      have hGr : GrE (w.heap.size + 3) wr (.slice Au fl.length cu) ys := by rw [HI.out.2.1, List.take_length] at hP; exact ⟨fl, bls, hP⟩
      have HG := Lib.hid (And.intro hGr hbl)
      clear hP hB0 hB1 hB2 hkv hGr hbl
      go_wp2_with fail
      refine bodyPost_ret (v := vEx k n s (.slice Au fl.length cu)) (by simp [results, Tryd.results27, go_sem, vEx, *]) rfl ?_
      obtain ⟨hGr, hbl⟩ := HG.out
      refine ⟨_, rfl, DrE.of HI.out.2.2 ((DrK.grown hGr.drk (r := some (w.heap.size + 1)) (by (repeat (first | with_reducible assumption | with_reducible exact grown_rfl _ _ | with_reducible refine grown_st ?_ _ _ | with_reducible refine grown_al ?_ _))) (fun q e => by have := Option.some.inj e; omega)).less (by omega)), by (repeat (first | with_reducible assumption | with_reducible exact Below.refl _ _ | with_reducible refine Below.setCell ?_ (by first | omega | (simp; done) | (simp; omega)) _ | with_reducible refine Below.alloc ?_ (by first | omega | (simp; done) | (simp; omega)) _ | with_reducible refine below_drewN ?_ _ | with_reducible refine Below.drew ?_ | with_reducible refine Below.trans ?_ (Below.mono hbl (by first | omega | (simp; done) | (simp; omega)))))⟩
theorem spBare_cast (n : Int) (s : Bytes) (x y : Ex) (IH : SpB x y) : SpB (.mk 4 n s [x]) y := by
  intro v w hv
  obtain ⟨k', n', s', A, c, l, e, rfl, hs, hc, hcm, hkv⟩ := hv.form
  obtain ⟨rfl, rfl, rfl, rfl⟩ := Ex.mk.inj e
  obtain ⟨b, o, p1, q1, s1, A1, c1, m1, rfl, hb, hg, hs1, hm1, hc1, hk1, f0, f1, f2, f3⟩ := ex_at hkv (i := 0) (by simp)
  obtain rfl : x = .mk p1 q1 s1 m1 := by simpa using hg
  rw [bs_size] at hs1
  have IH' := Lib.hid (fun (w' : World) (h : Below w.heap.size w w') => IH (.agg #[.int .i64 p1, .int .i64 q1, .string (bs s1), .slice A1 m1.length c1]) w' ⟨_, rfl, hs1, (hk1.keep h (Nat.le_refl _)).more h.size⟩)
  have hB : Below w.heap.size w ((w.alloc (.cells #[.int .i64 4, .int .i64 n, .string (bs s), .slice (some ⟨b, o, none⟩) 1 c] 25)).alloc (.cells #[.int .i64 0, .int .i64 0, .string ⟨#[]⟩, .slice none 0 0] 25)) := by (repeat (first | with_reducible assumption | with_reducible exact Below.refl _ _ | with_reducible refine Below.setCell ?_ (by first | omega | (simp; done) | (simp; omega)) _ | with_reducible refine Below.alloc ?_ (by first | omega | (simp; done) | (simp; omega)) _ | with_reducible refine below_drewN ?_ _ | with_reducible refine Below.drew ?_))
  have g0 := f0 ⟨_, hB⟩; have g1 := f1 ⟨_, hB⟩; have g2 := f2 ⟨_, hB⟩; have g3 := f3 ⟨_, hB⟩
  simp only [Nat.zero_mul, Nat.add_zero] at g0 g1 g2 g3
  clear f0 f1 f2 f3 hk1 hkv IH hv hB
  go_enter Tryd.func27, Tryd.ntmps27
  go_wp2_with fail
  refine (IH'.out _ (by (repeat (first | with_reducible assumption | with_reducible exact Below.refl _ _ | with_reducible refine Below.setCell ?_ (by first | omega | (simp; done) | (simp; omega)) _ | with_reducible refine Below.alloc ?_ (by first | omega | (simp; done) | (simp; omega)) _ | with_reducible refine below_drewN ?_ _ | with_reducible refine Below.drew ?_)))).mono ?_
  rintro r w2 ⟨v2, rfl, hD2, hb2⟩
  obtain ⟨k2, n2, s2, A2, c2, l2, rfl, rfl, hs2, hc2, hm2, hK2⟩ := hD2.form
  have hz2 := hb2.size
  simp at hz2
  have k1_0 := fun o => hb2.cell (p := ⟨w.heap.size, o, none⟩) (by first | omega | (simp; done) | (simp; omega)); have k1f_0 := fun o => hb2.frozen (p := ⟨w.heap.size, o, none⟩) (by first | omega | (simp; done) | (simp; omega)); have k1_1 := fun o => hb2.cell (p := ⟨w.heap.size + 1, o, none⟩) (by first | omega | (simp; done) | (simp; omega)); have k1f_1 := fun o => hb2.frozen (p := ⟨w.heap.size + 1, o, none⟩) (by first | omega | (simp; done) | (simp; omega))
  have HD := Lib.hid (And.intro hD2 hb2)
  clear hD2 hb2 hK2 IH'
  go_wp2_with fail
  refine bodyPost_ret (v := vEx k2 n2 s2 (.slice A2 l2.length c2)) (by simp [results, Tryd.results27, go_sem, vEx, *]) rfl ?_
  obtain ⟨hD2, hb2⟩ := HD.out
  refine ⟨_, rfl, (hD2.grown (r := some (w.heap.size + 1)) (by (repeat (first | with_reducible assumption | with_reducible exact grown_rfl _ _ | with_reducible refine grown_st ?_ _ _ | with_reducible refine grown_al ?_ _))) (fun q e => by have := Option.some.inj e; simp; omega)).less (by simp; omega), by (repeat (first | with_reducible assumption | with_reducible exact Below.refl _ _ | with_reducible refine Below.setCell ?_ (by first | omega | (simp; done) | (simp; omega)) _ | with_reducible refine Below.alloc ?_ (by first | omega | (simp; done) | (simp; omega)) _ | with_reducible refine below_drewN ?_ _ | with_reducible refine Below.drew ?_ | with_reducible refine Below.trans ?_ (Below.mono hb2 (by first | omega | (simp; done) | (simp; omega)))))⟩
theorem spBare_any : ∀ e : E, SpB e.ex e.bare.ex
  | .num n => spBare_list 1 n [] [] [] (by decide) rfl (by simp) (fun i x y h => by simp at h)
  | .nam s => spBare_list 2 0 s [] [] (by decide) rfl (by simp) (fun i x y h => by simp at h)
  | .two o a b => spBare_list 3 0 o.b [a.ex, b.ex] [a.bare.ex, b.bare.ex] (by decide) rfl (by simp) (fun i x y h1 h2 => by
      rcases i with _ | _ | i
      · simp at h1 h2; subst h1 h2; exact spBare_any a
      · simp at h1 h2; subst h1 h2; exact spBare_any b
      · simp at h1)
  | .cast t a => spBare_cast 0 (tyB t) a.ex a.bare.ex (spBare_any a)

end Go.Proofs.YtnejngpdplhbhaaDoor
