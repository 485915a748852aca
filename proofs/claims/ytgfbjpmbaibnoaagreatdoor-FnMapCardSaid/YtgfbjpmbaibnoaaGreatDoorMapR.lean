
/- Plain Lean: a map is read from its text. No program in sight, no condition. -/
import Derived.Test.YtgfbjpmbaibnoaaGreatDoorNrd
namespace Go.Proofs.YtgfbjpmbaibnoaaGreatDoor
set_option maxRecDepth 100000
set_option linter.unusedSimpArgs false
set_option linter.unusedVariables false
open Go.RowKit

abbrev wr64 (x : Int) : Int := wrap64 x
theorem wr64_small {x : Int} (h1 : -1000000000 ≤ x) (h2 : x ≤ 1000000000) : wr64 x = x := by unfold wr64 wrap64; omega
/-- the places of a line, part by part -/
noncomputable def rowM (line : Int) : Int → Ps → List Bytes → Option (List Sg × Ps)
  | _, fr, [] => some ([], fr)
  | col, fr, p :: ps => match rdNs p with
    | some [a, b, c] => (rowM line (wr64 (col + a)) (wr64 (fr.1 + b), wr64 (fr.2 + c)) ps).map (fun r => (((line, wr64 (col + a)), (wr64 (fr.1 + b), wr64 (fr.2 + c))) :: r.1, r.2))
    | _ => none
noncomputable def lineM (line : Int) (fr : Ps) (row : Bytes) : Option (List Sg × Ps) := if row = [] then some ([], fr) else rowM line 0 fr (cutB 44 row)
/-- the places of lines -/
noncomputable def mapM : Int → Ps → List Bytes → Option (List Sg)
  | _, _, [] => some []
  | i, fr, row :: rows => match lineM i fr row with
    | none => none
    | some (l, f) => (mapM (i + 1) f rows).map (fun m => l ++ m)
theorem rowM_no {line col : Int} {fr : Ps} {p : Bytes} {ps : List Bytes} (h : ∀ a b c, rdNs p ≠ some [a, b, c]) : rowM line col fr (p :: ps) = none := by
  rw [rowM]
  split
  · next a b c hx => exact absurd hx (h a b c)
  · rfl
theorem rowM_yes {line col : Int} {fr : Ps} {p : Bytes} {ps : List Bytes} {a b c : Int} (h : rdNs p = some [a, b, c]) : rowM line col fr (p :: ps) = (rowM line (wr64 (col + a)) (wr64 (fr.1 + b), wr64 (fr.2 + c)) ps).map (fun r => (((line, wr64 (col + a)), (wr64 (fr.1 + b), wr64 (fr.2 + c))) :: r.1, r.2)) := by
  rw [rowM, h]
theorem mapM_no {i : Int} {fr : Ps} {row : Bytes} {rows : List Bytes} (h : lineM i fr row = none) : mapM i fr (row :: rows) = none := by
  rw [mapM, h]
theorem mapM_yes {i : Int} {fr f : Ps} {row : Bytes} {rows : List Bytes} {l : List Sg} (h : lineM i fr row = some (l, f)) : mapM i fr (row :: rows) = (mapM (i + 1) f rows).map (fun m => l ++ m) := by
  rw [mapM, h]
theorem mapM_rep (i : Int) (fr : Ps) (rows : List Bytes) : ∀ d : Nat, mapM i fr (List.replicate d [] ++ rows) = mapM (i + d) fr rows
  | 0 => by simp
  | d + 1 => by
    rw [List.replicate_succ, List.cons_append, mapM_yes (l := []) (f := fr) (by unfold lineM; rw [if_pos rfl]), mapM_rep (i + 1) fr rows d]
    rw [show i + 1 + (d : Int) = i + ((d + 1 : Nat) : Int) by omega]
    cases mapM (i + ((d + 1 : Nat) : Int)) fr rows <;> rfl
theorem lo_no {k : Nat} (h : k < 16) : lo k ≠ 61 ∧ lo k ≠ 44 := by
  constructor <;> intro e <;> have := congrArg UInt8.toNat e <;> rw [lo_toNat h] at this <;> simp at this <;> omega
theorem hi_no {k : Nat} (h : k < 16) : hi k ≠ 61 ∧ hi k ≠ 44 := by
  constructor <;> intro e <;> have := congrArg UInt8.toNat e <;> rw [hi_toNat h] at this <;> simp at this <;> omega
theorem digL_no : ∀ (n : Nat) (y : UInt8), y ∈ digL n → y ≠ 61 ∧ y ≠ 44 := by
  intro n
  induction n using Nat.strongRecOn with
  | _ n ih =>
    intro y hy
    by_cases h1 : n < 16
    · rw [digL_lt h1, List.mem_singleton] at hy
      subst hy
      exact lo_no h1
    · rw [digL_ge h1, List.mem_cons] at hy
      rcases hy with rfl | hy
      · exact hi_no (Nat.mod_lt _ (by decide))
      · exact ih (n / 16) (by omega) y hy
theorem numL_no (n : Int) (y : UInt8) (hy : y ∈ numL n) : y ≠ 61 ∧ y ≠ 44 := by
  unfold numL at hy
  split at hy
  · exact digL_no _ _ hy
  · cases hy
/-- what is left of a line, and the lines behind it, when its places up to t are read -/
noncomputable def contM (t : Sg) (r0 : Bytes) (rs : List Bytes) : Option (List Sg) :=
  match (if r0 = [] then some ([], t.2) else rowM t.1.1 t.1.2 t.2 (cutB 44 (r0.drop 1))) with
  | none => none
  | some (l, f) => (mapM (t.1.1 + 1) f rs).map (fun m => l ++ m)
theorem row_piece {s : Sg} {col : Int} {fr : Ps} {r1 : Bytes} {rs1 : List Bytes} {a b c : Int} {l : List Sg} (ha : NumIn a) (hb : NumIn b) (hc : NumIn c) (e1 : wr64 (col + a) = s.1.2) (e2 : wr64 (fr.1 + b) = s.2.1) (e3 : wr64 (fr.2 + c) = s.2.2) (hr : r1 = [] ∨ ∃ z, r1 = 44 :: z) (h : contM s r1 rs1 = some l) :
    (match rowM s.1.1 col fr (cutB 44 (numL a ++ (numL b ++ numL c) ++ r1)) with
      | none => none
      | some (l', f) => (mapM (s.1.1 + 1) f rs1).map (fun m => l' ++ m)) = some (s :: l) := by
  have hN : rdNs (numL a ++ (numL b ++ numL c)) = some [a, b, c] := rdNs_iff.2 ⟨by intro n hn; simp at hn; rcases hn with rfl | rfl | rfl <;> assumption, by simp⟩
  have hno : ∀ y ∈ numL a ++ (numL b ++ numL c), y ≠ 44 := by
    intro y hy
    rw [List.mem_append, List.mem_append] at hy
    rcases hy with hy | hy | hy
    · exact (numL_no _ _ hy).2
    · exact (numL_no _ _ hy).2
    · exact (numL_no _ _ hy).2
  have hs : (((s.1.1, wr64 (col + a)), (wr64 (fr.1 + b), wr64 (fr.2 + c))) : Sg) = s := by rw [e1, e2, e3]
  have hs2 : ((wr64 (fr.1 + b), wr64 (fr.2 + c)) : Ps) = s.2 := by rw [e2, e3]
  rcases hr with rfl | ⟨z, rfl⟩
  · rw [List.append_nil, cutB_none hno, rowM_yes hN, hs, hs2, rowM]
    unfold contM at h
    rw [if_pos rfl] at h
    simp only [Option.map_some, List.nil_append] at h ⊢
    cases hm : mapM (s.1.1 + 1) s.2 rs1 with
    | none => rw [hm] at h; cases h
    | some m => rw [hm] at h; obtain rfl := Option.some.inj h; rfl
  · rw [cutB_app (cutB_self 44 z) _ hno, List.append_nil, rowM_yes hN, hs, hs2, e1]
    unfold contM at h
    rw [if_neg (by simp), List.drop_one, List.tail_cons] at h
    cases hm : rowM s.1.1 s.1.2 s.2 (cutB 44 z) with
    | none => rw [hm] at h; cases h
    | some p =>
      obtain ⟨l', f⟩ := p
      rw [hm] at h
      simp only [Option.map_some, List.cons_append] at h ⊢
      rw [Option.map_eq_some_iff] at h ⊢
      obtain ⟨m, h1, rfl⟩ := h
      exact ⟨m, h1, rfl⟩
theorem cut_rep (x : Bytes) : ∀ d : Nat, cutB 61 (List.replicate d 61 ++ x) = List.replicate d [] ++ cutB 61 x
  | 0 => by simp
  | d + 1 => by rw [List.replicate_succ, List.cons_append, cutB_self, cut_rep x d, List.replicate_succ, List.cons_append]
def preR (first : Bool) (r : Bytes) : Bytes := if first = true ∧ r ≠ [] then 44 :: r else r
theorem preR_false (r : Bytes) : preR false r = r := by unfold preR; rw [if_neg (by simp)]
theorem preR_nil (b : Bool) : preR b [] = [] := by unfold preR; rw [if_neg (by simp)]
theorem preR_true {r : Bytes} (h : r ≠ []) : preR true r = 44 :: r := by unfold preR; rw [if_pos ⟨rfl, h⟩]
theorem cont_text : ∀ (l : List Sg) (first : Bool) (t : Sg), PosOk t.1 → PosOk t.2 → ChainOk t l → ∃ r0 rs, cutB 61 (textR first t l) = r0 :: rs ∧ (rs.length : Int) ≤ 15 - t.1.1 ∧
    ((first = false → (r0 = [] ∨ ∃ z, r0 = 44 :: z)) ∧ contM t (preR first r0) rs = some l)
  | [], first, t, h1, h2, _ => ⟨[], [], rfl, by unfold PosOk at h1; simp; omega, fun _ => .inl rfl, by rw [preR_nil]; unfold contM; rw [if_pos rfl]; rfl⟩
  | s :: l, first, t, h1, h2, hc => by
    obtain ⟨p1, p2, hle, hc2⟩ := hc
    obtain ⟨r1, rs1, hcut, hlen, hr, hcm⟩ := cont_text l false s p1 p2 hc2
    rw [preR_false] at hcm
    have hr := hr rfl
    have hlast := p1
    unfold PosOk at h1 h2 p1 p2
    have n1 : NumIn (s.1.2 - (if t.1.1 < s.1.1 then 0 else t.1.2)) := by unfold NumIn; split <;> omega
    have n2 : NumIn (s.2.1 - t.2.1) := by unfold NumIn; omega
    have n3 : NumIn (s.2.2 - t.2.2) := by unfold NumIn; omega
    have hno : ∀ y ∈ numL (s.1.2 - (if t.1.1 < s.1.1 then 0 else t.1.2)) ++ (numL (s.2.1 - t.2.1) ++ numL (s.2.2 - t.2.2)), y ≠ 61 := by
      intro y hy
      rw [List.mem_append, List.mem_append] at hy
      rcases hy with hy | hy | hy
      · exact (numL_no _ _ hy).1
      · exact (numL_no _ _ hy).1
      · exact (numL_no _ _ hy).1
    have hne : numL (s.1.2 - (if t.1.1 < s.1.1 then 0 else t.1.2)) ++ (numL (s.2.1 - t.2.1) ++ numL (s.2.2 - t.2.2)) ≠ [] := by
      intro e
      have := congrArg List.length e
      have := numL_pos n1
      simp only [List.length_append, List.length_nil] at *
      omega
    simp only [textR]
    unfold pieceL
    rw [nums3 n1 n2 n3]
    by_cases hlt : t.1.1 < s.1.1
    · rw [if_pos hlt] at n1 hno hne ⊢
      simp only [if_pos hlt]
      obtain ⟨d, hd⟩ : ∃ d : Nat, (s.1.1 - t.1.1).toNat = d + 1 := ⟨(s.1.1 - t.1.1).toNat - 1, by omega⟩
      rw [hd, List.append_assoc, cut_rep, cutB_app hcut _ hno, List.replicate_succ, List.cons_append]
      refine ⟨[], _, rfl, ?_, fun _ => .inl rfl, ?_⟩
      · simp only [List.length_append, List.length_replicate, List.length_cons]
        omega
      · rw [preR_nil]
        unfold contM
        rw [if_pos rfl]
        simp only [List.nil_append]
        rw [mapM_rep, show t.1.1 + 1 + (d : Int) = s.1.1 by omega]
        have hk := row_piece (s := s) (col := 0) (fr := t.2) n1 n2 n3 (by rw [wr64_small] <;> omega) (by rw [wr64_small] <;> omega) (by rw [wr64_small] <;> omega) hr hcm
        rw [mapM]
        unfold lineM
        rw [if_neg (by intro e; exact hne (List.append_eq_nil_iff.1 e).1)]
        rw [hk]
        rfl
    · rw [if_neg hlt] at n1 hno hne ⊢
      simp only [if_neg hlt]
      have hst : t.1.1 = s.1.1 := by omega
      have hk := row_piece (s := s) (col := t.1.2) (fr := t.2) n1 n2 n3 (by rw [wr64_small] <;> omega) (by rw [wr64_small] <;> omega) (by rw [wr64_small] <;> omega) hr hcm
      cases first with
      | true =>
        simp only [if_true, List.nil_append]
        rw [cutB_app hcut _ hno]
        refine ⟨_, _, rfl, by omega, fun h => (by cases h), ?_⟩
        have hne2 : numL (s.1.2 - t.1.2) ++ (numL (s.2.1 - t.2.1) ++ numL (s.2.2 - t.2.2)) ++ r1 ≠ [] := fun e => hne (List.append_eq_nil_iff.1 e).1
        rw [preR_true hne2]
        unfold contM
        rw [if_neg (by simp), List.drop_one, List.tail_cons, hst]
        exact hk
      | false =>
        rw [if_neg (by simp), List.append_assoc, cutB_app (cutB_app hcut _ hno) [44] (by intro y hy; simp at hy; subst hy; decide)]
        refine ⟨_, _, rfl, by omega, fun _ => .inr ⟨_, rfl⟩, ?_⟩
        rw [preR_false]
        unfold contM
        rw [if_neg (by simp), List.singleton_append, List.drop_one, List.tail_cons, hst]
        exact hk
/-- the lines of a map's text give the map, and are few -/
theorem mapM_text {l : List Sg} (hl : SegsOk l) : mapM 0 (0, 0) (cutB 61 (textL l)) = some l ∧ (cutB 61 (textL l)).length ≤ 16 := by
  obtain ⟨a1, a2, _⟩ := segsP_of hl
  obtain ⟨r0, rs, h1, h2, _, h4⟩ := cont_text l true ((0, 0), (0, 0)) (by decide) (by decide) (chain_of l _ a1 (fun s hs => (a1 s hs).1.1) a2)
  rw [textL_R, h1]
  refine ⟨?_, by simp at h2 ⊢; omega⟩
  by_cases hr : r0 = []
  · subst hr
    rw [preR_nil] at h4
    unfold contM at h4
    rw [if_pos rfl] at h4
    rw [mapM_yes (l := []) (f := (0, 0)) (by unfold lineM; rw [if_pos rfl])]
    exact h4
  · rw [preR_true hr] at h4
    unfold contM at h4
    rw [if_neg (by simp), List.drop_one, List.tail_cons] at h4
    rw [mapM]
    unfold lineM
    rw [if_neg hr]
    exact h4
open Classical in
/-- what a text is read as -/
noncomputable def rdMap (s : Bytes) : Option (List Sg) := if h : ∃ l : List Sg, SegsOk l ∧ textL l = s ∧ s.length ≤ 20000 then some h.choose else none
theorem rdMap_iff {s : Bytes} {l : List Sg} : rdMap s = some l ↔ SegsOk l ∧ textL l = s ∧ s.length ≤ 20000 := by
  unfold rdMap
  constructor
  · intro h
    split at h
    · rename_i hx
      obtain rfl := Option.some.inj h
      exact hx.choose_spec
    · cases h
  · rintro ⟨h1, rfl, h3⟩
    have hx : ∃ m : List Sg, SegsOk m ∧ textL m = textL l ∧ (textL l).length ≤ 20000 := ⟨l, h1, rfl, h3⟩
    rw [dif_pos hx]
    exact congrArg some (textL_inj hx.choose_spec.1 h1 hx.choose_spec.2.1)
theorem rdMap_long {s : Bytes} (h : ¬ s.length ≤ 20000) : rdMap s = none := by
  cases hm : rdMap s with
  | none => rfl
  | some l => exact absurd (rdMap_iff.1 hm).2.2 h
/-- the lines that a reader takes: all, or the first sixteen -/
def rowsOf (all : Bool) (s : Bytes) : List Bytes := if all = true then cutB 61 s else (cutB 61 s).take 16
theorem rdMap_rows {s : Bytes} {l : List Sg} (all : Bool) (h : rdMap s = some l) : mapM 0 (0, 0) (rowsOf all s) = some l := by
  obtain ⟨h1, rfl, _⟩ := rdMap_iff.1 h
  obtain ⟨h2, h3⟩ := mapM_text h1
  unfold rowsOf
  split
  · exact h2
  · rw [List.take_of_length_le h3]
    exact h2
theorem rdMap_none {s : Bytes} (all : Bool) (h : mapM 0 (0, 0) (rowsOf all s) = none) : rdMap s = none := by
  cases hm : rdMap s with
  | none => rfl
  | some l => rw [rdMap_rows all hm] at h; cases h
theorem rdMap_yes {s : Bytes} {out : List Sg} (hs : s.length ≤ 20000) (h1 : SegsOk out) (h2 : textL out = s) : rdMap s = some out := rdMap_iff.2 ⟨h1, h2, hs⟩
theorem rdMap_no {s : Bytes} {out : List Sg} (all : Bool) (h : mapM 0 (0, 0) (rowsOf all s) = some out) (hn : ¬ (SegsOk out ∧ textL out = s)) : rdMap s = none := by
  cases hm : rdMap s with
  | none => rfl
  | some l =>
    rw [rdMap_rows all hm] at h
    obtain rfl := Option.some.inj h
    obtain ⟨a, b, _⟩ := rdMap_iff.1 hm
    exact absurd ⟨a, b⟩ hn
noncomputable def rdMapL (s : Bytes) : List Sg := (rdMap s).getD []
noncomputable def rdMapB (s : Bytes) : Bool := (rdMap s).isSome
end Go.Proofs.YtgfbjpmbaibnoaaGreatDoor
