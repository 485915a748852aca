/-
  No cell of these rows narrows 'for every input' (looked for: loops, veiled, ifaces, maps, wideKeys, modest, calm, conditions, laid).
  DERIVED. THE GIVEN ROWS OF THIS SEAT. 5 by the template 'for every input the law returns true; each argument reads behind the call as it read before'; 0 by the template 'total and deterministic' (their statements: YtchonnfjjceicaaTotals.lean).
  GIVEN WITH THE SEED: the statements are not yours to turn. If you find one false, say at which input.
  Laid BY PROGRAM, IN A SANDBOX (cutbox-rows.mjs): the forced cells as the released guide's own fill.sh prints them over the translation cbc6144064d34560… (all of the seat's roots in one cut). By AI agents, Wed Nov 11 2026. No macro, syntax, notation, axiom, sorry.
-/
import Derived.Test.YtchonnfjjceicaaChecked
import GoSem.Claim
import GoSem.ClaimJoined
import GoSem.ClaimMapViews
import Derived.JoinedTies
import Derived.KernelRfl
namespace Go.Proofs.Ytchonnfjjceicaa
/- THE CELL 'sum', in the pinned program and in every row, IS THE sha256 OF THE DUMP (.gsa) THAT YtchonnfjjceicaaProg.lean LOADS. Nothing in Lean hashes anything: it is a label: what it is worth is what the hold of that sum in a sandbox is worth. -/
noncomputable def Try.pinned : Pinned := { name := "ytchonnfjjceicaa", sum := "cbc6144064d345606b6d43779c6486becf2ec5e3e0d327790fc1742d7974bd98", checked := Try.checked }
namespace Rows
def none {H : Type} : Left H := { results := [], args := [] }

/-- 'laws.FnExactSegsSame': WHATEVER THE INPUT: true; the input reads as it did. -/
def fnExactSegsSameSpec : ChangeSpec := { name := "fnExactSegsSame", fn := fun _ => fun
  | [d1, d2] => { results := [.lit (.bool true)], args := [d1, d2] }
  | _ => none }
def fnExactSegsSameRow : OpenClaim := { program := "ytchonnfjjceicaa", sum := "cbc6144064d345606b6d43779c6486becf2ec5e3e0d327790fc1742d7974bd98", func := "loop.example/interlinear/laws.FnExactSegsSame", spec := "fnExactSegsSame", apart := false }
def FnExactSegsSameSaid : Prop := fnExactSegsSameRow.holds Try.pinned (OpenSpec.ofChange fnExactSegsSameSpec)

/-- ITS FALSE NEIGHBOUR: 'it returns false'. Refute it at one input. -/
def fnExactSegsSameWrong : ChangeSpec := { name := "fnExactSegsSame", fn := fun _ => fun
  | [d1, d2] => { results := [.lit (.bool false)], args := [d1, d2] }
  | _ => none }
def FnExactSegsSameWrongFalsely : Prop := fnExactSegsSameRow.holds Try.pinned (OpenSpec.ofChange fnExactSegsSameWrong)

/-- 'laws.FnExactSegsOk': WHATEVER THE INPUT: true; the input reads as it did. -/
def fnExactSegsOkSpec : ChangeSpec := { name := "fnExactSegsOk", fn := fun _ => fun
  | [d] => { results := [.lit (.bool true)], args := [d] }
  | _ => none }
def fnExactSegsOkRow : OpenClaim := { program := "ytchonnfjjceicaa", sum := "cbc6144064d345606b6d43779c6486becf2ec5e3e0d327790fc1742d7974bd98", func := "loop.example/interlinear/laws.FnExactSegsOk", spec := "fnExactSegsOk", apart := false }
def FnExactSegsOkSaid : Prop := fnExactSegsOkRow.holds Try.pinned (OpenSpec.ofChange fnExactSegsOkSpec)

/-- ITS FALSE NEIGHBOUR: 'it returns false'. Refute it at one input. -/
def fnExactSegsOkWrong : ChangeSpec := { name := "fnExactSegsOk", fn := fun _ => fun
  | [d] => { results := [.lit (.bool false)], args := [d] }
  | _ => none }
def FnExactSegsOkWrongFalsely : Prop := fnExactSegsOkRow.holds Try.pinned (OpenSpec.ofChange fnExactSegsOkWrong)

/-- 'laws.FnExactMapLook': WHATEVER THE INPUT: true; the input reads as it did. -/
def fnExactMapLookSpec : ChangeSpec := { name := "fnExactMapLook", fn := fun _ => fun
  | [d1, d2] => { results := [.lit (.bool true)], args := [d1, d2] }
  | _ => none }
def fnExactMapLookRow : OpenClaim := { program := "ytchonnfjjceicaa", sum := "cbc6144064d345606b6d43779c6486becf2ec5e3e0d327790fc1742d7974bd98", func := "loop.example/interlinear/laws.FnExactMapLook", spec := "fnExactMapLook", unfollowed := true, recurses := true, apart := false }
def FnExactMapLookSaid : Prop := fnExactMapLookRow.holds Try.pinned (OpenSpec.ofChange fnExactMapLookSpec)

/-- ITS FALSE NEIGHBOUR: 'it returns false'. Refute it at one input. -/
def fnExactMapLookWrong : ChangeSpec := { name := "fnExactMapLook", fn := fun _ => fun
  | [d1, d2] => { results := [.lit (.bool false)], args := [d1, d2] }
  | _ => none }
def FnExactMapLookWrongFalsely : Prop := fnExactMapLookRow.holds Try.pinned (OpenSpec.ofChange fnExactMapLookWrong)

/-- 'laws.FnExactMapBack': WHATEVER THE INPUT: true; the input reads as it did. -/
def fnExactMapBackSpec : ChangeSpec := { name := "fnExactMapBack", fn := fun _ => fun
  | [d1, d2] => { results := [.lit (.bool true)], args := [d1, d2] }
  | _ => none }
def fnExactMapBackRow : OpenClaim := { program := "ytchonnfjjceicaa", sum := "cbc6144064d345606b6d43779c6486becf2ec5e3e0d327790fc1742d7974bd98", func := "loop.example/interlinear/laws.FnExactMapBack", spec := "fnExactMapBack", apart := false }
def FnExactMapBackSaid : Prop := fnExactMapBackRow.holds Try.pinned (OpenSpec.ofChange fnExactMapBackSpec)

/-- ITS FALSE NEIGHBOUR: 'it returns false'. Refute it at one input. -/
def fnExactMapBackWrong : ChangeSpec := { name := "fnExactMapBack", fn := fun _ => fun
  | [d1, d2] => { results := [.lit (.bool false)], args := [d1, d2] }
  | _ => none }
def FnExactMapBackWrongFalsely : Prop := fnExactMapBackRow.holds Try.pinned (OpenSpec.ofChange fnExactMapBackWrong)

/-- 'laws.FnExactMapJoin': WHATEVER THE INPUT: true; the input reads as it did. -/
def fnExactMapJoinSpec : ChangeSpec := { name := "fnExactMapJoin", fn := fun _ => fun
  | [d1, d2] => { results := [.lit (.bool true)], args := [d1, d2] }
  | _ => none }
def fnExactMapJoinRow : OpenClaim := { program := "ytchonnfjjceicaa", sum := "cbc6144064d345606b6d43779c6486becf2ec5e3e0d327790fc1742d7974bd98", func := "loop.example/interlinear/laws.FnExactMapJoin", spec := "fnExactMapJoin", unfollowed := true, recurses := true, apart := false }
def FnExactMapJoinSaid : Prop := fnExactMapJoinRow.holds Try.pinned (OpenSpec.ofChange fnExactMapJoinSpec)

/-- ITS FALSE NEIGHBOUR: 'it returns false'. Refute it at one input. -/
def fnExactMapJoinWrong : ChangeSpec := { name := "fnExactMapJoin", fn := fun _ => fun
  | [d1, d2] => { results := [.lit (.bool false)], args := [d1, d2] }
  | _ => none }
def FnExactMapJoinWrongFalsely : Prop := fnExactMapJoinRow.holds Try.pinned (OpenSpec.ofChange fnExactMapJoinWrong)

/- THE SECOND FORM. 'bulk': how many values and letters a reading holds, each counted each time it is reached (what is shared counts as often as it is met; a slice's spare places count too). A statement '..UptoSaid' is the law's where the arguments, and the package variables that the reading takes, are together of bulk at most 1048576: NARROWER than '..Said'. Prove '..Said' where nothing that the law and all that it calls make is longer than what came in: it says more and counts as full. Else prove '..UptoSaid'. A law counts once. -/
mutual
def uptoBulk {H : Type} : DataW H → Nat
  | .lit (.string bytes) => bytes.length + 1
  | .lit _ => 1
  | .nil => 1
  | .ptr d => uptoBulk d + 1
  | .slice elems spare => uptoBulkAll elems + uptoBulkAll spare + 1
  | .agg parts => uptoBulkAll parts + 1
  | .iface _ d => uptoBulk d + 1
  | .map entries => uptoBulkEntries entries + 1
  | .held _ => 1
def uptoBulkAll {H : Type} : List (DataW H) → Nat
  | [] => 0
  | d :: r => uptoBulk d + uptoBulkAll r
def uptoBulkEntries {H : Type} : List (Lit × DataW H) → Nat
  | [] => 0
  | x :: r => uptoBulkEntry x + uptoBulkEntries r
def uptoBulkEntry {H : Type} : Lit × DataW H → Nat
  | (.string bytes, d) => bytes.length + uptoBulk d + 1
  | (_, d) => uptoBulk d + 1
 end
def uptoSmall : (H : Type) → List (DataW H) → Bool := fun _ ds => decide (uptoBulkAll ds ≤ 1048576)
def OpenSpec.upto (s : _root_.Go.ChangeSpec) : _root_.Go.OpenSpec := { _root_.Go.OpenSpec.ofChange s with cond := some uptoSmall }

/-- 'laws.FnExactSegsSame', WHERE WHAT IT READS IS OF BULK AT MOST 1048576: true; the input reads as it did. -/
def fnExactSegsSameUptoRow : OpenClaim := { program := "ytchonnfjjceicaa", sum := "cbc6144064d345606b6d43779c6486becf2ec5e3e0d327790fc1742d7974bd98", func := "loop.example/interlinear/laws.FnExactSegsSame", spec := "fnExactSegsSame", apart := false, narrowed := true }
def FnExactSegsSameUptoSaid : Prop := fnExactSegsSameUptoRow.holds Try.pinned (OpenSpec.upto fnExactSegsSameSpec)

/-- 'laws.FnExactSegsOk', WHERE WHAT IT READS IS OF BULK AT MOST 1048576: true; the input reads as it did. -/
def fnExactSegsOkUptoRow : OpenClaim := { program := "ytchonnfjjceicaa", sum := "cbc6144064d345606b6d43779c6486becf2ec5e3e0d327790fc1742d7974bd98", func := "loop.example/interlinear/laws.FnExactSegsOk", spec := "fnExactSegsOk", apart := false, narrowed := true }
def FnExactSegsOkUptoSaid : Prop := fnExactSegsOkUptoRow.holds Try.pinned (OpenSpec.upto fnExactSegsOkSpec)

/-- 'laws.FnExactMapLook', WHERE WHAT IT READS IS OF BULK AT MOST 1048576: true; the input reads as it did. -/
def fnExactMapLookUptoRow : OpenClaim := { program := "ytchonnfjjceicaa", sum := "cbc6144064d345606b6d43779c6486becf2ec5e3e0d327790fc1742d7974bd98", func := "loop.example/interlinear/laws.FnExactMapLook", spec := "fnExactMapLook", unfollowed := true, recurses := true, apart := false, narrowed := true }
def FnExactMapLookUptoSaid : Prop := fnExactMapLookUptoRow.holds Try.pinned (OpenSpec.upto fnExactMapLookSpec)

/-- 'laws.FnExactMapBack', WHERE WHAT IT READS IS OF BULK AT MOST 1048576: true; the input reads as it did. -/
def fnExactMapBackUptoRow : OpenClaim := { program := "ytchonnfjjceicaa", sum := "cbc6144064d345606b6d43779c6486becf2ec5e3e0d327790fc1742d7974bd98", func := "loop.example/interlinear/laws.FnExactMapBack", spec := "fnExactMapBack", apart := false, narrowed := true }
def FnExactMapBackUptoSaid : Prop := fnExactMapBackUptoRow.holds Try.pinned (OpenSpec.upto fnExactMapBackSpec)

/-- 'laws.FnExactMapJoin', WHERE WHAT IT READS IS OF BULK AT MOST 1048576: true; the input reads as it did. -/
def fnExactMapJoinUptoRow : OpenClaim := { program := "ytchonnfjjceicaa", sum := "cbc6144064d345606b6d43779c6486becf2ec5e3e0d327790fc1742d7974bd98", func := "loop.example/interlinear/laws.FnExactMapJoin", spec := "fnExactMapJoin", unfollowed := true, recurses := true, apart := false, narrowed := true }
def FnExactMapJoinUptoSaid : Prop := fnExactMapJoinUptoRow.holds Try.pinned (OpenSpec.upto fnExactMapJoinSpec)

end Rows
end Go.Proofs.Ytchonnfjjceicaa
