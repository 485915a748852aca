/-
  No cell of these rows narrows 'for every input' (looked for: loops, veiled, ifaces, maps, wideKeys, modest, calm, conditions, laid).
  DERIVED. THE GIVEN ROWS OF THIS SEAT. 6 by the template 'for every input the law returns true; each argument reads behind the call as it read before'; 0 by the template 'total and deterministic' (their statements: YtppefinpekhbeaaTotals.lean).
  GIVEN WITH THE SEED: the statements are not yours to turn. If you find one false, say at which input.
  Laid BY PROGRAM, IN A SANDBOX (cutbox-rows.mjs): the forced cells as the released guide's own fill.sh prints them over the translation 7aaff733cee6f876… (all of the seat's roots in one cut). By AI agents, Wed Nov 11 2026. No macro, syntax, notation, axiom, sorry.
-/
import Derived.Test.YtppefinpekhbeaaChecked
import GoSem.Claim
import GoSem.ClaimJoined
import GoSem.ClaimMapViews
import Derived.JoinedTies
import Derived.KernelRfl
namespace Go.Proofs.Ytppefinpekhbeaa
/- THE CELL 'sum', in the pinned program and in every row, IS THE sha256 OF THE DUMP (.gsa) THAT YtppefinpekhbeaaProg.lean LOADS. Nothing in Lean hashes anything: it is a label: what it is worth is what the hold of that sum in a sandbox is worth. -/
noncomputable def Try.pinned : Pinned := { name := "ytppefinpekhbeaa", sum := "7aaff733cee6f876e79a2f7bf2d03c9e6a8e52c224bc141b432ea18f769d0374", checked := Try.checked }
namespace Rows
def none {H : Type} : Left H := { results := [], args := [] }

/-- 'laws.FnSegs': WHATEVER THE INPUT: true; the input reads as it did. -/
def fnSegsSpec : ChangeSpec := { name := "fnSegs", fn := fun _ => fun
  | [d] => { results := [.lit (.bool true)], args := [d] }
  | _ => none }
def fnSegsRow : OpenClaim := { program := "ytppefinpekhbeaa", sum := "7aaff733cee6f876e79a2f7bf2d03c9e6a8e52c224bc141b432ea18f769d0374", func := "loop.example/interlinear/laws.FnSegs", spec := "fnSegs", recurses := true, apart := false }
def FnSegsSaid : Prop := fnSegsRow.holds Try.pinned (OpenSpec.ofChange fnSegsSpec)

/-- ITS FALSE NEIGHBOUR: 'it returns false'. Refute it at one input. -/
def fnSegsWrong : ChangeSpec := { name := "fnSegs", fn := fun _ => fun
  | [d] => { results := [.lit (.bool false)], args := [d] }
  | _ => none }
def FnSegsWrongFalsely : Prop := fnSegsRow.holds Try.pinned (OpenSpec.ofChange fnSegsWrong)

/-- 'laws.FnMapBack': WHATEVER THE INPUT: true; the input reads as it did. -/
def fnMapBackSpec : ChangeSpec := { name := "fnMapBack", fn := fun _ => fun
  | [d] => { results := [.lit (.bool true)], args := [d] }
  | _ => none }
def fnMapBackRow : OpenClaim := { program := "ytppefinpekhbeaa", sum := "7aaff733cee6f876e79a2f7bf2d03c9e6a8e52c224bc141b432ea18f769d0374", func := "loop.example/interlinear/laws.FnMapBack", spec := "fnMapBack", recurses := true, apart := false }
def FnMapBackSaid : Prop := fnMapBackRow.holds Try.pinned (OpenSpec.ofChange fnMapBackSpec)

/-- ITS FALSE NEIGHBOUR: 'it returns false'. Refute it at one input. -/
def fnMapBackWrong : ChangeSpec := { name := "fnMapBack", fn := fun _ => fun
  | [d] => { results := [.lit (.bool false)], args := [d] }
  | _ => none }
def FnMapBackWrongFalsely : Prop := fnMapBackRow.holds Try.pinned (OpenSpec.ofChange fnMapBackWrong)

/-- 'laws.FnMapLook': WHATEVER THE INPUT: true; the input reads as it did. -/
def fnMapLookSpec : ChangeSpec := { name := "fnMapLook", fn := fun _ => fun
  | [d] => { results := [.lit (.bool true)], args := [d] }
  | _ => none }
def fnMapLookRow : OpenClaim := { program := "ytppefinpekhbeaa", sum := "7aaff733cee6f876e79a2f7bf2d03c9e6a8e52c224bc141b432ea18f769d0374", func := "loop.example/interlinear/laws.FnMapLook", spec := "fnMapLook", unfollowed := true, recurses := true, apart := false }
def FnMapLookSaid : Prop := fnMapLookRow.holds Try.pinned (OpenSpec.ofChange fnMapLookSpec)

/-- ITS FALSE NEIGHBOUR: 'it returns false'. Refute it at one input. -/
def fnMapLookWrong : ChangeSpec := { name := "fnMapLook", fn := fun _ => fun
  | [d] => { results := [.lit (.bool false)], args := [d] }
  | _ => none }
def FnMapLookWrongFalsely : Prop := fnMapLookRow.holds Try.pinned (OpenSpec.ofChange fnMapLookWrong)

/-- 'laws.FnMapThree': WHATEVER THE INPUT: true; the input reads as it did. -/
def fnMapThreeSpec : ChangeSpec := { name := "fnMapThree", fn := fun _ => fun
  | [d1, d2] => { results := [.lit (.bool true)], args := [d1, d2] }
  | _ => none }
def fnMapThreeRow : OpenClaim := { program := "ytppefinpekhbeaa", sum := "7aaff733cee6f876e79a2f7bf2d03c9e6a8e52c224bc141b432ea18f769d0374", func := "loop.example/interlinear/laws.FnMapThree", spec := "fnMapThree", unfollowed := true, recurses := true, apart := false }
def FnMapThreeSaid : Prop := fnMapThreeRow.holds Try.pinned (OpenSpec.ofChange fnMapThreeSpec)

/-- ITS FALSE NEIGHBOUR: 'it returns false'. Refute it at one input. -/
def fnMapThreeWrong : ChangeSpec := { name := "fnMapThree", fn := fun _ => fun
  | [d1, d2] => { results := [.lit (.bool false)], args := [d1, d2] }
  | _ => none }
def FnMapThreeWrongFalsely : Prop := fnMapThreeRow.holds Try.pinned (OpenSpec.ofChange fnMapThreeWrong)

/-- 'laws.FnMapJoin': WHATEVER THE INPUT: true; the input reads as it did. -/
def fnMapJoinSpec : ChangeSpec := { name := "fnMapJoin", fn := fun _ => fun
  | [d] => { results := [.lit (.bool true)], args := [d] }
  | _ => none }
def fnMapJoinRow : OpenClaim := { program := "ytppefinpekhbeaa", sum := "7aaff733cee6f876e79a2f7bf2d03c9e6a8e52c224bc141b432ea18f769d0374", func := "loop.example/interlinear/laws.FnMapJoin", spec := "fnMapJoin", unfollowed := true, recurses := true, apart := false }
def FnMapJoinSaid : Prop := fnMapJoinRow.holds Try.pinned (OpenSpec.ofChange fnMapJoinSpec)

/-- ITS FALSE NEIGHBOUR: 'it returns false'. Refute it at one input. -/
def fnMapJoinWrong : ChangeSpec := { name := "fnMapJoin", fn := fun _ => fun
  | [d] => { results := [.lit (.bool false)], args := [d] }
  | _ => none }
def FnMapJoinWrongFalsely : Prop := fnMapJoinRow.holds Try.pinned (OpenSpec.ofChange fnMapJoinWrong)

/-- 'laws.FnMapSame': WHATEVER THE INPUT: true; the input reads as it did. -/
def fnMapSameSpec : ChangeSpec := { name := "fnMapSame", fn := fun _ => fun
  | [d] => { results := [.lit (.bool true)], args := [d] }
  | _ => none }
def fnMapSameRow : OpenClaim := { program := "ytppefinpekhbeaa", sum := "7aaff733cee6f876e79a2f7bf2d03c9e6a8e52c224bc141b432ea18f769d0374", func := "loop.example/interlinear/laws.FnMapSame", spec := "fnMapSame", inPlace := ["internal/abi.NoEscape"], recurses := true, apart := false }
def FnMapSameSaid : Prop := fnMapSameRow.holds Try.pinned (OpenSpec.ofChange fnMapSameSpec)

/-- ITS FALSE NEIGHBOUR: 'it returns false'. Refute it at one input. -/
def fnMapSameWrong : ChangeSpec := { name := "fnMapSame", fn := fun _ => fun
  | [d] => { results := [.lit (.bool false)], args := [d] }
  | _ => none }
def FnMapSameWrongFalsely : Prop := fnMapSameRow.holds Try.pinned (OpenSpec.ofChange fnMapSameWrong)

/- THE SECOND FORM. 'bulk': how many values and letters a reading holds, each counted each time it is reached (what is shared counts as often as it is met; a slice's spare places count too). A statement '..UptoSaid' is the law's where the arguments, and the package variables that the reading takes, are together of bulk at most 1048576: NARROWER than '..Said'. Prove '..Said' where nothing that the law and all that it calls make is longer than what came in: it says more and counts as full. Else prove '..UptoSaid'. A law counts once. -/
mutual
def uptoBulk {H : Type} : DataW H → Nat
  | .lit (.string bytes) => bytes.length + 1
  | .lit _ => 1
  | .nil => 1
  | .ptr d => uptoBulk d + 1
  | .slice elems spare => uptoBulkAll elems + uptoBulkAll spare + 1
  | .agg parts => uptoBulkAll parts + 1
  | .iface _ d => uptoBulk d + 1
  | .map entries => uptoBulkEntries entries + 1
  | .held _ => 1
def uptoBulkAll {H : Type} : List (DataW H) → Nat
  | [] => 0
  | d :: r => uptoBulk d + uptoBulkAll r
def uptoBulkEntries {H : Type} : List (Lit × DataW H) → Nat
  | [] => 0
  | x :: r => uptoBulkEntry x + uptoBulkEntries r
def uptoBulkEntry {H : Type} : Lit × DataW H → Nat
  | (.string bytes, d) => bytes.length + uptoBulk d + 1
  | (_, d) => uptoBulk d + 1
 end
def uptoSmall : (H : Type) → List (DataW H) → Bool := fun _ ds => decide (uptoBulkAll ds ≤ 1048576)
def OpenSpec.upto (s : _root_.Go.ChangeSpec) : _root_.Go.OpenSpec := { _root_.Go.OpenSpec.ofChange s with cond := some uptoSmall }

/-- 'laws.FnSegs', WHERE WHAT IT READS IS OF BULK AT MOST 1048576: true; the input reads as it did. -/
def fnSegsUptoRow : OpenClaim := { program := "ytppefinpekhbeaa", sum := "7aaff733cee6f876e79a2f7bf2d03c9e6a8e52c224bc141b432ea18f769d0374", func := "loop.example/interlinear/laws.FnSegs", spec := "fnSegs", recurses := true, apart := false, narrowed := true }
def FnSegsUptoSaid : Prop := fnSegsUptoRow.holds Try.pinned (OpenSpec.upto fnSegsSpec)

/-- 'laws.FnMapBack', WHERE WHAT IT READS IS OF BULK AT MOST 1048576: true; the input reads as it did. -/
def fnMapBackUptoRow : OpenClaim := { program := "ytppefinpekhbeaa", sum := "7aaff733cee6f876e79a2f7bf2d03c9e6a8e52c224bc141b432ea18f769d0374", func := "loop.example/interlinear/laws.FnMapBack", spec := "fnMapBack", recurses := true, apart := false, narrowed := true }
def FnMapBackUptoSaid : Prop := fnMapBackUptoRow.holds Try.pinned (OpenSpec.upto fnMapBackSpec)

/-- 'laws.FnMapLook', WHERE WHAT IT READS IS OF BULK AT MOST 1048576: true; the input reads as it did. -/
def fnMapLookUptoRow : OpenClaim := { program := "ytppefinpekhbeaa", sum := "7aaff733cee6f876e79a2f7bf2d03c9e6a8e52c224bc141b432ea18f769d0374", func := "loop.example/interlinear/laws.FnMapLook", spec := "fnMapLook", unfollowed := true, recurses := true, apart := false, narrowed := true }
def FnMapLookUptoSaid : Prop := fnMapLookUptoRow.holds Try.pinned (OpenSpec.upto fnMapLookSpec)

/-- 'laws.FnMapThree', WHERE WHAT IT READS IS OF BULK AT MOST 1048576: true; the input reads as it did. -/
def fnMapThreeUptoRow : OpenClaim := { program := "ytppefinpekhbeaa", sum := "7aaff733cee6f876e79a2f7bf2d03c9e6a8e52c224bc141b432ea18f769d0374", func := "loop.example/interlinear/laws.FnMapThree", spec := "fnMapThree", unfollowed := true, recurses := true, apart := false, narrowed := true }
def FnMapThreeUptoSaid : Prop := fnMapThreeUptoRow.holds Try.pinned (OpenSpec.upto fnMapThreeSpec)

/-- 'laws.FnMapJoin', WHERE WHAT IT READS IS OF BULK AT MOST 1048576: true; the input reads as it did. -/
def fnMapJoinUptoRow : OpenClaim := { program := "ytppefinpekhbeaa", sum := "7aaff733cee6f876e79a2f7bf2d03c9e6a8e52c224bc141b432ea18f769d0374", func := "loop.example/interlinear/laws.FnMapJoin", spec := "fnMapJoin", unfollowed := true, recurses := true, apart := false, narrowed := true }
def FnMapJoinUptoSaid : Prop := fnMapJoinUptoRow.holds Try.pinned (OpenSpec.upto fnMapJoinSpec)

/-- 'laws.FnMapSame', WHERE WHAT IT READS IS OF BULK AT MOST 1048576: true; the input reads as it did. -/
def fnMapSameUptoRow : OpenClaim := { program := "ytppefinpekhbeaa", sum := "7aaff733cee6f876e79a2f7bf2d03c9e6a8e52c224bc141b432ea18f769d0374", func := "loop.example/interlinear/laws.FnMapSame", spec := "fnMapSame", inPlace := ["internal/abi.NoEscape"], recurses := true, apart := false, narrowed := true }
def FnMapSameUptoSaid : Prop := fnMapSameUptoRow.holds Try.pinned (OpenSpec.upto fnMapSameSpec)

end Rows
end Go.Proofs.Ytppefinpekhbeaa
