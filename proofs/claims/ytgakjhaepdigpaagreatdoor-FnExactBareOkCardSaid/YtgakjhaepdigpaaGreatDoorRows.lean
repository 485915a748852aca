/-
  NARROWER THAN 'FOR EVERY INPUT', by the rows' own cells (each row's printed sentence says how): FnExactStmtRead: laid · FnStmt: laid · FnStmtWords: laid · FnStmtNames: laid · FnExactBareOk: loops, laid · FnProgRead: laid · FnExactProgRead: laid · FnProg: laid · FnProgCat: laid.
  DERIVED. THE GIVEN ROWS OF THIS SEAT. 9 by the template 'for every input the law returns true; each argument reads behind the call as it read before'; 0 by the template 'total and deterministic' (their statements: YtgakjhaepdigpaaGreatDoorTotals.lean).
  GIVEN WITH THE SEED: the statements are not yours to turn. If you find one false, say at which input.
  Laid BY PROGRAM, IN A SANDBOX (cutbox-rows.mjs): the forced cells as the released guide's own fill.sh prints them over the translation 8460134e5baa5b7a… (all of the seat's roots in one cut). By AI agents, Wed Nov 11 2026. No macro, syntax, notation, axiom, sorry.
-/
import Derived.Test.YtgakjhaepdigpaaGreatDoorChecked
import GoSem.PinnedTables
import GoSem.Claim
import GoSem.ClaimJoined
import GoSem.ClaimMapViews
import Derived.JoinedTies
import Derived.KernelRfl
namespace Go.Proofs.YtgakjhaepdigpaaGreatDoor
/- THE CELL 'sum', in the pinned program and in every row, IS THE sha256 OF THE DUMP (.gsa) THAT YtgakjhaepdigpaaGreatDoorProg.lean LOADS. Nothing in Lean hashes anything: it is a label: what it is worth is what the hold of that sum in a sandbox is worth. -/
noncomputable def Tryz.pinned : Pinned := { name := "ytgakjhaepdigpaagreatdoor", sum := "8460134e5baa5b7a81d58e6f10ade512c59722820273f423aa6ca58059c39ed5", checked := Tryz.checked }
namespace Rows
def none {H : Type} : Left H := { results := [], args := [] }

/- WHAT THE LISTED PACKAGE-LEVEL VARIABLES READ AS WHEN THE CALL BEGINS. Each datum BY PROGRAM (the guide's laid-datum.mjs) off the statement by which the dump's own 'gosem.cut.vars' lays the variable. In a bare row this is a premise. The card (YtgakjhaepdigpaaGreatDoorCards.lean) ties it to the program's text. -/
def laid_math_bits_deBruijn32tab {H : Type} : DataW H := .agg [.lit (.int .u8 0), .lit (.int .u8 1), .lit (.int .u8 28), .lit (.int .u8 2), .lit (.int .u8 29), .lit (.int .u8 14), .lit (.int .u8 24), .lit (.int .u8 3), .lit (.int .u8 30), .lit (.int .u8 22), .lit (.int .u8 20), .lit (.int .u8 15), .lit (.int .u8 25), .lit (.int .u8 17), .lit (.int .u8 4), .lit (.int .u8 8), .lit (.int .u8 31), .lit (.int .u8 27), .lit (.int .u8 13), .lit (.int .u8 23), .lit (.int .u8 21), .lit (.int .u8 19), .lit (.int .u8 16), .lit (.int .u8 7), .lit (.int .u8 26), .lit (.int .u8 12), .lit (.int .u8 18), .lit (.int .u8 6), .lit (.int .u8 11), .lit (.int .u8 5), .lit (.int .u8 10), .lit (.int .u8 9)]
def laid_math_bits_deBruijn64tab {H : Type} : DataW H := .agg [.lit (.int .u8 0), .lit (.int .u8 1), .lit (.int .u8 56), .lit (.int .u8 2), .lit (.int .u8 57), .lit (.int .u8 49), .lit (.int .u8 28), .lit (.int .u8 3), .lit (.int .u8 61), .lit (.int .u8 58), .lit (.int .u8 42), .lit (.int .u8 50), .lit (.int .u8 38), .lit (.int .u8 29), .lit (.int .u8 17), .lit (.int .u8 4), .lit (.int .u8 62), .lit (.int .u8 47), .lit (.int .u8 59), .lit (.int .u8 36), .lit (.int .u8 45), .lit (.int .u8 43), .lit (.int .u8 51), .lit (.int .u8 22), .lit (.int .u8 53), .lit (.int .u8 39), .lit (.int .u8 33), .lit (.int .u8 30), .lit (.int .u8 24), .lit (.int .u8 18), .lit (.int .u8 12), .lit (.int .u8 5), .lit (.int .u8 63), .lit (.int .u8 55), .lit (.int .u8 48), .lit (.int .u8 27), .lit (.int .u8 60), .lit (.int .u8 41), .lit (.int .u8 37), .lit (.int .u8 16), .lit (.int .u8 46), .lit (.int .u8 35), .lit (.int .u8 44), .lit (.int .u8 21), .lit (.int .u8 52), .lit (.int .u8 32), .lit (.int .u8 23), .lit (.int .u8 11), .lit (.int .u8 54), .lit (.int .u8 26), .lit (.int .u8 40), .lit (.int .u8 15), .lit (.int .u8 34), .lit (.int .u8 20), .lit (.int .u8 31), .lit (.int .u8 10), .lit (.int .u8 25), .lit (.int .u8 14), .lit (.int .u8 19), .lit (.int .u8 9), .lit (.int .u8 13), .lit (.int .u8 8), .lit (.int .u8 7), .lit (.int .u8 6)]
def laid_internal_strconv_uint64pow10 {H : Type} : DataW H := .agg [.lit (.int .u64 1), .lit (.int .u64 10), .lit (.int .u64 100), .lit (.int .u64 1000), .lit (.int .u64 10000), .lit (.int .u64 100000), .lit (.int .u64 1000000), .lit (.int .u64 10000000), .lit (.int .u64 100000000), .lit (.int .u64 1000000000), .lit (.int .u64 10000000000), .lit (.int .u64 100000000000), .lit (.int .u64 1000000000000), .lit (.int .u64 10000000000000), .lit (.int .u64 100000000000000), .lit (.int .u64 1000000000000000), .lit (.int .u64 10000000000000000), .lit (.int .u64 100000000000000000), .lit (.int .u64 1000000000000000000), .lit (.int .u64 10000000000000000000)]
def laid_strconv_ErrRange {H : Type} : DataW H := .iface "*errors.errorString" (.ptr (.agg [.lit (.string [118, 97, 108, 117, 101, 32, 111, 117, 116, 32, 111, 102, 32, 114, 97, 110, 103, 101])]))
def laid_strconv_ErrSyntax {H : Type} : DataW H := .iface "*errors.errorString" (.ptr (.agg [.lit (.string [105, 110, 118, 97, 108, 105, 100, 32, 115, 121, 110, 116, 97, 120])]))
def laid_loop_example_interlinear_impl_ownWords {H : Type} : DataW H := .slice [.lit (.string [108, 101, 116]), .lit (.string [115, 97, 121]), .lit (.string [119, 104, 101, 110]), .lit (.string [97, 115]), .lit (.string [112, 114, 105, 110, 116]), .lit (.string [105, 102]), .lit (.string [105, 110, 116]), .lit (.string [98, 111, 111, 108])] []
def laid_unicode_utf8_acceptRanges {H : Type} : DataW H := .agg [.agg [.lit (.int .u8 128), .lit (.int .u8 191)], .agg [.lit (.int .u8 160), .lit (.int .u8 191)], .agg [.lit (.int .u8 128), .lit (.int .u8 159)], .agg [.lit (.int .u8 144), .lit (.int .u8 191)], .agg [.lit (.int .u8 128), .lit (.int .u8 143)], .agg [.lit (.int .u8 0), .lit (.int .u8 0)], .agg [.lit (.int .u8 0), .lit (.int .u8 0)], .agg [.lit (.int .u8 0), .lit (.int .u8 0)], .agg [.lit (.int .u8 0), .lit (.int .u8 0)], .agg [.lit (.int .u8 0), .lit (.int .u8 0)], .agg [.lit (.int .u8 0), .lit (.int .u8 0)], .agg [.lit (.int .u8 0), .lit (.int .u8 0)], .agg [.lit (.int .u8 0), .lit (.int .u8 0)], .agg [.lit (.int .u8 0), .lit (.int .u8 0)], .agg [.lit (.int .u8 0), .lit (.int .u8 0)], .agg [.lit (.int .u8 0), .lit (.int .u8 0)]]
/-- One of Go's own tables, pinned by name: the form's constant. -/
def laid_unicode_utf8_first : DataW Unit := Go.Pinned.utf8First

/-- 'laws.FnExactStmtRead': WHATEVER THE INPUT: true; the input reads as it did. -/
def fnExactStmtReadSpec : ChangeSpec := { name := "fnExactStmtRead", vars := ["loop.example/interlinear/impl.ownWords"], fn := fun _ => fun
  | [d, g1] => { results := [.lit (.bool true)], args := [d], vars := [g1] }
  | _ => none }
def fnExactStmtReadRow : OpenClaim := { program := "ytgakjhaepdigpaagreatdoor", sum := "8460134e5baa5b7a81d58e6f10ade512c59722820273f423aa6ca58059c39ed5", func := "loop.example/interlinear/laws.FnExactStmtRead", spec := "fnExactStmtRead", inPlace := ["internal/bytealg.IndexByteString", "internal/bytealg.IndexString", "internal/abi.NoEscape", "internal/bytealg.MakeNoZero"], unfollowed := true, recurses := true, named := ["strconv.ErrSyntax", "strconv.ErrRange", "internal/strconv.uint64pow10", "math/bits.deBruijn32tab", "math/bits.deBruijn64tab", "internal/bytealg.MaxLen", "loop.example/interlinear/impl.ownWords"], apart := false, laid := [("math/bits.deBruijn32tab", laid_math_bits_deBruijn32tab), ("math/bits.deBruijn64tab", laid_math_bits_deBruijn64tab), ("internal/strconv.uint64pow10", laid_internal_strconv_uint64pow10), ("strconv.ErrRange", laid_strconv_ErrRange), ("strconv.ErrSyntax", laid_strconv_ErrSyntax), ("loop.example/interlinear/impl.ownWords", laid_loop_example_interlinear_impl_ownWords)] }
def FnExactStmtReadSaid : Prop := fnExactStmtReadRow.holds Tryz.pinned (OpenSpec.ofChange fnExactStmtReadSpec)

/-- ITS FALSE NEIGHBOUR: 'it returns false'. Refute it at one input. -/
def fnExactStmtReadWrong : ChangeSpec := { name := "fnExactStmtRead", vars := ["loop.example/interlinear/impl.ownWords"], fn := fun _ => fun
  | [d, g1] => { results := [.lit (.bool false)], args := [d], vars := [g1] }
  | _ => none }
def FnExactStmtReadWrongFalsely : Prop := fnExactStmtReadRow.holds Tryz.pinned (OpenSpec.ofChange fnExactStmtReadWrong)

/-- 'laws.FnStmt': WHATEVER THE INPUT: true; the input reads as it did. -/
def fnStmtSpec : ChangeSpec := { name := "fnStmt", vars := ["loop.example/interlinear/impl.ownWords"], fn := fun _ => fun
  | [d1, d2, g1] => { results := [.lit (.bool true)], args := [d1, d2], vars := [g1] }
  | _ => none }
def fnStmtRow : OpenClaim := { program := "ytgakjhaepdigpaagreatdoor", sum := "8460134e5baa5b7a81d58e6f10ade512c59722820273f423aa6ca58059c39ed5", func := "loop.example/interlinear/laws.FnStmt", spec := "fnStmt", inPlace := ["internal/bytealg.IndexByteString", "internal/bytealg.IndexString", "internal/abi.NoEscape", "internal/bytealg.MakeNoZero"], unfollowed := true, recurses := true, named := ["loop.example/interlinear/impl.ownWords", "strconv.ErrSyntax", "strconv.ErrRange", "internal/strconv.uint64pow10", "math/bits.deBruijn32tab", "math/bits.deBruijn64tab", "internal/bytealg.MaxLen"], apart := false, laid := [("math/bits.deBruijn32tab", laid_math_bits_deBruijn32tab), ("math/bits.deBruijn64tab", laid_math_bits_deBruijn64tab), ("internal/strconv.uint64pow10", laid_internal_strconv_uint64pow10), ("strconv.ErrRange", laid_strconv_ErrRange), ("strconv.ErrSyntax", laid_strconv_ErrSyntax), ("loop.example/interlinear/impl.ownWords", laid_loop_example_interlinear_impl_ownWords)] }
def FnStmtSaid : Prop := fnStmtRow.holds Tryz.pinned (OpenSpec.ofChange fnStmtSpec)

/-- ITS FALSE NEIGHBOUR: 'it returns false'. Refute it at one input. -/
def fnStmtWrong : ChangeSpec := { name := "fnStmt", vars := ["loop.example/interlinear/impl.ownWords"], fn := fun _ => fun
  | [d1, d2, g1] => { results := [.lit (.bool false)], args := [d1, d2], vars := [g1] }
  | _ => none }
def FnStmtWrongFalsely : Prop := fnStmtRow.holds Tryz.pinned (OpenSpec.ofChange fnStmtWrong)

/-- 'laws.FnStmtWords': WHATEVER THE INPUT: true; the input reads as it did. -/
def fnStmtWordsSpec : ChangeSpec := { name := "fnStmtWords", vars := ["loop.example/interlinear/impl.ownWords"], fn := fun _ => fun
  | [d, g1] => { results := [.lit (.bool true)], args := [d], vars := [g1] }
  | _ => none }
def fnStmtWordsRow : OpenClaim := { program := "ytgakjhaepdigpaagreatdoor", sum := "8460134e5baa5b7a81d58e6f10ade512c59722820273f423aa6ca58059c39ed5", func := "loop.example/interlinear/laws.FnStmtWords", spec := "fnStmtWords", inPlace := ["internal/bytealg.IndexByteString", "internal/bytealg.IndexString", "internal/abi.NoEscape", "internal/bytealg.MakeNoZero"], unfollowed := true, recurses := true, named := ["loop.example/interlinear/impl.ownWords", "strconv.ErrSyntax", "strconv.ErrRange", "internal/strconv.uint64pow10", "math/bits.deBruijn32tab", "math/bits.deBruijn64tab", "internal/bytealg.MaxLen"], apart := false, laid := [("math/bits.deBruijn32tab", laid_math_bits_deBruijn32tab), ("math/bits.deBruijn64tab", laid_math_bits_deBruijn64tab), ("internal/strconv.uint64pow10", laid_internal_strconv_uint64pow10), ("strconv.ErrRange", laid_strconv_ErrRange), ("strconv.ErrSyntax", laid_strconv_ErrSyntax), ("loop.example/interlinear/impl.ownWords", laid_loop_example_interlinear_impl_ownWords)] }
def FnStmtWordsSaid : Prop := fnStmtWordsRow.holds Tryz.pinned (OpenSpec.ofChange fnStmtWordsSpec)

/-- ITS FALSE NEIGHBOUR: 'it returns false'. Refute it at one input. -/
def fnStmtWordsWrong : ChangeSpec := { name := "fnStmtWords", vars := ["loop.example/interlinear/impl.ownWords"], fn := fun _ => fun
  | [d, g1] => { results := [.lit (.bool false)], args := [d], vars := [g1] }
  | _ => none }
def FnStmtWordsWrongFalsely : Prop := fnStmtWordsRow.holds Tryz.pinned (OpenSpec.ofChange fnStmtWordsWrong)

/-- 'laws.FnStmtNames': WHATEVER THE INPUT: true; the input reads as it did. -/
def fnStmtNamesSpec : ChangeSpec := { name := "fnStmtNames", vars := ["loop.example/interlinear/impl.ownWords"], fn := fun _ => fun
  | [d, g1] => { results := [.lit (.bool true)], args := [d], vars := [g1] }
  | _ => none }
def fnStmtNamesRow : OpenClaim := { program := "ytgakjhaepdigpaagreatdoor", sum := "8460134e5baa5b7a81d58e6f10ade512c59722820273f423aa6ca58059c39ed5", func := "loop.example/interlinear/laws.FnStmtNames", spec := "fnStmtNames", inPlace := ["internal/bytealg.IndexByteString", "internal/bytealg.IndexString", "internal/abi.NoEscape", "internal/bytealg.MakeNoZero"], unfollowed := true, recurses := true, named := ["loop.example/interlinear/impl.ownWords", "strconv.ErrSyntax", "strconv.ErrRange", "internal/strconv.uint64pow10", "math/bits.deBruijn32tab", "math/bits.deBruijn64tab", "internal/bytealg.MaxLen"], apart := false, laid := [("math/bits.deBruijn32tab", laid_math_bits_deBruijn32tab), ("math/bits.deBruijn64tab", laid_math_bits_deBruijn64tab), ("internal/strconv.uint64pow10", laid_internal_strconv_uint64pow10), ("strconv.ErrRange", laid_strconv_ErrRange), ("strconv.ErrSyntax", laid_strconv_ErrSyntax), ("loop.example/interlinear/impl.ownWords", laid_loop_example_interlinear_impl_ownWords)] }
def FnStmtNamesSaid : Prop := fnStmtNamesRow.holds Tryz.pinned (OpenSpec.ofChange fnStmtNamesSpec)

/-- ITS FALSE NEIGHBOUR: 'it returns false'. Refute it at one input. -/
def fnStmtNamesWrong : ChangeSpec := { name := "fnStmtNames", vars := ["loop.example/interlinear/impl.ownWords"], fn := fun _ => fun
  | [d, g1] => { results := [.lit (.bool false)], args := [d], vars := [g1] }
  | _ => none }
def FnStmtNamesWrongFalsely : Prop := fnStmtNamesRow.holds Tryz.pinned (OpenSpec.ofChange fnStmtNamesWrong)

/-- 'laws.FnExactBareOk': WHATEVER THE INPUT: true; the input reads as it did. -/
def fnExactBareOkSpec : ChangeSpec := { name := "fnExactBareOk", vars := ["loop.example/interlinear/impl.ownWords"], fn := fun _ => fun
  | [d, g1] => { results := [.lit (.bool true)], args := [d], vars := [g1] }
  | _ => none }
def fnExactBareOkRow : OpenClaim := { program := "ytgakjhaepdigpaagreatdoor", sum := "8460134e5baa5b7a81d58e6f10ade512c59722820273f423aa6ca58059c39ed5", func := "loop.example/interlinear/laws.FnExactBareOk", spec := "fnExactBareOk", inPlace := ["internal/bytealg.IndexByteString", "internal/bytealg.IndexString", "internal/abi.NoEscape", "internal/bytealg.MakeNoZero"], unfollowed := true, recurses := true, named := ["loop.example/interlinear/impl.ownWords", "strconv.ErrSyntax", "strconv.ErrRange", "internal/strconv.uint64pow10", "math/bits.deBruijn32tab", "math/bits.deBruijn64tab", "internal/bytealg.MaxLen"], loops := true, apart := false, laid := [("math/bits.deBruijn32tab", laid_math_bits_deBruijn32tab), ("math/bits.deBruijn64tab", laid_math_bits_deBruijn64tab), ("internal/strconv.uint64pow10", laid_internal_strconv_uint64pow10), ("strconv.ErrRange", laid_strconv_ErrRange), ("strconv.ErrSyntax", laid_strconv_ErrSyntax), ("loop.example/interlinear/impl.ownWords", laid_loop_example_interlinear_impl_ownWords)] }
def FnExactBareOkSaid : Prop := fnExactBareOkRow.holds Tryz.pinned (OpenSpec.ofChange fnExactBareOkSpec)

/-- ITS FALSE NEIGHBOUR: 'it returns false'. Refute it at one input. -/
def fnExactBareOkWrong : ChangeSpec := { name := "fnExactBareOk", vars := ["loop.example/interlinear/impl.ownWords"], fn := fun _ => fun
  | [d, g1] => { results := [.lit (.bool false)], args := [d], vars := [g1] }
  | _ => none }
def FnExactBareOkWrongFalsely : Prop := fnExactBareOkRow.holds Tryz.pinned (OpenSpec.ofChange fnExactBareOkWrong)

/-- 'laws.FnProgRead': WHATEVER THE INPUT: true; the input reads as it did. -/
def fnProgReadSpec : ChangeSpec := { name := "fnProgRead", vars := ["loop.example/interlinear/impl.ownWords"], fn := fun _ => fun
  | [d, g1] => { results := [.lit (.bool true)], args := [d], vars := [g1] }
  | _ => none }
def fnProgReadRow : OpenClaim := { program := "ytgakjhaepdigpaagreatdoor", sum := "8460134e5baa5b7a81d58e6f10ade512c59722820273f423aa6ca58059c39ed5", func := "loop.example/interlinear/laws.FnProgRead", spec := "fnProgRead", inPlace := ["internal/bytealg.IndexByteString", "internal/bytealg.IndexString", "internal/abi.NoEscape", "internal/bytealg.MakeNoZero", "internal/bytealg.CountString"], unfollowed := true, recurses := true, named := ["loop.example/interlinear/impl.ownWords", "strconv.ErrSyntax", "strconv.ErrRange", "internal/strconv.uint64pow10", "math/bits.deBruijn32tab", "math/bits.deBruijn64tab", "internal/bytealg.MaxLen", "unicode/utf8.first", "unicode/utf8.acceptRanges"], apart := false, laid := [("math/bits.deBruijn32tab", laid_math_bits_deBruijn32tab), ("math/bits.deBruijn64tab", laid_math_bits_deBruijn64tab), ("internal/strconv.uint64pow10", laid_internal_strconv_uint64pow10), ("unicode/utf8.acceptRanges", laid_unicode_utf8_acceptRanges), ("strconv.ErrRange", laid_strconv_ErrRange), ("strconv.ErrSyntax", laid_strconv_ErrSyntax), ("loop.example/interlinear/impl.ownWords", laid_loop_example_interlinear_impl_ownWords), ("unicode/utf8.first", laid_unicode_utf8_first)] }
def FnProgReadSaid : Prop := fnProgReadRow.holds Tryz.pinned (OpenSpec.ofChange fnProgReadSpec)

/-- ITS FALSE NEIGHBOUR: 'it returns false'. Refute it at one input. -/
def fnProgReadWrong : ChangeSpec := { name := "fnProgRead", vars := ["loop.example/interlinear/impl.ownWords"], fn := fun _ => fun
  | [d, g1] => { results := [.lit (.bool false)], args := [d], vars := [g1] }
  | _ => none }
def FnProgReadWrongFalsely : Prop := fnProgReadRow.holds Tryz.pinned (OpenSpec.ofChange fnProgReadWrong)

/-- 'laws.FnExactProgRead': WHATEVER THE INPUT: true; the input reads as it did. -/
def fnExactProgReadSpec : ChangeSpec := { name := "fnExactProgRead", vars := ["loop.example/interlinear/impl.ownWords"], fn := fun _ => fun
  | [d, g1] => { results := [.lit (.bool true)], args := [d], vars := [g1] }
  | _ => none }
def fnExactProgReadRow : OpenClaim := { program := "ytgakjhaepdigpaagreatdoor", sum := "8460134e5baa5b7a81d58e6f10ade512c59722820273f423aa6ca58059c39ed5", func := "loop.example/interlinear/laws.FnExactProgRead", spec := "fnExactProgRead", inPlace := ["internal/bytealg.CountString", "internal/bytealg.IndexByteString", "internal/bytealg.IndexString", "internal/abi.NoEscape", "internal/bytealg.MakeNoZero"], unfollowed := true, recurses := true, named := ["unicode/utf8.first", "unicode/utf8.acceptRanges", "internal/bytealg.MaxLen", "strconv.ErrSyntax", "strconv.ErrRange", "internal/strconv.uint64pow10", "math/bits.deBruijn32tab", "math/bits.deBruijn64tab", "loop.example/interlinear/impl.ownWords"], apart := false, laid := [("math/bits.deBruijn32tab", laid_math_bits_deBruijn32tab), ("math/bits.deBruijn64tab", laid_math_bits_deBruijn64tab), ("internal/strconv.uint64pow10", laid_internal_strconv_uint64pow10), ("unicode/utf8.acceptRanges", laid_unicode_utf8_acceptRanges), ("strconv.ErrRange", laid_strconv_ErrRange), ("strconv.ErrSyntax", laid_strconv_ErrSyntax), ("loop.example/interlinear/impl.ownWords", laid_loop_example_interlinear_impl_ownWords), ("unicode/utf8.first", laid_unicode_utf8_first)] }
def FnExactProgReadSaid : Prop := fnExactProgReadRow.holds Tryz.pinned (OpenSpec.ofChange fnExactProgReadSpec)

/-- ITS FALSE NEIGHBOUR: 'it returns false'. Refute it at one input. -/
def fnExactProgReadWrong : ChangeSpec := { name := "fnExactProgRead", vars := ["loop.example/interlinear/impl.ownWords"], fn := fun _ => fun
  | [d, g1] => { results := [.lit (.bool false)], args := [d], vars := [g1] }
  | _ => none }
def FnExactProgReadWrongFalsely : Prop := fnExactProgReadRow.holds Tryz.pinned (OpenSpec.ofChange fnExactProgReadWrong)

/-- 'laws.FnProg': WHATEVER THE INPUT: true; the input reads as it did. -/
def fnProgSpec : ChangeSpec := { name := "fnProg", vars := ["loop.example/interlinear/impl.ownWords"], fn := fun _ => fun
  | [d1, d2, g1] => { results := [.lit (.bool true)], args := [d1, d2], vars := [g1] }
  | _ => none }
def fnProgRow : OpenClaim := { program := "ytgakjhaepdigpaagreatdoor", sum := "8460134e5baa5b7a81d58e6f10ade512c59722820273f423aa6ca58059c39ed5", func := "loop.example/interlinear/laws.FnProg", spec := "fnProg", inPlace := ["internal/bytealg.IndexByteString", "internal/bytealg.IndexString", "internal/abi.NoEscape", "internal/bytealg.MakeNoZero", "internal/bytealg.CountString"], unfollowed := true, recurses := true, named := ["loop.example/interlinear/impl.ownWords", "strconv.ErrSyntax", "strconv.ErrRange", "internal/strconv.uint64pow10", "math/bits.deBruijn32tab", "math/bits.deBruijn64tab", "internal/bytealg.MaxLen", "unicode/utf8.first", "unicode/utf8.acceptRanges"], apart := false, laid := [("math/bits.deBruijn32tab", laid_math_bits_deBruijn32tab), ("math/bits.deBruijn64tab", laid_math_bits_deBruijn64tab), ("internal/strconv.uint64pow10", laid_internal_strconv_uint64pow10), ("unicode/utf8.acceptRanges", laid_unicode_utf8_acceptRanges), ("strconv.ErrRange", laid_strconv_ErrRange), ("strconv.ErrSyntax", laid_strconv_ErrSyntax), ("loop.example/interlinear/impl.ownWords", laid_loop_example_interlinear_impl_ownWords), ("unicode/utf8.first", laid_unicode_utf8_first)] }
def FnProgSaid : Prop := fnProgRow.holds Tryz.pinned (OpenSpec.ofChange fnProgSpec)

/-- ITS FALSE NEIGHBOUR: 'it returns false'. Refute it at one input. -/
def fnProgWrong : ChangeSpec := { name := "fnProg", vars := ["loop.example/interlinear/impl.ownWords"], fn := fun _ => fun
  | [d1, d2, g1] => { results := [.lit (.bool false)], args := [d1, d2], vars := [g1] }
  | _ => none }
def FnProgWrongFalsely : Prop := fnProgRow.holds Tryz.pinned (OpenSpec.ofChange fnProgWrong)

/-- 'laws.FnProgCat': WHATEVER THE INPUT: true; the input reads as it did. -/
def fnProgCatSpec : ChangeSpec := { name := "fnProgCat", vars := ["loop.example/interlinear/impl.ownWords"], fn := fun _ => fun
  | [d1, d2, g1] => { results := [.lit (.bool true)], args := [d1, d2], vars := [g1] }
  | _ => none }
def fnProgCatRow : OpenClaim := { program := "ytgakjhaepdigpaagreatdoor", sum := "8460134e5baa5b7a81d58e6f10ade512c59722820273f423aa6ca58059c39ed5", func := "loop.example/interlinear/laws.FnProgCat", spec := "fnProgCat", inPlace := ["internal/bytealg.IndexByteString", "internal/bytealg.IndexString", "internal/abi.NoEscape", "internal/bytealg.MakeNoZero", "internal/bytealg.CountString"], unfollowed := true, recurses := true, named := ["loop.example/interlinear/impl.ownWords", "strconv.ErrSyntax", "strconv.ErrRange", "internal/strconv.uint64pow10", "math/bits.deBruijn32tab", "math/bits.deBruijn64tab", "internal/bytealg.MaxLen", "unicode/utf8.first", "unicode/utf8.acceptRanges"], apart := false, laid := [("math/bits.deBruijn32tab", laid_math_bits_deBruijn32tab), ("math/bits.deBruijn64tab", laid_math_bits_deBruijn64tab), ("internal/strconv.uint64pow10", laid_internal_strconv_uint64pow10), ("unicode/utf8.acceptRanges", laid_unicode_utf8_acceptRanges), ("strconv.ErrRange", laid_strconv_ErrRange), ("strconv.ErrSyntax", laid_strconv_ErrSyntax), ("loop.example/interlinear/impl.ownWords", laid_loop_example_interlinear_impl_ownWords), ("unicode/utf8.first", laid_unicode_utf8_first)] }
def FnProgCatSaid : Prop := fnProgCatRow.holds Tryz.pinned (OpenSpec.ofChange fnProgCatSpec)

/-- ITS FALSE NEIGHBOUR: 'it returns false'. Refute it at one input. -/
def fnProgCatWrong : ChangeSpec := { name := "fnProgCat", vars := ["loop.example/interlinear/impl.ownWords"], fn := fun _ => fun
  | [d1, d2, g1] => { results := [.lit (.bool false)], args := [d1, d2], vars := [g1] }
  | _ => none }
def FnProgCatWrongFalsely : Prop := fnProgCatRow.holds Tryz.pinned (OpenSpec.ofChange fnProgCatWrong)

/- THE SECOND FORM. 'bulk': how many values and letters a reading holds, each counted each time it is reached (what is shared counts as often as it is met; a slice's spare places count too). A statement '..UptoSaid' is the law's where the arguments, and the package variables that the reading takes, are together of bulk at most 1048576: NARROWER than '..Said'. Prove '..Said' where nothing that the law and all that it calls make is longer than what came in: it says more and counts as full. Else prove '..UptoSaid'. A law counts once. -/
mutual
def uptoBulk {H : Type} : DataW H → Nat
  | .lit (.string bytes) => bytes.length + 1
  | .lit _ => 1
  | .nil => 1
  | .ptr d => uptoBulk d + 1
  | .slice elems spare => uptoBulkAll elems + uptoBulkAll spare + 1
  | .agg parts => uptoBulkAll parts + 1
  | .iface _ d => uptoBulk d + 1
  | .map entries => uptoBulkEntries entries + 1
  | .held _ => 1
def uptoBulkAll {H : Type} : List (DataW H) → Nat
  | [] => 0
  | d :: r => uptoBulk d + uptoBulkAll r
def uptoBulkEntries {H : Type} : List (Lit × DataW H) → Nat
  | [] => 0
  | x :: r => uptoBulkEntry x + uptoBulkEntries r
def uptoBulkEntry {H : Type} : Lit × DataW H → Nat
  | (.string bytes, d) => bytes.length + uptoBulk d + 1
  | (_, d) => uptoBulk d + 1
 end
def uptoSmall : (H : Type) → List (DataW H) → Bool := fun _ ds => decide (uptoBulkAll ds ≤ 1048576)
def OpenSpec.upto (s : _root_.Go.ChangeSpec) : _root_.Go.OpenSpec := { _root_.Go.OpenSpec.ofChange s with cond := some uptoSmall }

/-- 'laws.FnExactStmtRead', WHERE WHAT IT READS IS OF BULK AT MOST 1048576: true; the input reads as it did. -/
def fnExactStmtReadUptoRow : OpenClaim := { program := "ytgakjhaepdigpaagreatdoor", sum := "8460134e5baa5b7a81d58e6f10ade512c59722820273f423aa6ca58059c39ed5", func := "loop.example/interlinear/laws.FnExactStmtRead", spec := "fnExactStmtRead", inPlace := ["internal/bytealg.IndexByteString", "internal/bytealg.IndexString", "internal/abi.NoEscape", "internal/bytealg.MakeNoZero"], unfollowed := true, recurses := true, named := ["strconv.ErrSyntax", "strconv.ErrRange", "internal/strconv.uint64pow10", "math/bits.deBruijn32tab", "math/bits.deBruijn64tab", "internal/bytealg.MaxLen", "loop.example/interlinear/impl.ownWords"], apart := false, laid := [("math/bits.deBruijn32tab", laid_math_bits_deBruijn32tab), ("math/bits.deBruijn64tab", laid_math_bits_deBruijn64tab), ("internal/strconv.uint64pow10", laid_internal_strconv_uint64pow10), ("strconv.ErrRange", laid_strconv_ErrRange), ("strconv.ErrSyntax", laid_strconv_ErrSyntax), ("loop.example/interlinear/impl.ownWords", laid_loop_example_interlinear_impl_ownWords)], narrowed := true }
def FnExactStmtReadUptoSaid : Prop := fnExactStmtReadUptoRow.holds Tryz.pinned (OpenSpec.upto fnExactStmtReadSpec)

/-- 'laws.FnStmt', WHERE WHAT IT READS IS OF BULK AT MOST 1048576: true; the input reads as it did. -/
def fnStmtUptoRow : OpenClaim := { program := "ytgakjhaepdigpaagreatdoor", sum := "8460134e5baa5b7a81d58e6f10ade512c59722820273f423aa6ca58059c39ed5", func := "loop.example/interlinear/laws.FnStmt", spec := "fnStmt", inPlace := ["internal/bytealg.IndexByteString", "internal/bytealg.IndexString", "internal/abi.NoEscape", "internal/bytealg.MakeNoZero"], unfollowed := true, recurses := true, named := ["loop.example/interlinear/impl.ownWords", "strconv.ErrSyntax", "strconv.ErrRange", "internal/strconv.uint64pow10", "math/bits.deBruijn32tab", "math/bits.deBruijn64tab", "internal/bytealg.MaxLen"], apart := false, laid := [("math/bits.deBruijn32tab", laid_math_bits_deBruijn32tab), ("math/bits.deBruijn64tab", laid_math_bits_deBruijn64tab), ("internal/strconv.uint64pow10", laid_internal_strconv_uint64pow10), ("strconv.ErrRange", laid_strconv_ErrRange), ("strconv.ErrSyntax", laid_strconv_ErrSyntax), ("loop.example/interlinear/impl.ownWords", laid_loop_example_interlinear_impl_ownWords)], narrowed := true }
def FnStmtUptoSaid : Prop := fnStmtUptoRow.holds Tryz.pinned (OpenSpec.upto fnStmtSpec)

/-- 'laws.FnStmtWords', WHERE WHAT IT READS IS OF BULK AT MOST 1048576: true; the input reads as it did. -/
def fnStmtWordsUptoRow : OpenClaim := { program := "ytgakjhaepdigpaagreatdoor", sum := "8460134e5baa5b7a81d58e6f10ade512c59722820273f423aa6ca58059c39ed5", func := "loop.example/interlinear/laws.FnStmtWords", spec := "fnStmtWords", inPlace := ["internal/bytealg.IndexByteString", "internal/bytealg.IndexString", "internal/abi.NoEscape", "internal/bytealg.MakeNoZero"], unfollowed := true, recurses := true, named := ["loop.example/interlinear/impl.ownWords", "strconv.ErrSyntax", "strconv.ErrRange", "internal/strconv.uint64pow10", "math/bits.deBruijn32tab", "math/bits.deBruijn64tab", "internal/bytealg.MaxLen"], apart := false, laid := [("math/bits.deBruijn32tab", laid_math_bits_deBruijn32tab), ("math/bits.deBruijn64tab", laid_math_bits_deBruijn64tab), ("internal/strconv.uint64pow10", laid_internal_strconv_uint64pow10), ("strconv.ErrRange", laid_strconv_ErrRange), ("strconv.ErrSyntax", laid_strconv_ErrSyntax), ("loop.example/interlinear/impl.ownWords", laid_loop_example_interlinear_impl_ownWords)], narrowed := true }
def FnStmtWordsUptoSaid : Prop := fnStmtWordsUptoRow.holds Tryz.pinned (OpenSpec.upto fnStmtWordsSpec)

/-- 'laws.FnStmtNames', WHERE WHAT IT READS IS OF BULK AT MOST 1048576: true; the input reads as it did. -/
def fnStmtNamesUptoRow : OpenClaim := { program := "ytgakjhaepdigpaagreatdoor", sum := "8460134e5baa5b7a81d58e6f10ade512c59722820273f423aa6ca58059c39ed5", func := "loop.example/interlinear/laws.FnStmtNames", spec := "fnStmtNames", inPlace := ["internal/bytealg.IndexByteString", "internal/bytealg.IndexString", "internal/abi.NoEscape", "internal/bytealg.MakeNoZero"], unfollowed := true, recurses := true, named := ["loop.example/interlinear/impl.ownWords", "strconv.ErrSyntax", "strconv.ErrRange", "internal/strconv.uint64pow10", "math/bits.deBruijn32tab", "math/bits.deBruijn64tab", "internal/bytealg.MaxLen"], apart := false, laid := [("math/bits.deBruijn32tab", laid_math_bits_deBruijn32tab), ("math/bits.deBruijn64tab", laid_math_bits_deBruijn64tab), ("internal/strconv.uint64pow10", laid_internal_strconv_uint64pow10), ("strconv.ErrRange", laid_strconv_ErrRange), ("strconv.ErrSyntax", laid_strconv_ErrSyntax), ("loop.example/interlinear/impl.ownWords", laid_loop_example_interlinear_impl_ownWords)], narrowed := true }
def FnStmtNamesUptoSaid : Prop := fnStmtNamesUptoRow.holds Tryz.pinned (OpenSpec.upto fnStmtNamesSpec)

/-- 'laws.FnExactBareOk', WHERE WHAT IT READS IS OF BULK AT MOST 1048576: true; the input reads as it did. -/
def fnExactBareOkUptoRow : OpenClaim := { program := "ytgakjhaepdigpaagreatdoor", sum := "8460134e5baa5b7a81d58e6f10ade512c59722820273f423aa6ca58059c39ed5", func := "loop.example/interlinear/laws.FnExactBareOk", spec := "fnExactBareOk", inPlace := ["internal/bytealg.IndexByteString", "internal/bytealg.IndexString", "internal/abi.NoEscape", "internal/bytealg.MakeNoZero"], unfollowed := true, recurses := true, named := ["loop.example/interlinear/impl.ownWords", "strconv.ErrSyntax", "strconv.ErrRange", "internal/strconv.uint64pow10", "math/bits.deBruijn32tab", "math/bits.deBruijn64tab", "internal/bytealg.MaxLen"], loops := true, apart := false, laid := [("math/bits.deBruijn32tab", laid_math_bits_deBruijn32tab), ("math/bits.deBruijn64tab", laid_math_bits_deBruijn64tab), ("internal/strconv.uint64pow10", laid_internal_strconv_uint64pow10), ("strconv.ErrRange", laid_strconv_ErrRange), ("strconv.ErrSyntax", laid_strconv_ErrSyntax), ("loop.example/interlinear/impl.ownWords", laid_loop_example_interlinear_impl_ownWords)], narrowed := true }
def FnExactBareOkUptoSaid : Prop := fnExactBareOkUptoRow.holds Tryz.pinned (OpenSpec.upto fnExactBareOkSpec)

/-- 'laws.FnProgRead', WHERE WHAT IT READS IS OF BULK AT MOST 1048576: true; the input reads as it did. -/
def fnProgReadUptoRow : OpenClaim := { program := "ytgakjhaepdigpaagreatdoor", sum := "8460134e5baa5b7a81d58e6f10ade512c59722820273f423aa6ca58059c39ed5", func := "loop.example/interlinear/laws.FnProgRead", spec := "fnProgRead", inPlace := ["internal/bytealg.IndexByteString", "internal/bytealg.IndexString", "internal/abi.NoEscape", "internal/bytealg.MakeNoZero", "internal/bytealg.CountString"], unfollowed := true, recurses := true, named := ["loop.example/interlinear/impl.ownWords", "strconv.ErrSyntax", "strconv.ErrRange", "internal/strconv.uint64pow10", "math/bits.deBruijn32tab", "math/bits.deBruijn64tab", "internal/bytealg.MaxLen", "unicode/utf8.first", "unicode/utf8.acceptRanges"], apart := false, laid := [("math/bits.deBruijn32tab", laid_math_bits_deBruijn32tab), ("math/bits.deBruijn64tab", laid_math_bits_deBruijn64tab), ("internal/strconv.uint64pow10", laid_internal_strconv_uint64pow10), ("unicode/utf8.acceptRanges", laid_unicode_utf8_acceptRanges), ("strconv.ErrRange", laid_strconv_ErrRange), ("strconv.ErrSyntax", laid_strconv_ErrSyntax), ("loop.example/interlinear/impl.ownWords", laid_loop_example_interlinear_impl_ownWords), ("unicode/utf8.first", laid_unicode_utf8_first)], narrowed := true }
def FnProgReadUptoSaid : Prop := fnProgReadUptoRow.holds Tryz.pinned (OpenSpec.upto fnProgReadSpec)

/-- 'laws.FnExactProgRead', WHERE WHAT IT READS IS OF BULK AT MOST 1048576: true; the input reads as it did. -/
def fnExactProgReadUptoRow : OpenClaim := { program := "ytgakjhaepdigpaagreatdoor", sum := "8460134e5baa5b7a81d58e6f10ade512c59722820273f423aa6ca58059c39ed5", func := "loop.example/interlinear/laws.FnExactProgRead", spec := "fnExactProgRead", inPlace := ["internal/bytealg.CountString", "internal/bytealg.IndexByteString", "internal/bytealg.IndexString", "internal/abi.NoEscape", "internal/bytealg.MakeNoZero"], unfollowed := true, recurses := true, named := ["unicode/utf8.first", "unicode/utf8.acceptRanges", "internal/bytealg.MaxLen", "strconv.ErrSyntax", "strconv.ErrRange", "internal/strconv.uint64pow10", "math/bits.deBruijn32tab", "math/bits.deBruijn64tab", "loop.example/interlinear/impl.ownWords"], apart := false, laid := [("math/bits.deBruijn32tab", laid_math_bits_deBruijn32tab), ("math/bits.deBruijn64tab", laid_math_bits_deBruijn64tab), ("internal/strconv.uint64pow10", laid_internal_strconv_uint64pow10), ("unicode/utf8.acceptRanges", laid_unicode_utf8_acceptRanges), ("strconv.ErrRange", laid_strconv_ErrRange), ("strconv.ErrSyntax", laid_strconv_ErrSyntax), ("loop.example/interlinear/impl.ownWords", laid_loop_example_interlinear_impl_ownWords), ("unicode/utf8.first", laid_unicode_utf8_first)], narrowed := true }
def FnExactProgReadUptoSaid : Prop := fnExactProgReadUptoRow.holds Tryz.pinned (OpenSpec.upto fnExactProgReadSpec)

/-- 'laws.FnProg', WHERE WHAT IT READS IS OF BULK AT MOST 1048576: true; the input reads as it did. -/
def fnProgUptoRow : OpenClaim := { program := "ytgakjhaepdigpaagreatdoor", sum := "8460134e5baa5b7a81d58e6f10ade512c59722820273f423aa6ca58059c39ed5", func := "loop.example/interlinear/laws.FnProg", spec := "fnProg", inPlace := ["internal/bytealg.IndexByteString", "internal/bytealg.IndexString", "internal/abi.NoEscape", "internal/bytealg.MakeNoZero", "internal/bytealg.CountString"], unfollowed := true, recurses := true, named := ["loop.example/interlinear/impl.ownWords", "strconv.ErrSyntax", "strconv.ErrRange", "internal/strconv.uint64pow10", "math/bits.deBruijn32tab", "math/bits.deBruijn64tab", "internal/bytealg.MaxLen", "unicode/utf8.first", "unicode/utf8.acceptRanges"], apart := false, laid := [("math/bits.deBruijn32tab", laid_math_bits_deBruijn32tab), ("math/bits.deBruijn64tab", laid_math_bits_deBruijn64tab), ("internal/strconv.uint64pow10", laid_internal_strconv_uint64pow10), ("unicode/utf8.acceptRanges", laid_unicode_utf8_acceptRanges), ("strconv.ErrRange", laid_strconv_ErrRange), ("strconv.ErrSyntax", laid_strconv_ErrSyntax), ("loop.example/interlinear/impl.ownWords", laid_loop_example_interlinear_impl_ownWords), ("unicode/utf8.first", laid_unicode_utf8_first)], narrowed := true }
def FnProgUptoSaid : Prop := fnProgUptoRow.holds Tryz.pinned (OpenSpec.upto fnProgSpec)

/-- 'laws.FnProgCat', WHERE WHAT IT READS IS OF BULK AT MOST 1048576: true; the input reads as it did. -/
def fnProgCatUptoRow : OpenClaim := { program := "ytgakjhaepdigpaagreatdoor", sum := "8460134e5baa5b7a81d58e6f10ade512c59722820273f423aa6ca58059c39ed5", func := "loop.example/interlinear/laws.FnProgCat", spec := "fnProgCat", inPlace := ["internal/bytealg.IndexByteString", "internal/bytealg.IndexString", "internal/abi.NoEscape", "internal/bytealg.MakeNoZero", "internal/bytealg.CountString"], unfollowed := true, recurses := true, named := ["loop.example/interlinear/impl.ownWords", "strconv.ErrSyntax", "strconv.ErrRange", "internal/strconv.uint64pow10", "math/bits.deBruijn32tab", "math/bits.deBruijn64tab", "internal/bytealg.MaxLen", "unicode/utf8.first", "unicode/utf8.acceptRanges"], apart := false, laid := [("math/bits.deBruijn32tab", laid_math_bits_deBruijn32tab), ("math/bits.deBruijn64tab", laid_math_bits_deBruijn64tab), ("internal/strconv.uint64pow10", laid_internal_strconv_uint64pow10), ("unicode/utf8.acceptRanges", laid_unicode_utf8_acceptRanges), ("strconv.ErrRange", laid_strconv_ErrRange), ("strconv.ErrSyntax", laid_strconv_ErrSyntax), ("loop.example/interlinear/impl.ownWords", laid_loop_example_interlinear_impl_ownWords), ("unicode/utf8.first", laid_unicode_utf8_first)], narrowed := true }
def FnProgCatUptoSaid : Prop := fnProgCatUptoRow.holds Tryz.pinned (OpenSpec.upto fnProgCatSpec)

end Rows
end Go.Proofs.YtgakjhaepdigpaaGreatDoor
