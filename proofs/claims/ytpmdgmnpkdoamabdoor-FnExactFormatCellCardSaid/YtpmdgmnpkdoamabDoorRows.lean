/-
  NARROWER THAN 'FOR EVERY INPUT', by the rows' own cells (each row's printed sentence says how): FnExactCanCast: laid · FnExactValidCell: laid · FnExactBefore: laid · FnExactValidHeap: laid · FnExactApplyUnary: laid · FnConvertBack: laid · FnOrder: laid · FnExactValidArray: laid · FnExactFormatCell: laid · FnExactRead: laid · FnReshapeRead: laid · FnTakePut: laid.
  DERIVED. THE GIVEN ROWS OF THIS SEAT. 12 by the template 'for every input the law returns true; each argument reads behind the call as it read before'; 0 by the template 'total and deterministic' (their statements: YtpmdgmnpkdoamabDoorTotals.lean).
  GIVEN WITH THE SEED: the statements are not yours to turn. If you find one false, say at which input.
  Laid BY PROGRAM, IN A SANDBOX (cutbox-rows.mjs): the forced cells as the released guide's own fill.sh prints them over the translation 43883e457b6463e5… (all of the seat's roots in one cut). By AI agents, Wed Nov 11 2026. No macro, syntax, notation, axiom, sorry.
-/
import Derived.Test.YtpmdgmnpkdoamabDoorChecked
import GoSem.Claim
import GoSem.ClaimJoined
import GoSem.ClaimMapViews
import Derived.JoinedTies
import Derived.KernelRfl
namespace Go.Proofs.YtpmdgmnpkdoamabDoor
/- THE CELL 'sum', in the pinned program and in every row, IS THE sha256 OF THE DUMP (.gsa) THAT YtpmdgmnpkdoamabDoorProg.lean LOADS. Nothing in Lean hashes anything: it is a label: what it is worth is what the hold of that sum in a sandbox is worth. -/
noncomputable def Tryd.pinned : Pinned := { name := "ytpmdgmnpkdoamabdoor", sum := "43883e457b6463e5c4f9d4c5fa11ae7b13e1ff391e4b75866ee870f83925976a", checked := Tryd.checked }
namespace Rows
def none {H : Type} : Left H := { results := [], args := [] }

/- WHAT THE LISTED PACKAGE-LEVEL VARIABLES READ AS WHEN THE CALL BEGINS. Each datum BY PROGRAM (the guide's laid-datum.mjs) off the statement by which the dump's own 'gosem.cut.vars' lays the variable. In a bare row this is a premise. The card (YtpmdgmnpkdoamabDoorCards.lean) ties it to the program's text. -/
def laid_loop_example_s16388_impl_dtypes {H : Type} : DataW H := .agg [.agg [.lit (.int .i64 0), .lit (.int .i64 0), .lit (.int .i64 0), .lit (.int .i64 0), .lit (.int .i64 0)], .agg [.lit (.int .i64 0), .lit (.int .i64 1), .lit (.int .i64 0), .lit (.int .i64 0), .lit (.int .i64 1)], .agg [.lit (.int .i64 1), .lit (.int .i64 1), .lit (.int .i64 8), .lit (.int .i64 (-128)), .lit (.int .i64 127)], .agg [.lit (.int .i64 1), .lit (.int .i64 1), .lit (.int .i64 8), .lit (.int .i64 0), .lit (.int .i64 255)], .agg [.lit (.int .i64 1), .lit (.int .i64 2), .lit (.int .i64 16), .lit (.int .i64 (-32768)), .lit (.int .i64 32767)], .agg [.lit (.int .i64 1), .lit (.int .i64 4), .lit (.int .i64 32), .lit (.int .i64 (-2147483648)), .lit (.int .i64 2147483647)], .agg [.lit (.int .i64 1), .lit (.int .i64 8), .lit (.int .i64 64), .lit (.int .i64 (-9223372036854775808)), .lit (.int .i64 9223372036854775807)], .agg [.lit (.int .i64 2), .lit (.int .i64 4), .lit (.int .i64 0), .lit (.int .i64 0), .lit (.int .i64 0)], .agg [.lit (.int .i64 2), .lit (.int .i64 8), .lit (.int .i64 0), .lit (.int .i64 0), .lit (.int .i64 0)], .agg [.lit (.int .i64 3), .lit (.int .i64 16), .lit (.int .i64 0), .lit (.int .i64 0), .lit (.int .i64 0)]]
def laid_math_bits_deBruijn32tab {H : Type} : DataW H := .agg [.lit (.int .u8 0), .lit (.int .u8 1), .lit (.int .u8 28), .lit (.int .u8 2), .lit (.int .u8 29), .lit (.int .u8 14), .lit (.int .u8 24), .lit (.int .u8 3), .lit (.int .u8 30), .lit (.int .u8 22), .lit (.int .u8 20), .lit (.int .u8 15), .lit (.int .u8 25), .lit (.int .u8 17), .lit (.int .u8 4), .lit (.int .u8 8), .lit (.int .u8 31), .lit (.int .u8 27), .lit (.int .u8 13), .lit (.int .u8 23), .lit (.int .u8 21), .lit (.int .u8 19), .lit (.int .u8 16), .lit (.int .u8 7), .lit (.int .u8 26), .lit (.int .u8 12), .lit (.int .u8 18), .lit (.int .u8 6), .lit (.int .u8 11), .lit (.int .u8 5), .lit (.int .u8 10), .lit (.int .u8 9)]
def laid_math_bits_deBruijn64tab {H : Type} : DataW H := .agg [.lit (.int .u8 0), .lit (.int .u8 1), .lit (.int .u8 56), .lit (.int .u8 2), .lit (.int .u8 57), .lit (.int .u8 49), .lit (.int .u8 28), .lit (.int .u8 3), .lit (.int .u8 61), .lit (.int .u8 58), .lit (.int .u8 42), .lit (.int .u8 50), .lit (.int .u8 38), .lit (.int .u8 29), .lit (.int .u8 17), .lit (.int .u8 4), .lit (.int .u8 62), .lit (.int .u8 47), .lit (.int .u8 59), .lit (.int .u8 36), .lit (.int .u8 45), .lit (.int .u8 43), .lit (.int .u8 51), .lit (.int .u8 22), .lit (.int .u8 53), .lit (.int .u8 39), .lit (.int .u8 33), .lit (.int .u8 30), .lit (.int .u8 24), .lit (.int .u8 18), .lit (.int .u8 12), .lit (.int .u8 5), .lit (.int .u8 63), .lit (.int .u8 55), .lit (.int .u8 48), .lit (.int .u8 27), .lit (.int .u8 60), .lit (.int .u8 41), .lit (.int .u8 37), .lit (.int .u8 16), .lit (.int .u8 46), .lit (.int .u8 35), .lit (.int .u8 44), .lit (.int .u8 21), .lit (.int .u8 52), .lit (.int .u8 32), .lit (.int .u8 23), .lit (.int .u8 11), .lit (.int .u8 54), .lit (.int .u8 26), .lit (.int .u8 40), .lit (.int .u8 15), .lit (.int .u8 34), .lit (.int .u8 20), .lit (.int .u8 31), .lit (.int .u8 10), .lit (.int .u8 25), .lit (.int .u8 14), .lit (.int .u8 19), .lit (.int .u8 9), .lit (.int .u8 13), .lit (.int .u8 8), .lit (.int .u8 7), .lit (.int .u8 6)]
def laid_internal_strconv_uint64pow10 {H : Type} : DataW H := .agg [.lit (.int .u64 1), .lit (.int .u64 10), .lit (.int .u64 100), .lit (.int .u64 1000), .lit (.int .u64 10000), .lit (.int .u64 100000), .lit (.int .u64 1000000), .lit (.int .u64 10000000), .lit (.int .u64 100000000), .lit (.int .u64 1000000000), .lit (.int .u64 10000000000), .lit (.int .u64 100000000000), .lit (.int .u64 1000000000000), .lit (.int .u64 10000000000000), .lit (.int .u64 100000000000000), .lit (.int .u64 1000000000000000), .lit (.int .u64 10000000000000000), .lit (.int .u64 100000000000000000), .lit (.int .u64 1000000000000000000), .lit (.int .u64 10000000000000000000)]

/-- 'laws.FnExactCanCast': WHATEVER THE INPUT: true; the input reads as it did. -/
def fnExactCanCastSpec : ChangeSpec := { name := "fnExactCanCast", vars := ["loop.example/s16388/impl.dtypes"], fn := fun _ => fun
  | [d1, d2, d3, g1] => { results := [.lit (.bool true)], args := [d1, d2, d3], vars := [g1] }
  | _ => none }
def fnExactCanCastRow : OpenClaim := { program := "ytpmdgmnpkdoamabdoor", sum := "43883e457b6463e5c4f9d4c5fa11ae7b13e1ff391e4b75866ee870f83925976a", func := "loop.example/s16388/laws.FnExactCanCast", spec := "fnExactCanCast", named := ["loop.example/s16388/impl.dtypes"], apart := false, laid := [("loop.example/s16388/impl.dtypes", laid_loop_example_s16388_impl_dtypes)] }
def FnExactCanCastSaid : Prop := fnExactCanCastRow.holds Tryd.pinned (OpenSpec.ofChange fnExactCanCastSpec)

/-- ITS FALSE NEIGHBOUR: 'it returns false'. Refute it at one input. -/
def fnExactCanCastWrong : ChangeSpec := { name := "fnExactCanCast", vars := ["loop.example/s16388/impl.dtypes"], fn := fun _ => fun
  | [d1, d2, d3, g1] => { results := [.lit (.bool false)], args := [d1, d2, d3], vars := [g1] }
  | _ => none }
def FnExactCanCastWrongFalsely : Prop := fnExactCanCastRow.holds Tryd.pinned (OpenSpec.ofChange fnExactCanCastWrong)

/-- 'laws.FnExactValidCell': WHATEVER THE INPUT: true; the input reads as it did. -/
def fnExactValidCellSpec : ChangeSpec := { name := "fnExactValidCell", vars := ["loop.example/s16388/impl.dtypes"], fn := fun _ => fun
  | [d1, d2, g1] => { results := [.lit (.bool true)], args := [d1, d2], vars := [g1] }
  | _ => none }
def fnExactValidCellRow : OpenClaim := { program := "ytpmdgmnpkdoamabdoor", sum := "43883e457b6463e5c4f9d4c5fa11ae7b13e1ff391e4b75866ee870f83925976a", func := "loop.example/s16388/laws.FnExactValidCell", spec := "fnExactValidCell", inPlace := ["math.Float64bits"], named := ["loop.example/s16388/impl.dtypes"], apart := false, laid := [("loop.example/s16388/impl.dtypes", laid_loop_example_s16388_impl_dtypes)] }
def FnExactValidCellSaid : Prop := fnExactValidCellRow.holds Tryd.pinned (OpenSpec.ofChange fnExactValidCellSpec)

/-- ITS FALSE NEIGHBOUR: 'it returns false'. Refute it at one input. -/
def fnExactValidCellWrong : ChangeSpec := { name := "fnExactValidCell", vars := ["loop.example/s16388/impl.dtypes"], fn := fun _ => fun
  | [d1, d2, g1] => { results := [.lit (.bool false)], args := [d1, d2], vars := [g1] }
  | _ => none }
def FnExactValidCellWrongFalsely : Prop := fnExactValidCellRow.holds Tryd.pinned (OpenSpec.ofChange fnExactValidCellWrong)

/-- 'laws.FnExactBefore': WHATEVER THE INPUT: true; the input reads as it did. -/
def fnExactBeforeSpec : ChangeSpec := { name := "fnExactBefore", vars := ["loop.example/s16388/impl.dtypes"], fn := fun _ => fun
  | [d1, d2, d3, g1] => { results := [.lit (.bool true)], args := [d1, d2, d3], vars := [g1] }
  | _ => none }
def fnExactBeforeRow : OpenClaim := { program := "ytpmdgmnpkdoamabdoor", sum := "43883e457b6463e5c4f9d4c5fa11ae7b13e1ff391e4b75866ee870f83925976a", func := "loop.example/s16388/laws.FnExactBefore", spec := "fnExactBefore", inPlace := ["math.Float64bits"], named := ["loop.example/s16388/impl.dtypes"], apart := false, laid := [("loop.example/s16388/impl.dtypes", laid_loop_example_s16388_impl_dtypes)] }
def FnExactBeforeSaid : Prop := fnExactBeforeRow.holds Tryd.pinned (OpenSpec.ofChange fnExactBeforeSpec)

/-- ITS FALSE NEIGHBOUR: 'it returns false'. Refute it at one input. -/
def fnExactBeforeWrong : ChangeSpec := { name := "fnExactBefore", vars := ["loop.example/s16388/impl.dtypes"], fn := fun _ => fun
  | [d1, d2, d3, g1] => { results := [.lit (.bool false)], args := [d1, d2, d3], vars := [g1] }
  | _ => none }
def FnExactBeforeWrongFalsely : Prop := fnExactBeforeRow.holds Tryd.pinned (OpenSpec.ofChange fnExactBeforeWrong)

/-- 'laws.FnExactValidHeap': WHATEVER THE INPUT: true; the input reads as it did. -/
def fnExactValidHeapSpec : ChangeSpec := { name := "fnExactValidHeap", vars := ["loop.example/s16388/impl.dtypes"], fn := fun _ => fun
  | [d, g1] => { results := [.lit (.bool true)], args := [d], vars := [g1] }
  | _ => none }
def fnExactValidHeapRow : OpenClaim := { program := "ytpmdgmnpkdoamabdoor", sum := "43883e457b6463e5c4f9d4c5fa11ae7b13e1ff391e4b75866ee870f83925976a", func := "loop.example/s16388/laws.FnExactValidHeap", spec := "fnExactValidHeap", inPlace := ["math.Float64bits"], named := ["loop.example/s16388/impl.dtypes"], apart := false, laid := [("loop.example/s16388/impl.dtypes", laid_loop_example_s16388_impl_dtypes)] }
def FnExactValidHeapSaid : Prop := fnExactValidHeapRow.holds Tryd.pinned (OpenSpec.ofChange fnExactValidHeapSpec)

/-- ITS FALSE NEIGHBOUR: 'it returns false'. Refute it at one input. -/
def fnExactValidHeapWrong : ChangeSpec := { name := "fnExactValidHeap", vars := ["loop.example/s16388/impl.dtypes"], fn := fun _ => fun
  | [d, g1] => { results := [.lit (.bool false)], args := [d], vars := [g1] }
  | _ => none }
def FnExactValidHeapWrongFalsely : Prop := fnExactValidHeapRow.holds Tryd.pinned (OpenSpec.ofChange fnExactValidHeapWrong)

/-- 'laws.FnExactApplyUnary': WHATEVER THE INPUT: true; the input reads as it did. -/
def fnExactApplyUnarySpec : ChangeSpec := { name := "fnExactApplyUnary", vars := ["loop.example/s16388/impl.dtypes"], fn := fun _ => fun
  | [d1, d2, d3, g1] => { results := [.lit (.bool true)], args := [d1, d2, d3], vars := [g1] }
  | _ => none }
def fnExactApplyUnaryRow : OpenClaim := { program := "ytpmdgmnpkdoamabdoor", sum := "43883e457b6463e5c4f9d4c5fa11ae7b13e1ff391e4b75866ee870f83925976a", func := "loop.example/s16388/laws.FnExactApplyUnary", spec := "fnExactApplyUnary", inPlace := ["math.Float64bits", "math.Float64frombits"], named := ["loop.example/s16388/impl.dtypes"], apart := false, laid := [("loop.example/s16388/impl.dtypes", laid_loop_example_s16388_impl_dtypes)] }
def FnExactApplyUnarySaid : Prop := fnExactApplyUnaryRow.holds Tryd.pinned (OpenSpec.ofChange fnExactApplyUnarySpec)

/-- ITS FALSE NEIGHBOUR: 'it returns false'. Refute it at one input. -/
def fnExactApplyUnaryWrong : ChangeSpec := { name := "fnExactApplyUnary", vars := ["loop.example/s16388/impl.dtypes"], fn := fun _ => fun
  | [d1, d2, d3, g1] => { results := [.lit (.bool false)], args := [d1, d2, d3], vars := [g1] }
  | _ => none }
def FnExactApplyUnaryWrongFalsely : Prop := fnExactApplyUnaryRow.holds Tryd.pinned (OpenSpec.ofChange fnExactApplyUnaryWrong)

/-- 'laws.FnConvertBack': WHATEVER THE INPUT: true; the input reads as it did. -/
def fnConvertBackSpec : ChangeSpec := { name := "fnConvertBack", vars := ["loop.example/s16388/impl.dtypes"], fn := fun _ => fun
  | [d, g1] => { results := [.lit (.bool true)], args := [d], vars := [g1] }
  | _ => none }
def fnConvertBackRow : OpenClaim := { program := "ytpmdgmnpkdoamabdoor", sum := "43883e457b6463e5c4f9d4c5fa11ae7b13e1ff391e4b75866ee870f83925976a", func := "loop.example/s16388/laws.FnConvertBack", spec := "fnConvertBack", inPlace := ["math.Float64bits"], named := ["loop.example/s16388/impl.dtypes"], apart := false, laid := [("loop.example/s16388/impl.dtypes", laid_loop_example_s16388_impl_dtypes)] }
def FnConvertBackSaid : Prop := fnConvertBackRow.holds Tryd.pinned (OpenSpec.ofChange fnConvertBackSpec)

/-- ITS FALSE NEIGHBOUR: 'it returns false'. Refute it at one input. -/
def fnConvertBackWrong : ChangeSpec := { name := "fnConvertBack", vars := ["loop.example/s16388/impl.dtypes"], fn := fun _ => fun
  | [d, g1] => { results := [.lit (.bool false)], args := [d], vars := [g1] }
  | _ => none }
def FnConvertBackWrongFalsely : Prop := fnConvertBackRow.holds Tryd.pinned (OpenSpec.ofChange fnConvertBackWrong)

/-- 'laws.FnOrder': WHATEVER THE INPUT: true; the input reads as it did. -/
def fnOrderSpec : ChangeSpec := { name := "fnOrder", vars := ["loop.example/s16388/impl.dtypes"], fn := fun _ => fun
  | [d, g1] => { results := [.lit (.bool true)], args := [d], vars := [g1] }
  | _ => none }
def fnOrderRow : OpenClaim := { program := "ytpmdgmnpkdoamabdoor", sum := "43883e457b6463e5c4f9d4c5fa11ae7b13e1ff391e4b75866ee870f83925976a", func := "loop.example/s16388/laws.FnOrder", spec := "fnOrder", inPlace := ["math.Float64bits", "math.Float64frombits"], named := ["loop.example/s16388/impl.dtypes"], apart := false, laid := [("loop.example/s16388/impl.dtypes", laid_loop_example_s16388_impl_dtypes)] }
def FnOrderSaid : Prop := fnOrderRow.holds Tryd.pinned (OpenSpec.ofChange fnOrderSpec)

/-- ITS FALSE NEIGHBOUR: 'it returns false'. Refute it at one input. -/
def fnOrderWrong : ChangeSpec := { name := "fnOrder", vars := ["loop.example/s16388/impl.dtypes"], fn := fun _ => fun
  | [d, g1] => { results := [.lit (.bool false)], args := [d], vars := [g1] }
  | _ => none }
def FnOrderWrongFalsely : Prop := fnOrderRow.holds Tryd.pinned (OpenSpec.ofChange fnOrderWrong)

/-- 'laws.FnExactValidArray': WHATEVER THE INPUT: true; the input reads as it did. -/
def fnExactValidArraySpec : ChangeSpec := { name := "fnExactValidArray", vars := ["loop.example/s16388/impl.dtypes"], fn := fun _ => fun
  | [d1, d2, g1] => { results := [.lit (.bool true)], args := [d1, d2], vars := [g1] }
  | _ => none }
def fnExactValidArrayRow : OpenClaim := { program := "ytpmdgmnpkdoamabdoor", sum := "43883e457b6463e5c4f9d4c5fa11ae7b13e1ff391e4b75866ee870f83925976a", func := "loop.example/s16388/laws.FnExactValidArray", spec := "fnExactValidArray", inPlace := ["math.Float64bits"], unfollowed := true, recurses := true, named := ["loop.example/s16388/impl.dtypes"], apart := false, laid := [("loop.example/s16388/impl.dtypes", laid_loop_example_s16388_impl_dtypes)] }
def FnExactValidArraySaid : Prop := fnExactValidArrayRow.holds Tryd.pinned (OpenSpec.ofChange fnExactValidArraySpec)

/-- ITS FALSE NEIGHBOUR: 'it returns false'. Refute it at one input. -/
def fnExactValidArrayWrong : ChangeSpec := { name := "fnExactValidArray", vars := ["loop.example/s16388/impl.dtypes"], fn := fun _ => fun
  | [d1, d2, g1] => { results := [.lit (.bool false)], args := [d1, d2], vars := [g1] }
  | _ => none }
def FnExactValidArrayWrongFalsely : Prop := fnExactValidArrayRow.holds Tryd.pinned (OpenSpec.ofChange fnExactValidArrayWrong)

/-- 'laws.FnExactFormatCell': WHATEVER THE INPUT: true; the input reads as it did. -/
def fnExactFormatCellSpec : ChangeSpec := { name := "fnExactFormatCell", vars := ["loop.example/s16388/impl.dtypes"], fn := fun _ => fun
  | [d1, d2, g1] => { results := [.lit (.bool true)], args := [d1, d2], vars := [g1] }
  | _ => none }
def fnExactFormatCellRow : OpenClaim := { program := "ytpmdgmnpkdoamabdoor", sum := "43883e457b6463e5c4f9d4c5fa11ae7b13e1ff391e4b75866ee870f83925976a", func := "loop.example/s16388/laws.FnExactFormatCell", spec := "fnExactFormatCell", inPlace := ["math.Float64bits", "math.Float64frombits"], recurses := true, named := ["loop.example/s16388/impl.dtypes", "internal/strconv.uint64pow10", "math/bits.deBruijn32tab", "math/bits.deBruijn64tab"], apart := false, laid := [("math/bits.deBruijn32tab", laid_math_bits_deBruijn32tab), ("math/bits.deBruijn64tab", laid_math_bits_deBruijn64tab), ("internal/strconv.uint64pow10", laid_internal_strconv_uint64pow10), ("loop.example/s16388/impl.dtypes", laid_loop_example_s16388_impl_dtypes)] }
def FnExactFormatCellSaid : Prop := fnExactFormatCellRow.holds Tryd.pinned (OpenSpec.ofChange fnExactFormatCellSpec)

/-- ITS FALSE NEIGHBOUR: 'it returns false'. Refute it at one input. -/
def fnExactFormatCellWrong : ChangeSpec := { name := "fnExactFormatCell", vars := ["loop.example/s16388/impl.dtypes"], fn := fun _ => fun
  | [d1, d2, g1] => { results := [.lit (.bool false)], args := [d1, d2], vars := [g1] }
  | _ => none }
def FnExactFormatCellWrongFalsely : Prop := fnExactFormatCellRow.holds Tryd.pinned (OpenSpec.ofChange fnExactFormatCellWrong)

/-- 'laws.FnExactRead': WHATEVER THE INPUT: true; the input reads as it did. -/
def fnExactReadSpec : ChangeSpec := { name := "fnExactRead", vars := ["loop.example/s16388/impl.dtypes"], fn := fun _ => fun
  | [d1, d2, g1] => { results := [.lit (.bool true)], args := [d1, d2], vars := [g1] }
  | _ => none }
def fnExactReadRow : OpenClaim := { program := "ytpmdgmnpkdoamabdoor", sum := "43883e457b6463e5c4f9d4c5fa11ae7b13e1ff391e4b75866ee870f83925976a", func := "loop.example/s16388/laws.FnExactRead", spec := "fnExactRead", inPlace := ["math.Float64bits"], unfollowed := true, recurses := true, named := ["loop.example/s16388/impl.dtypes"], apart := false, laid := [("loop.example/s16388/impl.dtypes", laid_loop_example_s16388_impl_dtypes)] }
def FnExactReadSaid : Prop := fnExactReadRow.holds Tryd.pinned (OpenSpec.ofChange fnExactReadSpec)

/-- ITS FALSE NEIGHBOUR: 'it returns false'. Refute it at one input. -/
def fnExactReadWrong : ChangeSpec := { name := "fnExactRead", vars := ["loop.example/s16388/impl.dtypes"], fn := fun _ => fun
  | [d1, d2, g1] => { results := [.lit (.bool false)], args := [d1, d2], vars := [g1] }
  | _ => none }
def FnExactReadWrongFalsely : Prop := fnExactReadRow.holds Tryd.pinned (OpenSpec.ofChange fnExactReadWrong)

/-- 'laws.FnReshapeRead': WHATEVER THE INPUT: true; the input reads as it did. -/
def fnReshapeReadSpec : ChangeSpec := { name := "fnReshapeRead", vars := ["loop.example/s16388/impl.dtypes"], fn := fun _ => fun
  | [d, g1] => { results := [.lit (.bool true)], args := [d], vars := [g1] }
  | _ => none }
def fnReshapeReadRow : OpenClaim := { program := "ytpmdgmnpkdoamabdoor", sum := "43883e457b6463e5c4f9d4c5fa11ae7b13e1ff391e4b75866ee870f83925976a", func := "loop.example/s16388/laws.FnReshapeRead", spec := "fnReshapeRead", inPlace := ["math.Float64bits"], unfollowed := true, recurses := true, named := ["loop.example/s16388/impl.dtypes"], apart := false, laid := [("loop.example/s16388/impl.dtypes", laid_loop_example_s16388_impl_dtypes)] }
def FnReshapeReadSaid : Prop := fnReshapeReadRow.holds Tryd.pinned (OpenSpec.ofChange fnReshapeReadSpec)

/-- ITS FALSE NEIGHBOUR: 'it returns false'. Refute it at one input. -/
def fnReshapeReadWrong : ChangeSpec := { name := "fnReshapeRead", vars := ["loop.example/s16388/impl.dtypes"], fn := fun _ => fun
  | [d, g1] => { results := [.lit (.bool false)], args := [d], vars := [g1] }
  | _ => none }
def FnReshapeReadWrongFalsely : Prop := fnReshapeReadRow.holds Tryd.pinned (OpenSpec.ofChange fnReshapeReadWrong)

/-- 'laws.FnTakePut': WHATEVER THE INPUT: true; the input reads as it did. -/
def fnTakePutSpec : ChangeSpec := { name := "fnTakePut", vars := ["loop.example/s16388/impl.dtypes"], fn := fun _ => fun
  | [d1, d2, g1] => { results := [.lit (.bool true)], args := [d1, d2], vars := [g1] }
  | _ => none }
def fnTakePutRow : OpenClaim := { program := "ytpmdgmnpkdoamabdoor", sum := "43883e457b6463e5c4f9d4c5fa11ae7b13e1ff391e4b75866ee870f83925976a", func := "loop.example/s16388/laws.FnTakePut", spec := "fnTakePut", inPlace := ["math.Float64bits"], unfollowed := true, recurses := true, named := ["loop.example/s16388/impl.dtypes"], apart := false, laid := [("loop.example/s16388/impl.dtypes", laid_loop_example_s16388_impl_dtypes)] }
def FnTakePutSaid : Prop := fnTakePutRow.holds Tryd.pinned (OpenSpec.ofChange fnTakePutSpec)

/-- ITS FALSE NEIGHBOUR: 'it returns false'. Refute it at one input. -/
def fnTakePutWrong : ChangeSpec := { name := "fnTakePut", vars := ["loop.example/s16388/impl.dtypes"], fn := fun _ => fun
  | [d1, d2, g1] => { results := [.lit (.bool false)], args := [d1, d2], vars := [g1] }
  | _ => none }
def FnTakePutWrongFalsely : Prop := fnTakePutRow.holds Tryd.pinned (OpenSpec.ofChange fnTakePutWrong)

/- THE SECOND FORM. 'bulk': how many values and letters a reading holds, each counted each time it is reached (what is shared counts as often as it is met; a slice's spare places count too). A statement '..UptoSaid' is the law's where the arguments, and the package variables that the reading takes, are together of bulk at most 1048576: NARROWER than '..Said'. Prove '..Said' where nothing that the law and all that it calls make is longer than what came in: it says more and counts as full. Else prove '..UptoSaid'. A law counts once. -/
mutual
def uptoBulk {H : Type} : DataW H → Nat
  | .lit (.string bytes) => bytes.length + 1
  | .lit _ => 1
  | .nil => 1
  | .ptr d => uptoBulk d + 1
  | .slice elems spare => uptoBulkAll elems + uptoBulkAll spare + 1
  | .agg parts => uptoBulkAll parts + 1
  | .iface _ d => uptoBulk d + 1
  | .map entries => uptoBulkEntries entries + 1
  | .held _ => 1
def uptoBulkAll {H : Type} : List (DataW H) → Nat
  | [] => 0
  | d :: r => uptoBulk d + uptoBulkAll r
def uptoBulkEntries {H : Type} : List (Lit × DataW H) → Nat
  | [] => 0
  | x :: r => uptoBulkEntry x + uptoBulkEntries r
def uptoBulkEntry {H : Type} : Lit × DataW H → Nat
  | (.string bytes, d) => bytes.length + uptoBulk d + 1
  | (_, d) => uptoBulk d + 1
 end
def uptoSmall : (H : Type) → List (DataW H) → Bool := fun _ ds => decide (uptoBulkAll ds ≤ 1048576)
def OpenSpec.upto (s : _root_.Go.ChangeSpec) : _root_.Go.OpenSpec := { _root_.Go.OpenSpec.ofChange s with cond := some uptoSmall }

/-- 'laws.FnExactCanCast', WHERE WHAT IT READS IS OF BULK AT MOST 1048576: true; the input reads as it did. -/
def fnExactCanCastUptoRow : OpenClaim := { program := "ytpmdgmnpkdoamabdoor", sum := "43883e457b6463e5c4f9d4c5fa11ae7b13e1ff391e4b75866ee870f83925976a", func := "loop.example/s16388/laws.FnExactCanCast", spec := "fnExactCanCast", named := ["loop.example/s16388/impl.dtypes"], apart := false, laid := [("loop.example/s16388/impl.dtypes", laid_loop_example_s16388_impl_dtypes)], narrowed := true }
def FnExactCanCastUptoSaid : Prop := fnExactCanCastUptoRow.holds Tryd.pinned (OpenSpec.upto fnExactCanCastSpec)

/-- 'laws.FnExactValidCell', WHERE WHAT IT READS IS OF BULK AT MOST 1048576: true; the input reads as it did. -/
def fnExactValidCellUptoRow : OpenClaim := { program := "ytpmdgmnpkdoamabdoor", sum := "43883e457b6463e5c4f9d4c5fa11ae7b13e1ff391e4b75866ee870f83925976a", func := "loop.example/s16388/laws.FnExactValidCell", spec := "fnExactValidCell", inPlace := ["math.Float64bits"], named := ["loop.example/s16388/impl.dtypes"], apart := false, laid := [("loop.example/s16388/impl.dtypes", laid_loop_example_s16388_impl_dtypes)], narrowed := true }
def FnExactValidCellUptoSaid : Prop := fnExactValidCellUptoRow.holds Tryd.pinned (OpenSpec.upto fnExactValidCellSpec)

/-- 'laws.FnExactBefore', WHERE WHAT IT READS IS OF BULK AT MOST 1048576: true; the input reads as it did. -/
def fnExactBeforeUptoRow : OpenClaim := { program := "ytpmdgmnpkdoamabdoor", sum := "43883e457b6463e5c4f9d4c5fa11ae7b13e1ff391e4b75866ee870f83925976a", func := "loop.example/s16388/laws.FnExactBefore", spec := "fnExactBefore", inPlace := ["math.Float64bits"], named := ["loop.example/s16388/impl.dtypes"], apart := false, laid := [("loop.example/s16388/impl.dtypes", laid_loop_example_s16388_impl_dtypes)], narrowed := true }
def FnExactBeforeUptoSaid : Prop := fnExactBeforeUptoRow.holds Tryd.pinned (OpenSpec.upto fnExactBeforeSpec)

/-- 'laws.FnExactValidHeap', WHERE WHAT IT READS IS OF BULK AT MOST 1048576: true; the input reads as it did. -/
def fnExactValidHeapUptoRow : OpenClaim := { program := "ytpmdgmnpkdoamabdoor", sum := "43883e457b6463e5c4f9d4c5fa11ae7b13e1ff391e4b75866ee870f83925976a", func := "loop.example/s16388/laws.FnExactValidHeap", spec := "fnExactValidHeap", inPlace := ["math.Float64bits"], named := ["loop.example/s16388/impl.dtypes"], apart := false, laid := [("loop.example/s16388/impl.dtypes", laid_loop_example_s16388_impl_dtypes)], narrowed := true }
def FnExactValidHeapUptoSaid : Prop := fnExactValidHeapUptoRow.holds Tryd.pinned (OpenSpec.upto fnExactValidHeapSpec)

/-- 'laws.FnExactApplyUnary', WHERE WHAT IT READS IS OF BULK AT MOST 1048576: true; the input reads as it did. -/
def fnExactApplyUnaryUptoRow : OpenClaim := { program := "ytpmdgmnpkdoamabdoor", sum := "43883e457b6463e5c4f9d4c5fa11ae7b13e1ff391e4b75866ee870f83925976a", func := "loop.example/s16388/laws.FnExactApplyUnary", spec := "fnExactApplyUnary", inPlace := ["math.Float64bits", "math.Float64frombits"], named := ["loop.example/s16388/impl.dtypes"], apart := false, laid := [("loop.example/s16388/impl.dtypes", laid_loop_example_s16388_impl_dtypes)], narrowed := true }
def FnExactApplyUnaryUptoSaid : Prop := fnExactApplyUnaryUptoRow.holds Tryd.pinned (OpenSpec.upto fnExactApplyUnarySpec)

/-- 'laws.FnConvertBack', WHERE WHAT IT READS IS OF BULK AT MOST 1048576: true; the input reads as it did. -/
def fnConvertBackUptoRow : OpenClaim := { program := "ytpmdgmnpkdoamabdoor", sum := "43883e457b6463e5c4f9d4c5fa11ae7b13e1ff391e4b75866ee870f83925976a", func := "loop.example/s16388/laws.FnConvertBack", spec := "fnConvertBack", inPlace := ["math.Float64bits"], named := ["loop.example/s16388/impl.dtypes"], apart := false, laid := [("loop.example/s16388/impl.dtypes", laid_loop_example_s16388_impl_dtypes)], narrowed := true }
def FnConvertBackUptoSaid : Prop := fnConvertBackUptoRow.holds Tryd.pinned (OpenSpec.upto fnConvertBackSpec)

/-- 'laws.FnOrder', WHERE WHAT IT READS IS OF BULK AT MOST 1048576: true; the input reads as it did. -/
def fnOrderUptoRow : OpenClaim := { program := "ytpmdgmnpkdoamabdoor", sum := "43883e457b6463e5c4f9d4c5fa11ae7b13e1ff391e4b75866ee870f83925976a", func := "loop.example/s16388/laws.FnOrder", spec := "fnOrder", inPlace := ["math.Float64bits", "math.Float64frombits"], named := ["loop.example/s16388/impl.dtypes"], apart := false, laid := [("loop.example/s16388/impl.dtypes", laid_loop_example_s16388_impl_dtypes)], narrowed := true }
def FnOrderUptoSaid : Prop := fnOrderUptoRow.holds Tryd.pinned (OpenSpec.upto fnOrderSpec)

/-- 'laws.FnExactValidArray', WHERE WHAT IT READS IS OF BULK AT MOST 1048576: true; the input reads as it did. -/
def fnExactValidArrayUptoRow : OpenClaim := { program := "ytpmdgmnpkdoamabdoor", sum := "43883e457b6463e5c4f9d4c5fa11ae7b13e1ff391e4b75866ee870f83925976a", func := "loop.example/s16388/laws.FnExactValidArray", spec := "fnExactValidArray", inPlace := ["math.Float64bits"], unfollowed := true, recurses := true, named := ["loop.example/s16388/impl.dtypes"], apart := false, laid := [("loop.example/s16388/impl.dtypes", laid_loop_example_s16388_impl_dtypes)], narrowed := true }
def FnExactValidArrayUptoSaid : Prop := fnExactValidArrayUptoRow.holds Tryd.pinned (OpenSpec.upto fnExactValidArraySpec)

/-- 'laws.FnExactFormatCell', WHERE WHAT IT READS IS OF BULK AT MOST 1048576: true; the input reads as it did. -/
def fnExactFormatCellUptoRow : OpenClaim := { program := "ytpmdgmnpkdoamabdoor", sum := "43883e457b6463e5c4f9d4c5fa11ae7b13e1ff391e4b75866ee870f83925976a", func := "loop.example/s16388/laws.FnExactFormatCell", spec := "fnExactFormatCell", inPlace := ["math.Float64bits", "math.Float64frombits"], recurses := true, named := ["loop.example/s16388/impl.dtypes", "internal/strconv.uint64pow10", "math/bits.deBruijn32tab", "math/bits.deBruijn64tab"], apart := false, laid := [("math/bits.deBruijn32tab", laid_math_bits_deBruijn32tab), ("math/bits.deBruijn64tab", laid_math_bits_deBruijn64tab), ("internal/strconv.uint64pow10", laid_internal_strconv_uint64pow10), ("loop.example/s16388/impl.dtypes", laid_loop_example_s16388_impl_dtypes)], narrowed := true }
def FnExactFormatCellUptoSaid : Prop := fnExactFormatCellUptoRow.holds Tryd.pinned (OpenSpec.upto fnExactFormatCellSpec)

/-- 'laws.FnExactRead', WHERE WHAT IT READS IS OF BULK AT MOST 1048576: true; the input reads as it did. -/
def fnExactReadUptoRow : OpenClaim := { program := "ytpmdgmnpkdoamabdoor", sum := "43883e457b6463e5c4f9d4c5fa11ae7b13e1ff391e4b75866ee870f83925976a", func := "loop.example/s16388/laws.FnExactRead", spec := "fnExactRead", inPlace := ["math.Float64bits"], unfollowed := true, recurses := true, named := ["loop.example/s16388/impl.dtypes"], apart := false, laid := [("loop.example/s16388/impl.dtypes", laid_loop_example_s16388_impl_dtypes)], narrowed := true }
def FnExactReadUptoSaid : Prop := fnExactReadUptoRow.holds Tryd.pinned (OpenSpec.upto fnExactReadSpec)

/-- 'laws.FnReshapeRead', WHERE WHAT IT READS IS OF BULK AT MOST 1048576: true; the input reads as it did. -/
def fnReshapeReadUptoRow : OpenClaim := { program := "ytpmdgmnpkdoamabdoor", sum := "43883e457b6463e5c4f9d4c5fa11ae7b13e1ff391e4b75866ee870f83925976a", func := "loop.example/s16388/laws.FnReshapeRead", spec := "fnReshapeRead", inPlace := ["math.Float64bits"], unfollowed := true, recurses := true, named := ["loop.example/s16388/impl.dtypes"], apart := false, laid := [("loop.example/s16388/impl.dtypes", laid_loop_example_s16388_impl_dtypes)], narrowed := true }
def FnReshapeReadUptoSaid : Prop := fnReshapeReadUptoRow.holds Tryd.pinned (OpenSpec.upto fnReshapeReadSpec)

/-- 'laws.FnTakePut', WHERE WHAT IT READS IS OF BULK AT MOST 1048576: true; the input reads as it did. -/
def fnTakePutUptoRow : OpenClaim := { program := "ytpmdgmnpkdoamabdoor", sum := "43883e457b6463e5c4f9d4c5fa11ae7b13e1ff391e4b75866ee870f83925976a", func := "loop.example/s16388/laws.FnTakePut", spec := "fnTakePut", inPlace := ["math.Float64bits"], unfollowed := true, recurses := true, named := ["loop.example/s16388/impl.dtypes"], apart := false, laid := [("loop.example/s16388/impl.dtypes", laid_loop_example_s16388_impl_dtypes)], narrowed := true }
def FnTakePutUptoSaid : Prop := fnTakePutUptoRow.holds Tryd.pinned (OpenSpec.upto fnTakePutSpec)

end Rows
end Go.Proofs.YtpmdgmnpkdoamabDoor
