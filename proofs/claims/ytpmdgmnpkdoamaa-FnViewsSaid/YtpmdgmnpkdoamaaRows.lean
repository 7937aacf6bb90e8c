/-
  No cell of these rows narrows 'for every input' (looked for: loops, veiled, ifaces, maps, wideKeys, modest, calm, conditions, laid).
  DERIVED. THE GIVEN ROWS OF THIS SEAT. 16 by the template 'for every input the law returns true; each argument reads behind the call as it read before'; 0 by the template 'total and deterministic' (their statements: YtpmdgmnpkdoamaaTotals.lean).
  GIVEN WITH THE SEED: the statements are not yours to turn. If you find one false, say at which input.
  Laid BY PROGRAM, IN A SANDBOX (cutbox-rows.mjs): the forced cells as the released guide's own fill.sh prints them over the translation ab63da7e1b4b927b… (all of the seat's roots in one cut). By AI agents, Wed Nov 11 2026. No macro, syntax, notation, axiom, sorry.
-/
import Derived.Test.YtpmdgmnpkdoamaaChecked
import GoSem.Claim
import GoSem.ClaimJoined
import GoSem.ClaimMapViews
import Derived.JoinedTies
import Derived.KernelRfl
namespace Go.Proofs.Ytpmdgmnpkdoamaa
/- THE CELL 'sum', in the pinned program and in every row, IS THE sha256 OF THE DUMP (.gsa) THAT YtpmdgmnpkdoamaaProg.lean LOADS. Nothing in Lean hashes anything: it is a label: what it is worth is what the hold of that sum in a sandbox is worth. -/
noncomputable def Try.pinned : Pinned := { name := "ytpmdgmnpkdoamaa", sum := "ab63da7e1b4b927b025c240effe4d8a916bd0e580ae107785b4fce81765bee05", checked := Try.checked }
namespace Rows
def none {H : Type} : Left H := { results := [], args := [] }

/-- 'laws.FnExactConstants': WHATEVER THE INPUT: true; the input reads as it did. -/
def fnExactConstantsSpec : ChangeSpec := { name := "fnExactConstants", fn := fun _ => fun
  | [] => { results := [.lit (.bool true)], args := [] }
  | _ => none }
def fnExactConstantsRow : OpenClaim := { program := "ytpmdgmnpkdoamaa", sum := "ab63da7e1b4b927b025c240effe4d8a916bd0e580ae107785b4fce81765bee05", func := "loop.example/s16388/laws.FnExactConstants", spec := "fnExactConstants", apart := false }
def FnExactConstantsSaid : Prop := fnExactConstantsRow.holds Try.pinned (OpenSpec.ofChange fnExactConstantsSpec)

/-- ITS FALSE NEIGHBOUR: 'it returns false'. Refute it at one input. -/
def fnExactConstantsWrong : ChangeSpec := { name := "fnExactConstants", fn := fun _ => fun
  | [] => { results := [.lit (.bool false)], args := [] }
  | _ => none }
def FnExactConstantsWrongFalsely : Prop := fnExactConstantsRow.holds Try.pinned (OpenSpec.ofChange fnExactConstantsWrong)

/-- 'laws.FnExactRoundBytes': WHATEVER THE INPUT: true; the input reads as it did. -/
def fnExactRoundBytesSpec : ChangeSpec := { name := "fnExactRoundBytes", fn := fun _ => fun
  | [d] => { results := [.lit (.bool true)], args := [d] }
  | _ => none }
def fnExactRoundBytesRow : OpenClaim := { program := "ytpmdgmnpkdoamaa", sum := "ab63da7e1b4b927b025c240effe4d8a916bd0e580ae107785b4fce81765bee05", func := "loop.example/s16388/laws.FnExactRoundBytes", spec := "fnExactRoundBytes", apart := false }
def FnExactRoundBytesSaid : Prop := fnExactRoundBytesRow.holds Try.pinned (OpenSpec.ofChange fnExactRoundBytesSpec)

/-- ITS FALSE NEIGHBOUR: 'it returns false'. Refute it at one input. -/
def fnExactRoundBytesWrong : ChangeSpec := { name := "fnExactRoundBytes", fn := fun _ => fun
  | [d] => { results := [.lit (.bool false)], args := [d] }
  | _ => none }
def FnExactRoundBytesWrongFalsely : Prop := fnExactRoundBytesRow.holds Try.pinned (OpenSpec.ofChange fnExactRoundBytesWrong)

/-- 'laws.FnExactPromote': WHATEVER THE INPUT: true; the input reads as it did. -/
def fnExactPromoteSpec : ChangeSpec := { name := "fnExactPromote", fn := fun _ => fun
  | [d1, d2] => { results := [.lit (.bool true)], args := [d1, d2] }
  | _ => none }
def fnExactPromoteRow : OpenClaim := { program := "ytpmdgmnpkdoamaa", sum := "ab63da7e1b4b927b025c240effe4d8a916bd0e580ae107785b4fce81765bee05", func := "loop.example/s16388/laws.FnExactPromote", spec := "fnExactPromote", apart := false }
def FnExactPromoteSaid : Prop := fnExactPromoteRow.holds Try.pinned (OpenSpec.ofChange fnExactPromoteSpec)

/-- ITS FALSE NEIGHBOUR: 'it returns false'. Refute it at one input. -/
def fnExactPromoteWrong : ChangeSpec := { name := "fnExactPromote", fn := fun _ => fun
  | [d1, d2] => { results := [.lit (.bool false)], args := [d1, d2] }
  | _ => none }
def FnExactPromoteWrongFalsely : Prop := fnExactPromoteRow.holds Try.pinned (OpenSpec.ofChange fnExactPromoteWrong)

/-- 'laws.FnExactValidView': WHATEVER THE INPUT: true; the input reads as it did. -/
def fnExactValidViewSpec : ChangeSpec := { name := "fnExactValidView", fn := fun _ => fun
  | [d] => { results := [.lit (.bool true)], args := [d] }
  | _ => none }
def fnExactValidViewRow : OpenClaim := { program := "ytpmdgmnpkdoamaa", sum := "ab63da7e1b4b927b025c240effe4d8a916bd0e580ae107785b4fce81765bee05", func := "loop.example/s16388/laws.FnExactValidView", spec := "fnExactValidView", recurses := true, apart := false }
def FnExactValidViewSaid : Prop := fnExactValidViewRow.holds Try.pinned (OpenSpec.ofChange fnExactValidViewSpec)

/-- ITS FALSE NEIGHBOUR: 'it returns false'. Refute it at one input. -/
def fnExactValidViewWrong : ChangeSpec := { name := "fnExactValidView", fn := fun _ => fun
  | [d] => { results := [.lit (.bool false)], args := [d] }
  | _ => none }
def FnExactValidViewWrongFalsely : Prop := fnExactValidViewRow.holds Try.pinned (OpenSpec.ofChange fnExactValidViewWrong)

/-- 'laws.FnExactBroadcastShape': WHATEVER THE INPUT: true; the input reads as it did. -/
def fnExactBroadcastShapeSpec : ChangeSpec := { name := "fnExactBroadcastShape", fn := fun _ => fun
  | [d1, d2] => { results := [.lit (.bool true)], args := [d1, d2] }
  | _ => none }
def fnExactBroadcastShapeRow : OpenClaim := { program := "ytpmdgmnpkdoamaa", sum := "ab63da7e1b4b927b025c240effe4d8a916bd0e580ae107785b4fce81765bee05", func := "loop.example/s16388/laws.FnExactBroadcastShape", spec := "fnExactBroadcastShape", apart := false }
def FnExactBroadcastShapeSaid : Prop := fnExactBroadcastShapeRow.holds Try.pinned (OpenSpec.ofChange fnExactBroadcastShapeSpec)

/-- ITS FALSE NEIGHBOUR: 'it returns false'. Refute it at one input. -/
def fnExactBroadcastShapeWrong : ChangeSpec := { name := "fnExactBroadcastShape", fn := fun _ => fun
  | [d1, d2] => { results := [.lit (.bool false)], args := [d1, d2] }
  | _ => none }
def FnExactBroadcastShapeWrongFalsely : Prop := fnExactBroadcastShapeRow.holds Try.pinned (OpenSpec.ofChange fnExactBroadcastShapeWrong)

/-- 'laws.FnExactSchedule': WHATEVER THE INPUT: true; the input reads as it did. -/
def fnExactScheduleSpec : ChangeSpec := { name := "fnExactSchedule", fn := fun _ => fun
  | [d1, d2, d3] => { results := [.lit (.bool true)], args := [d1, d2, d3] }
  | _ => none }
def fnExactScheduleRow : OpenClaim := { program := "ytpmdgmnpkdoamaa", sum := "ab63da7e1b4b927b025c240effe4d8a916bd0e580ae107785b4fce81765bee05", func := "loop.example/s16388/laws.FnExactSchedule", spec := "fnExactSchedule", inPlace := ["(*internal/sync.Mutex).Lock", "internal/race.Disable", "sync/atomic.CompareAndSwapInt32", "internal/race.Enable", "internal/race.Acquire", "(*internal/sync.Mutex).lockSlow", "internal/sync.runtime_canSpin", "internal/sync.runtime_doSpin", "internal/sync.throw", "internal/sync.runtime_nanotime", "internal/sync.runtime_SemacquireMutex", "sync/atomic.AddInt32", "(*internal/sync.Mutex).Unlock", "internal/race.ReleaseMerge", "(*internal/sync.Mutex).unlockSlow", "internal/sync.fatal", "internal/sync.runtime_Semrelease"], apart := false }
def FnExactScheduleSaid : Prop := fnExactScheduleRow.holds Try.pinned (OpenSpec.ofChange fnExactScheduleSpec)

/-- ITS FALSE NEIGHBOUR: 'it returns false'. Refute it at one input. -/
def fnExactScheduleWrong : ChangeSpec := { name := "fnExactSchedule", fn := fun _ => fun
  | [d1, d2, d3] => { results := [.lit (.bool false)], args := [d1, d2, d3] }
  | _ => none }
def FnExactScheduleWrongFalsely : Prop := fnExactScheduleRow.holds Try.pinned (OpenSpec.ofChange fnExactScheduleWrong)

/-- 'laws.FnExactWritable': WHATEVER THE INPUT: true; the input reads as it did. -/
def fnExactWritableSpec : ChangeSpec := { name := "fnExactWritable", fn := fun _ => fun
  | [d] => { results := [.lit (.bool true)], args := [d] }
  | _ => none }
def fnExactWritableRow : OpenClaim := { program := "ytpmdgmnpkdoamaa", sum := "ab63da7e1b4b927b025c240effe4d8a916bd0e580ae107785b4fce81765bee05", func := "loop.example/s16388/laws.FnExactWritable", spec := "fnExactWritable", unfollowed := true, recurses := true, apart := false }
def FnExactWritableSaid : Prop := fnExactWritableRow.holds Try.pinned (OpenSpec.ofChange fnExactWritableSpec)

/-- ITS FALSE NEIGHBOUR: 'it returns false'. Refute it at one input. -/
def fnExactWritableWrong : ChangeSpec := { name := "fnExactWritable", fn := fun _ => fun
  | [d] => { results := [.lit (.bool false)], args := [d] }
  | _ => none }
def FnExactWritableWrongFalsely : Prop := fnExactWritableRow.holds Try.pinned (OpenSpec.ofChange fnExactWritableWrong)

/-- 'laws.FnExactOverlap': WHATEVER THE INPUT: true; the input reads as it did. -/
def fnExactOverlapSpec : ChangeSpec := { name := "fnExactOverlap", fn := fun _ => fun
  | [d1, d2] => { results := [.lit (.bool true)], args := [d1, d2] }
  | _ => none }
def fnExactOverlapRow : OpenClaim := { program := "ytpmdgmnpkdoamaa", sum := "ab63da7e1b4b927b025c240effe4d8a916bd0e580ae107785b4fce81765bee05", func := "loop.example/s16388/laws.FnExactOverlap", spec := "fnExactOverlap", unfollowed := true, recurses := true, apart := false }
def FnExactOverlapSaid : Prop := fnExactOverlapRow.holds Try.pinned (OpenSpec.ofChange fnExactOverlapSpec)

/-- ITS FALSE NEIGHBOUR: 'it returns false'. Refute it at one input. -/
def fnExactOverlapWrong : ChangeSpec := { name := "fnExactOverlap", fn := fun _ => fun
  | [d1, d2] => { results := [.lit (.bool false)], args := [d1, d2] }
  | _ => none }
def FnExactOverlapWrongFalsely : Prop := fnExactOverlapRow.holds Try.pinned (OpenSpec.ofChange fnExactOverlapWrong)

/-- 'laws.FnExactOffsets': WHATEVER THE INPUT: true; the input reads as it did. -/
def fnExactOffsetsSpec : ChangeSpec := { name := "fnExactOffsets", fn := fun _ => fun
  | [d] => { results := [.lit (.bool true)], args := [d] }
  | _ => none }
def fnExactOffsetsRow : OpenClaim := { program := "ytpmdgmnpkdoamaa", sum := "ab63da7e1b4b927b025c240effe4d8a916bd0e580ae107785b4fce81765bee05", func := "loop.example/s16388/laws.FnExactOffsets", spec := "fnExactOffsets", unfollowed := true, recurses := true, apart := false }
def FnExactOffsetsSaid : Prop := fnExactOffsetsRow.holds Try.pinned (OpenSpec.ofChange fnExactOffsetsSpec)

/-- ITS FALSE NEIGHBOUR: 'it returns false'. Refute it at one input. -/
def fnExactOffsetsWrong : ChangeSpec := { name := "fnExactOffsets", fn := fun _ => fun
  | [d] => { results := [.lit (.bool false)], args := [d] }
  | _ => none }
def FnExactOffsetsWrongFalsely : Prop := fnExactOffsetsRow.holds Try.pinned (OpenSpec.ofChange fnExactOffsetsWrong)

/-- 'laws.FnExactTranspose': WHATEVER THE INPUT: true; the input reads as it did. -/
def fnExactTransposeSpec : ChangeSpec := { name := "fnExactTranspose", fn := fun _ => fun
  | [d1, d2] => { results := [.lit (.bool true)], args := [d1, d2] }
  | _ => none }
def fnExactTransposeRow : OpenClaim := { program := "ytpmdgmnpkdoamaa", sum := "ab63da7e1b4b927b025c240effe4d8a916bd0e580ae107785b4fce81765bee05", func := "loop.example/s16388/laws.FnExactTranspose", spec := "fnExactTranspose", recurses := true, apart := false }
def FnExactTransposeSaid : Prop := fnExactTransposeRow.holds Try.pinned (OpenSpec.ofChange fnExactTransposeSpec)

/-- ITS FALSE NEIGHBOUR: 'it returns false'. Refute it at one input. -/
def fnExactTransposeWrong : ChangeSpec := { name := "fnExactTranspose", fn := fun _ => fun
  | [d1, d2] => { results := [.lit (.bool false)], args := [d1, d2] }
  | _ => none }
def FnExactTransposeWrongFalsely : Prop := fnExactTransposeRow.holds Try.pinned (OpenSpec.ofChange fnExactTransposeWrong)

/-- 'laws.FnExactBroadcast': WHATEVER THE INPUT: true; the input reads as it did. -/
def fnExactBroadcastSpec : ChangeSpec := { name := "fnExactBroadcast", fn := fun _ => fun
  | [d1, d2] => { results := [.lit (.bool true)], args := [d1, d2] }
  | _ => none }
def fnExactBroadcastRow : OpenClaim := { program := "ytpmdgmnpkdoamaa", sum := "ab63da7e1b4b927b025c240effe4d8a916bd0e580ae107785b4fce81765bee05", func := "loop.example/s16388/laws.FnExactBroadcast", spec := "fnExactBroadcast", recurses := true, apart := false }
def FnExactBroadcastSaid : Prop := fnExactBroadcastRow.holds Try.pinned (OpenSpec.ofChange fnExactBroadcastSpec)

/-- ITS FALSE NEIGHBOUR: 'it returns false'. Refute it at one input. -/
def fnExactBroadcastWrong : ChangeSpec := { name := "fnExactBroadcast", fn := fun _ => fun
  | [d1, d2] => { results := [.lit (.bool false)], args := [d1, d2] }
  | _ => none }
def FnExactBroadcastWrongFalsely : Prop := fnExactBroadcastRow.holds Try.pinned (OpenSpec.ofChange fnExactBroadcastWrong)

/-- 'laws.FnPool': WHATEVER THE INPUT: true; the input reads as it did. -/
def fnPoolSpec : ChangeSpec := { name := "fnPool", fn := fun _ => fun
  | [d] => { results := [.lit (.bool true)], args := [d] }
  | _ => none }
def fnPoolRow : OpenClaim := { program := "ytpmdgmnpkdoamaa", sum := "ab63da7e1b4b927b025c240effe4d8a916bd0e580ae107785b4fce81765bee05", func := "loop.example/s16388/laws.FnPool", spec := "fnPool", inPlace := ["(*internal/sync.Mutex).Lock", "internal/race.Disable", "sync/atomic.CompareAndSwapInt32", "internal/race.Enable", "internal/race.Acquire", "(*internal/sync.Mutex).lockSlow", "internal/sync.runtime_canSpin", "internal/sync.runtime_doSpin", "internal/sync.throw", "internal/sync.runtime_nanotime", "internal/sync.runtime_SemacquireMutex", "sync/atomic.AddInt32", "(*internal/sync.Mutex).Unlock", "internal/race.ReleaseMerge", "(*internal/sync.Mutex).unlockSlow", "internal/sync.fatal", "internal/sync.runtime_Semrelease"], unfollowed := true, recurses := true, apart := false }
def FnPoolSaid : Prop := fnPoolRow.holds Try.pinned (OpenSpec.ofChange fnPoolSpec)

/-- ITS FALSE NEIGHBOUR: 'it returns false'. Refute it at one input. -/
def fnPoolWrong : ChangeSpec := { name := "fnPool", fn := fun _ => fun
  | [d] => { results := [.lit (.bool false)], args := [d] }
  | _ => none }
def FnPoolWrongFalsely : Prop := fnPoolRow.holds Try.pinned (OpenSpec.ofChange fnPoolWrong)

/-- 'laws.FnExactSlice': WHATEVER THE INPUT: true; the input reads as it did. -/
def fnExactSliceSpec : ChangeSpec := { name := "fnExactSlice", fn := fun _ => fun
  | [d1, d2, d3, d4, d5] => { results := [.lit (.bool true)], args := [d1, d2, d3, d4, d5] }
  | _ => none }
def fnExactSliceRow : OpenClaim := { program := "ytpmdgmnpkdoamaa", sum := "ab63da7e1b4b927b025c240effe4d8a916bd0e580ae107785b4fce81765bee05", func := "loop.example/s16388/laws.FnExactSlice", spec := "fnExactSlice", recurses := true, apart := false }
def FnExactSliceSaid : Prop := fnExactSliceRow.holds Try.pinned (OpenSpec.ofChange fnExactSliceSpec)

/-- ITS FALSE NEIGHBOUR: 'it returns false'. Refute it at one input. -/
def fnExactSliceWrong : ChangeSpec := { name := "fnExactSlice", fn := fun _ => fun
  | [d1, d2, d3, d4, d5] => { results := [.lit (.bool false)], args := [d1, d2, d3, d4, d5] }
  | _ => none }
def FnExactSliceWrongFalsely : Prop := fnExactSliceRow.holds Try.pinned (OpenSpec.ofChange fnExactSliceWrong)

/-- 'laws.FnExactPoolRun': WHATEVER THE INPUT: true; the input reads as it did. -/
def fnExactPoolRunSpec : ChangeSpec := { name := "fnExactPoolRun", fn := fun _ => fun
  | [d1, d2] => { results := [.lit (.bool true)], args := [d1, d2] }
  | _ => none }
def fnExactPoolRunRow : OpenClaim := { program := "ytpmdgmnpkdoamaa", sum := "ab63da7e1b4b927b025c240effe4d8a916bd0e580ae107785b4fce81765bee05", func := "loop.example/s16388/laws.FnExactPoolRun", spec := "fnExactPoolRun", inPlace := ["(*internal/sync.Mutex).Lock", "internal/race.Disable", "sync/atomic.CompareAndSwapInt32", "internal/race.Enable", "internal/race.Acquire", "(*internal/sync.Mutex).lockSlow", "internal/sync.runtime_canSpin", "internal/sync.runtime_doSpin", "internal/sync.throw", "internal/sync.runtime_nanotime", "internal/sync.runtime_SemacquireMutex", "sync/atomic.AddInt32", "(*internal/sync.Mutex).Unlock", "internal/race.ReleaseMerge", "(*internal/sync.Mutex).unlockSlow", "internal/sync.fatal", "internal/sync.runtime_Semrelease"], unfollowed := true, recurses := true, apart := false }
def FnExactPoolRunSaid : Prop := fnExactPoolRunRow.holds Try.pinned (OpenSpec.ofChange fnExactPoolRunSpec)

/-- ITS FALSE NEIGHBOUR: 'it returns false'. Refute it at one input. -/
def fnExactPoolRunWrong : ChangeSpec := { name := "fnExactPoolRun", fn := fun _ => fun
  | [d1, d2] => { results := [.lit (.bool false)], args := [d1, d2] }
  | _ => none }
def FnExactPoolRunWrongFalsely : Prop := fnExactPoolRunRow.holds Try.pinned (OpenSpec.ofChange fnExactPoolRunWrong)

/-- 'laws.FnExactReshape': WHATEVER THE INPUT: true; the input reads as it did. -/
def fnExactReshapeSpec : ChangeSpec := { name := "fnExactReshape", fn := fun _ => fun
  | [d1, d2] => { results := [.lit (.bool true)], args := [d1, d2] }
  | _ => none }
def fnExactReshapeRow : OpenClaim := { program := "ytpmdgmnpkdoamaa", sum := "ab63da7e1b4b927b025c240effe4d8a916bd0e580ae107785b4fce81765bee05", func := "loop.example/s16388/laws.FnExactReshape", spec := "fnExactReshape", unfollowed := true, recurses := true, apart := false }
def FnExactReshapeSaid : Prop := fnExactReshapeRow.holds Try.pinned (OpenSpec.ofChange fnExactReshapeSpec)

/-- ITS FALSE NEIGHBOUR: 'it returns false'. Refute it at one input. -/
def fnExactReshapeWrong : ChangeSpec := { name := "fnExactReshape", fn := fun _ => fun
  | [d1, d2] => { results := [.lit (.bool false)], args := [d1, d2] }
  | _ => none }
def FnExactReshapeWrongFalsely : Prop := fnExactReshapeRow.holds Try.pinned (OpenSpec.ofChange fnExactReshapeWrong)

/-- 'laws.FnViews': WHATEVER THE INPUT: true; the input reads as it did. -/
def fnViewsSpec : ChangeSpec := { name := "fnViews", fn := fun _ => fun
  | [d] => { results := [.lit (.bool true)], args := [d] }
  | _ => none }
def fnViewsRow : OpenClaim := { program := "ytpmdgmnpkdoamaa", sum := "ab63da7e1b4b927b025c240effe4d8a916bd0e580ae107785b4fce81765bee05", func := "loop.example/s16388/laws.FnViews", spec := "fnViews", unfollowed := true, recurses := true, apart := false }
def FnViewsSaid : Prop := fnViewsRow.holds Try.pinned (OpenSpec.ofChange fnViewsSpec)

/-- ITS FALSE NEIGHBOUR: 'it returns false'. Refute it at one input. -/
def fnViewsWrong : ChangeSpec := { name := "fnViews", fn := fun _ => fun
  | [d] => { results := [.lit (.bool false)], args := [d] }
  | _ => none }
def FnViewsWrongFalsely : Prop := fnViewsRow.holds Try.pinned (OpenSpec.ofChange fnViewsWrong)

/- THE SECOND FORM. 'bulk': how many values and letters a reading holds, each counted each time it is reached (what is shared counts as often as it is met; a slice's spare places count too). A statement '..UptoSaid' is the law's where the arguments, and the package variables that the reading takes, are together of bulk at most 1048576: NARROWER than '..Said'. Prove '..Said' where nothing that the law and all that it calls make is longer than what came in: it says more and counts as full. Else prove '..UptoSaid'. A law counts once. -/
mutual
def uptoBulk {H : Type} : DataW H → Nat
  | .lit (.string bytes) => bytes.length + 1
  | .lit _ => 1
  | .nil => 1
  | .ptr d => uptoBulk d + 1
  | .slice elems spare => uptoBulkAll elems + uptoBulkAll spare + 1
  | .agg parts => uptoBulkAll parts + 1
  | .iface _ d => uptoBulk d + 1
  | .map entries => uptoBulkEntries entries + 1
  | .held _ => 1
def uptoBulkAll {H : Type} : List (DataW H) → Nat
  | [] => 0
  | d :: r => uptoBulk d + uptoBulkAll r
def uptoBulkEntries {H : Type} : List (Lit × DataW H) → Nat
  | [] => 0
  | x :: r => uptoBulkEntry x + uptoBulkEntries r
def uptoBulkEntry {H : Type} : Lit × DataW H → Nat
  | (.string bytes, d) => bytes.length + uptoBulk d + 1
  | (_, d) => uptoBulk d + 1
 end
def uptoSmall : (H : Type) → List (DataW H) → Bool := fun _ ds => decide (uptoBulkAll ds ≤ 1048576)
def OpenSpec.upto (s : _root_.Go.ChangeSpec) : _root_.Go.OpenSpec := { _root_.Go.OpenSpec.ofChange s with cond := some uptoSmall }

/-- 'laws.FnExactConstants', WHERE WHAT IT READS IS OF BULK AT MOST 1048576: true; the input reads as it did. -/
def fnExactConstantsUptoRow : OpenClaim := { program := "ytpmdgmnpkdoamaa", sum := "ab63da7e1b4b927b025c240effe4d8a916bd0e580ae107785b4fce81765bee05", func := "loop.example/s16388/laws.FnExactConstants", spec := "fnExactConstants", apart := false, narrowed := true }
def FnExactConstantsUptoSaid : Prop := fnExactConstantsUptoRow.holds Try.pinned (OpenSpec.upto fnExactConstantsSpec)

/-- 'laws.FnExactRoundBytes', WHERE WHAT IT READS IS OF BULK AT MOST 1048576: true; the input reads as it did. -/
def fnExactRoundBytesUptoRow : OpenClaim := { program := "ytpmdgmnpkdoamaa", sum := "ab63da7e1b4b927b025c240effe4d8a916bd0e580ae107785b4fce81765bee05", func := "loop.example/s16388/laws.FnExactRoundBytes", spec := "fnExactRoundBytes", apart := false, narrowed := true }
def FnExactRoundBytesUptoSaid : Prop := fnExactRoundBytesUptoRow.holds Try.pinned (OpenSpec.upto fnExactRoundBytesSpec)

/-- 'laws.FnExactPromote', WHERE WHAT IT READS IS OF BULK AT MOST 1048576: true; the input reads as it did. -/
def fnExactPromoteUptoRow : OpenClaim := { program := "ytpmdgmnpkdoamaa", sum := "ab63da7e1b4b927b025c240effe4d8a916bd0e580ae107785b4fce81765bee05", func := "loop.example/s16388/laws.FnExactPromote", spec := "fnExactPromote", apart := false, narrowed := true }
def FnExactPromoteUptoSaid : Prop := fnExactPromoteUptoRow.holds Try.pinned (OpenSpec.upto fnExactPromoteSpec)

/-- 'laws.FnExactValidView', WHERE WHAT IT READS IS OF BULK AT MOST 1048576: true; the input reads as it did. -/
def fnExactValidViewUptoRow : OpenClaim := { program := "ytpmdgmnpkdoamaa", sum := "ab63da7e1b4b927b025c240effe4d8a916bd0e580ae107785b4fce81765bee05", func := "loop.example/s16388/laws.FnExactValidView", spec := "fnExactValidView", recurses := true, apart := false, narrowed := true }
def FnExactValidViewUptoSaid : Prop := fnExactValidViewUptoRow.holds Try.pinned (OpenSpec.upto fnExactValidViewSpec)

/-- 'laws.FnExactBroadcastShape', WHERE WHAT IT READS IS OF BULK AT MOST 1048576: true; the input reads as it did. -/
def fnExactBroadcastShapeUptoRow : OpenClaim := { program := "ytpmdgmnpkdoamaa", sum := "ab63da7e1b4b927b025c240effe4d8a916bd0e580ae107785b4fce81765bee05", func := "loop.example/s16388/laws.FnExactBroadcastShape", spec := "fnExactBroadcastShape", apart := false, narrowed := true }
def FnExactBroadcastShapeUptoSaid : Prop := fnExactBroadcastShapeUptoRow.holds Try.pinned (OpenSpec.upto fnExactBroadcastShapeSpec)

/-- 'laws.FnExactSchedule', WHERE WHAT IT READS IS OF BULK AT MOST 1048576: true; the input reads as it did. -/
def fnExactScheduleUptoRow : OpenClaim := { program := "ytpmdgmnpkdoamaa", sum := "ab63da7e1b4b927b025c240effe4d8a916bd0e580ae107785b4fce81765bee05", func := "loop.example/s16388/laws.FnExactSchedule", spec := "fnExactSchedule", inPlace := ["(*internal/sync.Mutex).Lock", "internal/race.Disable", "sync/atomic.CompareAndSwapInt32", "internal/race.Enable", "internal/race.Acquire", "(*internal/sync.Mutex).lockSlow", "internal/sync.runtime_canSpin", "internal/sync.runtime_doSpin", "internal/sync.throw", "internal/sync.runtime_nanotime", "internal/sync.runtime_SemacquireMutex", "sync/atomic.AddInt32", "(*internal/sync.Mutex).Unlock", "internal/race.ReleaseMerge", "(*internal/sync.Mutex).unlockSlow", "internal/sync.fatal", "internal/sync.runtime_Semrelease"], apart := false, narrowed := true }
def FnExactScheduleUptoSaid : Prop := fnExactScheduleUptoRow.holds Try.pinned (OpenSpec.upto fnExactScheduleSpec)

/-- 'laws.FnExactWritable', WHERE WHAT IT READS IS OF BULK AT MOST 1048576: true; the input reads as it did. -/
def fnExactWritableUptoRow : OpenClaim := { program := "ytpmdgmnpkdoamaa", sum := "ab63da7e1b4b927b025c240effe4d8a916bd0e580ae107785b4fce81765bee05", func := "loop.example/s16388/laws.FnExactWritable", spec := "fnExactWritable", unfollowed := true, recurses := true, apart := false, narrowed := true }
def FnExactWritableUptoSaid : Prop := fnExactWritableUptoRow.holds Try.pinned (OpenSpec.upto fnExactWritableSpec)

/-- 'laws.FnExactOverlap', WHERE WHAT IT READS IS OF BULK AT MOST 1048576: true; the input reads as it did. -/
def fnExactOverlapUptoRow : OpenClaim := { program := "ytpmdgmnpkdoamaa", sum := "ab63da7e1b4b927b025c240effe4d8a916bd0e580ae107785b4fce81765bee05", func := "loop.example/s16388/laws.FnExactOverlap", spec := "fnExactOverlap", unfollowed := true, recurses := true, apart := false, narrowed := true }
def FnExactOverlapUptoSaid : Prop := fnExactOverlapUptoRow.holds Try.pinned (OpenSpec.upto fnExactOverlapSpec)

/-- 'laws.FnExactOffsets', WHERE WHAT IT READS IS OF BULK AT MOST 1048576: true; the input reads as it did. -/
def fnExactOffsetsUptoRow : OpenClaim := { program := "ytpmdgmnpkdoamaa", sum := "ab63da7e1b4b927b025c240effe4d8a916bd0e580ae107785b4fce81765bee05", func := "loop.example/s16388/laws.FnExactOffsets", spec := "fnExactOffsets", unfollowed := true, recurses := true, apart := false, narrowed := true }
def FnExactOffsetsUptoSaid : Prop := fnExactOffsetsUptoRow.holds Try.pinned (OpenSpec.upto fnExactOffsetsSpec)

/-- 'laws.FnExactTranspose', WHERE WHAT IT READS IS OF BULK AT MOST 1048576: true; the input reads as it did. -/
def fnExactTransposeUptoRow : OpenClaim := { program := "ytpmdgmnpkdoamaa", sum := "ab63da7e1b4b927b025c240effe4d8a916bd0e580ae107785b4fce81765bee05", func := "loop.example/s16388/laws.FnExactTranspose", spec := "fnExactTranspose", recurses := true, apart := false, narrowed := true }
def FnExactTransposeUptoSaid : Prop := fnExactTransposeUptoRow.holds Try.pinned (OpenSpec.upto fnExactTransposeSpec)

/-- 'laws.FnExactBroadcast', WHERE WHAT IT READS IS OF BULK AT MOST 1048576: true; the input reads as it did. -/
def fnExactBroadcastUptoRow : OpenClaim := { program := "ytpmdgmnpkdoamaa", sum := "ab63da7e1b4b927b025c240effe4d8a916bd0e580ae107785b4fce81765bee05", func := "loop.example/s16388/laws.FnExactBroadcast", spec := "fnExactBroadcast", recurses := true, apart := false, narrowed := true }
def FnExactBroadcastUptoSaid : Prop := fnExactBroadcastUptoRow.holds Try.pinned (OpenSpec.upto fnExactBroadcastSpec)

/-- 'laws.FnPool', WHERE WHAT IT READS IS OF BULK AT MOST 1048576: true; the input reads as it did. -/
def fnPoolUptoRow : OpenClaim := { program := "ytpmdgmnpkdoamaa", sum := "ab63da7e1b4b927b025c240effe4d8a916bd0e580ae107785b4fce81765bee05", func := "loop.example/s16388/laws.FnPool", spec := "fnPool", inPlace := ["(*internal/sync.Mutex).Lock", "internal/race.Disable", "sync/atomic.CompareAndSwapInt32", "internal/race.Enable", "internal/race.Acquire", "(*internal/sync.Mutex).lockSlow", "internal/sync.runtime_canSpin", "internal/sync.runtime_doSpin", "internal/sync.throw", "internal/sync.runtime_nanotime", "internal/sync.runtime_SemacquireMutex", "sync/atomic.AddInt32", "(*internal/sync.Mutex).Unlock", "internal/race.ReleaseMerge", "(*internal/sync.Mutex).unlockSlow", "internal/sync.fatal", "internal/sync.runtime_Semrelease"], unfollowed := true, recurses := true, apart := false, narrowed := true }
def FnPoolUptoSaid : Prop := fnPoolUptoRow.holds Try.pinned (OpenSpec.upto fnPoolSpec)

/-- 'laws.FnExactSlice', WHERE WHAT IT READS IS OF BULK AT MOST 1048576: true; the input reads as it did. -/
def fnExactSliceUptoRow : OpenClaim := { program := "ytpmdgmnpkdoamaa", sum := "ab63da7e1b4b927b025c240effe4d8a916bd0e580ae107785b4fce81765bee05", func := "loop.example/s16388/laws.FnExactSlice", spec := "fnExactSlice", recurses := true, apart := false, narrowed := true }
def FnExactSliceUptoSaid : Prop := fnExactSliceUptoRow.holds Try.pinned (OpenSpec.upto fnExactSliceSpec)

/-- 'laws.FnExactPoolRun', WHERE WHAT IT READS IS OF BULK AT MOST 1048576: true; the input reads as it did. -/
def fnExactPoolRunUptoRow : OpenClaim := { program := "ytpmdgmnpkdoamaa", sum := "ab63da7e1b4b927b025c240effe4d8a916bd0e580ae107785b4fce81765bee05", func := "loop.example/s16388/laws.FnExactPoolRun", spec := "fnExactPoolRun", inPlace := ["(*internal/sync.Mutex).Lock", "internal/race.Disable", "sync/atomic.CompareAndSwapInt32", "internal/race.Enable", "internal/race.Acquire", "(*internal/sync.Mutex).lockSlow", "internal/sync.runtime_canSpin", "internal/sync.runtime_doSpin", "internal/sync.throw", "internal/sync.runtime_nanotime", "internal/sync.runtime_SemacquireMutex", "sync/atomic.AddInt32", "(*internal/sync.Mutex).Unlock", "internal/race.ReleaseMerge", "(*internal/sync.Mutex).unlockSlow", "internal/sync.fatal", "internal/sync.runtime_Semrelease"], unfollowed := true, recurses := true, apart := false, narrowed := true }
def FnExactPoolRunUptoSaid : Prop := fnExactPoolRunUptoRow.holds Try.pinned (OpenSpec.upto fnExactPoolRunSpec)

/-- 'laws.FnExactReshape', WHERE WHAT IT READS IS OF BULK AT MOST 1048576: true; the input reads as it did. -/
def fnExactReshapeUptoRow : OpenClaim := { program := "ytpmdgmnpkdoamaa", sum := "ab63da7e1b4b927b025c240effe4d8a916bd0e580ae107785b4fce81765bee05", func := "loop.example/s16388/laws.FnExactReshape", spec := "fnExactReshape", unfollowed := true, recurses := true, apart := false, narrowed := true }
def FnExactReshapeUptoSaid : Prop := fnExactReshapeUptoRow.holds Try.pinned (OpenSpec.upto fnExactReshapeSpec)

/-- 'laws.FnViews', WHERE WHAT IT READS IS OF BULK AT MOST 1048576: true; the input reads as it did. -/
def fnViewsUptoRow : OpenClaim := { program := "ytpmdgmnpkdoamaa", sum := "ab63da7e1b4b927b025c240effe4d8a916bd0e580ae107785b4fce81765bee05", func := "loop.example/s16388/laws.FnViews", spec := "fnViews", unfollowed := true, recurses := true, apart := false, narrowed := true }
def FnViewsUptoSaid : Prop := fnViewsUptoRow.holds Try.pinned (OpenSpec.upto fnViewsSpec)

end Rows
end Go.Proofs.Ytpmdgmnpkdoamaa
