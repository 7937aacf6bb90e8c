/- Proved here: slices.Min and slices.DeleteFunc at lists of whole numbers are those that the kit's contracts were proved of. No condition. -/
import Derived.Test.YtpmdgmnpkdoamaaProg
import Derived.Shelf.SlicesE.DeleteFunc
import Derived.Shelf.Slices.Turned
import Derived.KernelRfl
namespace Go.Proofs.Ytpmdgmnpkdoamaa.Pl
open Go Go.Shelf
/-- The numbers of the shelf's functions and types here. -/
def rho : Ren := ⟨fun n => if n = 114 then 116 else if n = 6 then 122 else if n = 10 then 117 else n, fun n => if n = 28 then 140 else if n = 22 then 140 else if n = 23 then 3 else if n = 25 then 145 else n, fun n => n⟩
theorem layMin : Lays.n114 Try.prog rho where
  mixed := by kernel_rfl
  f114 := by kernel_rfl
  t0 := Try.underlying0
  a0 := fun w => Try.isAgg0 w
  z0 := fun w => Try.sizeOf0 w
  v0 := fun w => Try.zeroValue0 w
  t3 := Try.underlying3
  a3 := fun w => Try.isAgg3 w
  z3 := fun w => Try.sizeOf3 w
  v3 := fun w => Try.zeroValue3 w
  t4 := Try.underlying4
  a4 := fun w => Try.isAgg4 w
  z4 := fun w => Try.sizeOf4 w
  v4 := fun w => Try.zeroValue4 w
  t9 := Try.underlying9
  a9 := fun w => Try.isAgg9 w
  z9 := fun w => Try.sizeOf9 w
  v9 := fun w => Try.zeroValue9 w
  t20 := Try.underlying20
  a20 := fun w => Try.isAgg20 w
  z20 := fun w => Try.sizeOf20 w
  v20 := fun w => Try.zeroValue20 w
  t28 := Try.underlying140
  a28 := fun w => Try.isAgg140 w
  z28 := fun w => Try.sizeOf140 w
  v28 := fun w => Try.zeroValue140 w
theorem layDel : SlLaysH.n10 Try.prog rho where
  mixed := by kernel_rfl
  f6 := ⟨Try.f122.name, by kernel_rfl, by kernel_rfl⟩
  f10 := ⟨Try.f117.name, by kernel_rfl, by kernel_rfl⟩
  t0 := Try.underlying0
  a0 := fun w => Try.isAgg0 w
  z0 := fun w => Try.sizeOf0 w
  v0 := fun w => Try.zeroValue0 w
  t3 := Try.underlying3
  a3 := fun w => Try.isAgg3 w
  z3 := fun w => Try.sizeOf3 w
  v3 := fun w => Try.zeroValue3 w
  t4 := Try.underlying4
  a4 := fun w => Try.isAgg4 w
  z4 := fun w => Try.sizeOf4 w
  v4 := fun w => Try.zeroValue4 w
  t22 := Try.underlying140
  a22 := fun w => Try.isAgg140 w
  z22 := fun w => Try.sizeOf140 w
  v22 := fun w => Try.zeroValue140 w
  a23 := fun w => Try.isAgg3 w
  z23 := fun w => Try.sizeOf3 w
  t25 := Try.underlying145
  a25 := fun w => Try.isAgg145 w
  z25 := fun w => Try.sizeOf145 w
  v25 := fun w => Try.zeroValue145 w
end Go.Proofs.Ytpmdgmnpkdoamaa.Pl
