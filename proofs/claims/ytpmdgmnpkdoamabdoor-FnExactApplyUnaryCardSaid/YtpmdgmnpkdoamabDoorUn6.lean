/- Proved here: the complement of an int64 as Go's '^' tells it. Condition: the number is an int64. -/
import Derived.Test.YtpmdgmnpkdoamabDoorUn5
namespace Go.Proofs.YtpmdgmnpkdoamabDoor.Vc
open Go.RowKit
theorem xor_ones (b : BitVec 64) : BitVec.ofInt 64 (-1) ^^^ b = ~~~b := by
  rw [show BitVec.ofInt 64 (-1) = BitVec.allOnes 64 by decide, BitVec.allOnes_xor]
theorem compl64 (i : Int) (h : -9223372036854775808 ≤ i ∧ i ≤ 9223372036854775807) : bits BinOp.xor IntKind.i64 (-1) i = -1 - i := by
  show IntKind.i64.wrap (((BitVec.ofInt 64 (-1) ^^^ BitVec.ofInt 64 i : BitVec 64).toNat : Nat) : Int) = -1 - i
  rw [xor_ones, BitVec.toNat_not, BitVec.toNat_ofInt, IntKind.wrap_i64]
  omega
end Go.Proofs.YtpmdgmnpkdoamabDoor.Vc
