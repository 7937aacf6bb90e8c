/- Proved here: small facts on whole numbers in machines' words, for the walks of floats' texts. No condition. -/
import Derived.Test.YtpmdgmnpkdoamabGreatDoorCtEx
import Derived.Test.YtpmdgmnpkdoamabGreatDoorCtVcImpl
import Derived.Test.YtpmdgmnpkdoamabGreatDoorCtUn1
import Derived.Deep.QuietTactic
import Derived.BigQuiet
import Derived.Laws.FloatBits
namespace Go.Proofs.YtpmdgmnpkdoamabGreatDoor.Fl
open Go.RowKit
theorem wrap_i64 (z : Int) : IntKind.i64.wrap z = wrap64 z := by
  have e : IntKind.i64.wrap z = if z % 18446744073709551616 ≥ 9223372036854775808 then z % 18446744073709551616 - 18446744073709551616 else z % 18446744073709551616 := by simp [IntKind.wrap, IntKind.signed, IntKind.bits]
  rw [e]
  unfold wrap64
  split <;> omega
theorem cmp_lt {n k : Int} (h : n < k) : compare n k = .lt := by simp [compare, compareOfLessAndEq, h]
theorem cmp_gt {n k : Int} (h : k < n) : compare n k = .gt := by
  have n1 : ¬ n < k := by omega
  have n2 : ¬ n = k := by omega
  simp [compare, compareOfLessAndEq, n1, n2]
theorem cmp_eq (n : Int) : compare n n = .eq := by simp [compare, compareOfLessAndEq]
theorem conv_id (i : Int) (w : World) : (convert 2 53 (.int .i64 i)).run Tryz.prog w = .ok (.float .f64 (FloatKind.f64.nearest i)) w := by
  simp [convert, run_underlying Tryz.underlying53, run_underlying Tryz.underlying2, Conv.intToFloat]
end Go.Proofs.YtpmdgmnpkdoamabGreatDoor.Fl
