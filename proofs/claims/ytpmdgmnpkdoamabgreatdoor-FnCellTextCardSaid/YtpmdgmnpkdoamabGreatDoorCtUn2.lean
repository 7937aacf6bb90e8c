/- Proved here: what the reference's cut and the bytes of a dtype are. Conditions: the words are of their kind. -/
import Derived.Test.YtpmdgmnpkdoamabGreatDoorCtUn1
import Derived.Test.YtpmdgmnpkdoamabGreatDoorCtVcImpl
namespace Go.Proofs.YtpmdgmnpkdoamabGreatDoor.Vc
open Go.RowKit Fl Prom
open Ieee (single double)
def bytesI (a : Int) : Int := if a = 1 ∨ a = 2 ∨ a = 3 then 1 else if a = 4 then 2 else if a = 5 ∨ a = 7 then 4 else if a = 9 then 16 else 8
theorem spec_bytes (a : Int) (w : World) : Calls Tryz.prog 210 #[.int .i64 a] w fun e w' => e = .returned (.int .i64 (bytesI a)) ∧ w = w' := by
  go_enter Tryz.func210, Tryz.ntmps210
  go_wp2
  all_goals go_ret
  all_goals refine ⟨ret_int ?_, rfl⟩
  all_goals unfold bytesI
  all_goals grind
theorem bytes_range (a : Int) : 1 ≤ bytesI a ∧ bytesI a ≤ 16 := by unfold bytesI; grind
theorem spec_bits (a : Int) (w : World) : Calls Tryz.prog 183 #[.int .i64 a] w fun e w' => e = .returned (.int .i64 (8 * bytesI a)) ∧ w = w' := by
  have B := Lib.hid (bytes_range a)
  go_enter Tryz.func183, Tryz.ntmps183
  go_wp2_with (go_at_call 210; refine (spec_bytes _ _).mono ?_; rintro e w' ⟨rfl, rfl⟩)
  all_goals go_ret
  all_goals refine ⟨ret_int ?_, rfl⟩
  have B := B.out
  generalize bytesI a = z at *
  unfold wrap64
  omega
theorem tmod_cases (n : Int) (d : Int) : 0 ≤ n ∧ n.tmod d = n % d ∨ n < 0 ∧ n.tmod d = -((-n) % d) := by
  rcases Int.lt_or_le n 0 with h | h
  · right
    refine ⟨h, ?_⟩
    have e : n.tmod d = -((-n).tmod d) := by rw [Int.neg_tmod, Int.neg_neg]
    rw [e, Int.tmod_eq_emod_of_nonneg (by omega)]
  · exact .inl ⟨h, Int.tmod_eq_emod_of_nonneg h⟩
theorem cut2 (n : Int) : cutI 2 n = (n + 128) % 256 - 128 := by simp [cutI]
theorem cut3 (n : Int) : cutI 3 n = n % 256 := by simp [cutI]
theorem cut4 (n : Int) : cutI 4 n = (n + 32768) % 65536 - 32768 := by simp [cutI]
theorem cut5 (n : Int) : cutI 5 n = (n + 2147483648) % 4294967296 - 2147483648 := by simp [cutI]
theorem cut6 (n : Int) : cutI 6 n = n := by simp [cutI]
theorem spec_cut (a n : Int) (h : a = 2 ∨ a = 3 ∨ a = 4 ∨ a = 5 ∨ a = 6) (hn : -9223372036854775808 ≤ n ∧ n ≤ 9223372036854775807) (w : World) : Calls Tryz.prog 142 #[.int .i64 a, .int .i64 n] w fun e w' => e = .returned (.int .i64 (cutI a n)) ∧ w = w' := by
  have HN := Lib.hid hn
  obtain ⟨p, hp⟩ : ∃ p, cutI a n = p := ⟨_, rfl⟩
  rw [hp]
  rcases h with rfl | rfl | rfl | rfl | rfl
  all_goals
    have P := Lib.hid hp
    clear hp hn
    go_enter Tryz.func142, Tryz.ntmps142
    go_wp2_with (first | (go_at_call 183; refine (spec_bits _ _).mono ?_; simp only [show (8 * bytesI 2 : Int) = 8 by decide, show (8 * bytesI 3 : Int) = 8 by decide, show (8 * bytesI 4 : Int) = 16 by decide, show (8 * bytesI 5 : Int) = 32 by decide, show (8 * bytesI 6 : Int) = 64 by decide]; rintro e w' ⟨rfl, rfl⟩) | (go_at_call 69; refine (spec_high _ _).mono ?_; simp only [show highI 2 = 127 by decide, show highI 3 = 255 by decide, show highI 4 = 32767 by decide, show highI 5 = 2147483647 by decide]; rintro e w' ⟨rfl, rfl⟩))
    all_goals go_ret
    all_goals refine ⟨ret_int ?_, rfl⟩
    all_goals rw [← P.out]
    all_goals have HN := HN.out
    all_goals clear P
    all_goals have T1 := tmod_cases n 256
    all_goals have T2 := tmod_cases n 65536
    all_goals have T3 := tmod_cases n 4294967296
    all_goals simp only [cut2, cut3, cut4, cut5, cut6]
    all_goals generalize n.tmod 256 = t1 at *
    all_goals generalize n.tmod 65536 = t2 at *
    all_goals generalize n.tmod 4294967296 = t3 at *
    all_goals unfold wrap64 at *
    all_goals omega
end Go.Proofs.YtpmdgmnpkdoamabGreatDoor.Vc
