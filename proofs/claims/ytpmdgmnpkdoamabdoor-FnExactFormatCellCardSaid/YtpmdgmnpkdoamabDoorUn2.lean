/- Proved here: what the reference's cut, the program's table of unary operations and math.Abs answer. Conditions: the words are of their kind. -/
import Derived.Test.YtpmdgmnpkdoamabDoorUn1
import Derived.Test.YtpmdgmnpkdoamabDoorVcImpl
namespace Go.Proofs.YtpmdgmnpkdoamabDoor.Vc
open Go.RowKit Fl Prom
open Ieee (single double)
def bytesI (a : Int) : Int := if a = 1 ∨ a = 2 ∨ a = 3 then 1 else if a = 4 then 2 else if a = 5 ∨ a = 7 then 4 else if a = 9 then 16 else 8
theorem spec_bytes (a : Int) (w : World) : Calls Tryd.prog 186 #[.int .i64 a] w fun e w' => e = .returned (.int .i64 (bytesI a)) ∧ w = w' := by
  go_enter Tryd.func186, Tryd.ntmps186
  go_wp2
  all_goals go_ret
  all_goals refine ⟨ret_int ?_, rfl⟩
  all_goals unfold bytesI
  all_goals grind
theorem bytes_range (a : Int) : 1 ≤ bytesI a ∧ bytesI a ≤ 16 := by unfold bytesI; grind
theorem spec_bits (a : Int) (w : World) : Calls Tryd.prog 151 #[.int .i64 a] w fun e w' => e = .returned (.int .i64 (8 * bytesI a)) ∧ w = w' := by
  have B := Lib.hid (bytes_range a)
  go_enter Tryd.func151, Tryd.ntmps151
  go_wp2_with (go_at_call 186; refine (spec_bytes _ _).mono ?_; rintro e w' ⟨rfl, rfl⟩)
  all_goals go_ret
  all_goals refine ⟨ret_int ?_, rfl⟩
  have B := B.out
  generalize bytesI a = z at *
  unfold wrap64
  omega
theorem tmod_cases (n : Int) (d : Int) : 0 ≤ n ∧ n.tmod d = n % d ∨ n < 0 ∧ n.tmod d = -((-n) % d) := by
  rcases Int.lt_or_le n 0 with h | h
  · right
    refine ⟨h, ?_⟩
    have e : n.tmod d = -((-n).tmod d) := by rw [Int.neg_tmod, Int.neg_neg]
    rw [e, Int.tmod_eq_emod_of_nonneg (by omega)]
  · exact .inl ⟨h, Int.tmod_eq_emod_of_nonneg h⟩
theorem cut2 (n : Int) : cutI 2 n = (n + 128) % 256 - 128 := by simp [cutI]
theorem cut3 (n : Int) : cutI 3 n = n % 256 := by simp [cutI]
theorem cut4 (n : Int) : cutI 4 n = (n + 32768) % 65536 - 32768 := by simp [cutI]
theorem cut5 (n : Int) : cutI 5 n = (n + 2147483648) % 4294967296 - 2147483648 := by simp [cutI]
theorem cut6 (n : Int) : cutI 6 n = n := by simp [cutI]
theorem spec_cut (a n : Int) (h : a = 2 ∨ a = 3 ∨ a = 4 ∨ a = 5 ∨ a = 6) (hn : -9223372036854775808 ≤ n ∧ n ≤ 9223372036854775807) (w : World) : Calls Tryd.prog 82 #[.int .i64 a, .int .i64 n] w fun e w' => e = .returned (.int .i64 (cutI a n)) ∧ w = w' := by
  have HN := Lib.hid hn
  obtain ⟨p, hp⟩ : ∃ p, cutI a n = p := ⟨_, rfl⟩
  rw [hp]
  rcases h with rfl | rfl | rfl | rfl | rfl
  all_goals
    have P := Lib.hid hp
    clear hp hn
    go_enter Tryd.func82, Tryd.ntmps82
    go_wp2_with (first | (go_at_call 151; refine (spec_bits _ _).mono ?_; simp only [show (8 * bytesI 2 : Int) = 8 by decide, show (8 * bytesI 3 : Int) = 8 by decide, show (8 * bytesI 4 : Int) = 16 by decide, show (8 * bytesI 5 : Int) = 32 by decide, show (8 * bytesI 6 : Int) = 64 by decide]; rintro e w' ⟨rfl, rfl⟩) | (go_at_call 71; refine (spec_high _ _).mono ?_; simp only [show highI 2 = 127 by decide, show highI 3 = 255 by decide, show highI 4 = 32767 by decide, show highI 5 = 2147483647 by decide]; rintro e w' ⟨rfl, rfl⟩))
    all_goals go_ret
    all_goals refine ⟨ret_int ?_, rfl⟩
    all_goals rw [← P.out]
    all_goals have HN := HN.out
    all_goals clear P
    all_goals have T1 := tmod_cases n 256
    all_goals have T2 := tmod_cases n 65536
    all_goals have T3 := tmod_cases n 4294967296
    all_goals simp only [cut2, cut3, cut4, cut5, cut6]
    all_goals generalize n.tmod 256 = t1 at *
    all_goals generalize n.tmod 65536 = t2 at *
    all_goals generalize n.tmod 4294967296 = t3 at *
    all_goals unfold wrap64 at *
    all_goals omega
theorem impl_serves (op a : Int) (w : World) (hT : Table.Holds w) : Calls Tryd.prog 83 #[.int .i64 op, .int .i64 a] w fun e w' => e = .returned (.bool (isdt a && hasU op a)) ∧ w = w' := by
  obtain ⟨p, hp⟩ : ∃ p, (isdt a && hasU op a) = p := ⟨_, rfl⟩
  rw [hp]
  have P := Lib.hid hp
  clear hp
  cases ha : isdt a with
  | false =>
    have HA := Lib.hid ha
    clear hT ha
    go_enter Tryd.func83, Tryd.ntmps83
    go_wp2_with (go_at_call 68; refine (impl_isd _ _).mono ?_; rintro e w' ⟨rfl, rfl⟩; simp only [show isdt a = false from HA.out])
    go_ret
    exact ⟨ret_bool (by rw [← P.out, HA.out]; rfl), rfl⟩
  | true =>
    obtain ⟨n, hn, rfl⟩ : ∃ n : Nat, n < 9 ∧ a = (n : Int) + 1 := ⟨(a - 1).toNat, by have := isdt_yes ha; omega, by have := isdt_yes ha; omega⟩
    obtain ⟨r0, r1, r2, r3, r4⟩ := row_of hT n hn
    clear hT
    have hz : 0 < w.heap.size := World.block_lt_of_cell? w _ r0
    have hns : ((n : Int) + 1).toNat = n + 1 := by omega
    have hlt : (n : Int) + 1 < 10 := by omega
    have B := Lib.hid (kind_bound n)
    have I1 := fun w => impl_isd ((n : Int) + 1) w
    simp only [ha] at I1
    have HA := Lib.hid ha
    clear ha
    go_enter Tryd.func83, Tryd.ntmps83
    go_wp2_with (go_at_call 68; refine (I1 _).mono ?_; rintro e w' ⟨rfl, rfl⟩)
    all_goals go_ret
    all_goals refine ⟨ret_bool ?_, rfl⟩
    all_goals rw [← P.out, HA.out, Bool.true_and]
    all_goals have B := B.out
    all_goals unfold hasU
    all_goals generalize kindI ((n : Int) + 1) = kk at *
    all_goals grind
end Go.Proofs.YtpmdgmnpkdoamabDoor.Vc
