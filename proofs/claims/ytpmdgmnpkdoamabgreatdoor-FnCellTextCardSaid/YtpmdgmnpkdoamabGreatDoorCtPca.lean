/- Proved here: what impl.integer answers of a numeral and of no text, and the library's functions that it calls. Condition: the number is an int64. -/
import Derived.Test.YtpmdgmnpkdoamabGreatDoorCtFck
import Derived.Test.YtpmdgmnpkdoamabGreatDoorCtNum
namespace Go.Proofs.YtpmdgmnpkdoamabGreatDoor.Vc
open Go.RowKit Fl Prom Go.Shelf Go.Proofs.YtpmdgmnpkdoamabGreatDoorW.PrintWords
set_option linter.unusedVariables false
set_option linter.unusedSimpArgs false
theorem str_eq (a c : List UInt8) (b : Bool) (h : (a == c) = b) (w : World) : (binOp .eql 9 (SB a) (.string ⟨c.toArray⟩)).run Tryz.prog w = .ok (.bool b) w := by
  unfold SB
  rw [binOp_string_eql, ByteArray.toList_mk, ByteArray.toList_mk, h]
  rfl
theorem str_ne (a c : List UInt8) (b : Bool) (h : (a == c) = !b) (w : World) : (binOp .neq 9 (SB a) (.string ⟨c.toArray⟩)).run Tryz.prog w = .ok (.bool b) w := by
  unfold SB
  rw [binOp_string_neq, ByteArray.toList_mk, ByteArray.toList_mk, h, Bool.not_not]
  rfl
theorem eqg_sb (op : BinOp) (t : TypeId) (x y : Operand) (l : List UInt8) (s : ByteArray) : eqGuard op t x y (SB l) (.string s) = pure () := by
  unfold SB
  cases op <;> rfl
attribute [local go_sem] eqg_sb
theorem str_at (c : UInt8) (r : List UInt8) (w : World) : (Instr.index 9 (SB (c :: r)) (.int .i64 0)).run Tryz.prog w = .ok (.int .u8 (c.toNat : Int)) w := by
  have h := run_index_string (P := Tryz.prog) (w := w) 9 ⟨(c :: r).toArray⟩ .i64 0 Tryz.underlying9
  rw [dif_pos (by simp [ByteArray.size])] at h
  exact h
theorem prefix_run (s : List UInt8) (w : World) : Calls Tryz.prog 133 #[SB s, .string ⟨#[45]⟩] w fun e w' => e = .returned (SB (Lib.trimPrefix s [45])) ∧ w = w' := by
  have h := Any.strings_TrimPrefix lay101 ⟨s.toArray⟩ ⟨#[45]⟩ w
  rw [show rho.f 101 = 133 by kernel_rfl] at h
  exact h.mono (fun e w' h => ⟨h.1, h.2.symm⟩)
theorem trim_run (s : List UInt8) (hs : s.length ≤ 1000) (w : World) : Calls Tryz.prog 134 #[SB s, .string ⟨#[48, 49, 50, 51, 52, 53, 54, 55, 56, 57]⟩] w fun e w' => e = .returned (SB (Lib.trimS s Num.DG)) ∧ Below w.heap.size w w' := by
  have h := Any.strings_Trim_laid lay160 (by kernel_rfl) ⟨s.toArray⟩ ⟨#[48, 49, 50, 51, 52, 53, 54, 55, 56, 57]⟩ w (by simp [ByteArray.size]; omega) (by decide) (ascii_of_all (by decide))
  rw [show rho.f 160 = 134 by kernel_rfl] at h
  exact h
theorem parse_run (s : List UInt8) (hs : s.length ≤ 1000) (v : Int) (hv : Lib.parseIntB 64 s = .ok v) (w : World) : Calls Tryz.prog 135 #[SB s, .int .i64 10, .int .i64 64] w fun e w' => e = .returned (.tuple #[.int .i64 v, .nilIface]) ∧ Below w.heap.size w w' := by
  have h := Any.strconv_ParseInt_10_at64_ok lay174 ⟨s.toArray⟩ (by simp [ByteArray.size]; omega) v hv w
  rw [show rho.f 174 = 135 by kernel_rfl] at h
  refine h.mono ?_
  rintro e w' ⟨h1, rfl | ⟨t, rfl⟩⟩
  · exact ⟨h1, Below.refl _ _⟩
  · exact ⟨h1, Lib.bytesWorld_below _ _ _⟩
/-- The variable internal/bytealg.MaxLen holds some number. -/
def MLen (w : World) : Prop := ∃ m : Int, w.cell? ⟨3, 0, none⟩ = some (.int .i64 m)
theorem mlen_below {w w' : World} (h : MLen w) (hb : Below w.heap.size w w') : MLen w' := by
  obtain ⟨m, h⟩ := h
  exact ⟨m, (hb.cell (p := ⟨3, 0, none⟩) (World.block_lt_of_cell? w _ h)).trans h⟩
theorem cut_run (s : List UInt8) (hs : s.length ≤ 1000) (c : UInt8) (a b : List UInt8) (ok : Bool) (hc : Lib.cut s [c] = (a, b, ok)) (w : World) (hm : MLen w) :
    Calls Tryz.prog 75 #[SB s, .string ⟨#[c]⟩] w fun e w' => e = .returned (.tuple #[SB a, SB b, .bool ok]) ∧ Below w.heap.size w w' := by
  obtain ⟨m, hm⟩ := hm
  have h := Any.strings_Cut { lay145 with } ⟨s.toArray⟩ ⟨#[c]⟩ m w (by simp [ByteArray.size]; omega) (by rw [show rho.g 1 = 3 by kernel_rfl]; exact hm)
  rw [show rho.f 145 = 75 by kernel_rfl] at h
  refine h.mono ?_
  rintro e w' ⟨rfl, n, rfl⟩
  refine ⟨?_, below_drewN (Below.refl _ _) n⟩
  rw [show Lib.cut (⟨s.toArray⟩ : ByteArray).data.toList (⟨#[c]⟩ : ByteArray).data.toList = (a, b, ok) from hc]
  rfl
/-- What impl.integer answers of a text. -/
def INT (l : List UInt8) (n : Int) (ok : Bool) : Prop := ∀ w, Calls Tryz.prog 76 #[SB l] w fun e w' => e = .returned (.tuple #[.int .i64 n, .bool ok]) ∧ Below w.heap.size w w'
theorem int_nil : INT [] 0 false := by
  intro w
  have q1 := fun u => str_eq [] [48] false (by decide) u
  have q2 := fun u => str_eq [] [] true (by decide) u
  have P := Lib.hid (fun u => prefix_run [] u)
  rw [show Lib.trimPrefix [] [45] = [] by decide] at P
  go_enter Tryz.func76, Tryz.ntmps76
  go_wp2_with (go_at_call 133; refine (P.out _).mono ?_; rintro e w' ⟨rfl, rfl⟩)
  exact bodyPost_ret (v := .tuple #[.int .i64 0, .bool false]) (by simp [results, go_sem]) rfl ⟨rfl, Below.refl _ _⟩
theorem int_zero : INT [48] 0 true := by
  intro w
  have q1 := fun u => str_eq [48] [48] true (by decide) u
  go_enter Tryz.func76, Tryz.ntmps76
  go_wp2
  exact bodyPost_ret (v := .tuple #[.int .i64 0, .bool true]) (by simp [results, go_sem]) rfl ⟨rfl, Below.refl _ _⟩
set_option maxRecDepth 20000 in
theorem int_num (n : Int) (h0 : -9223372036854775808 ≤ n) (h1 : n ≤ 9223372036854775807) (hz : n ≠ 0) : INT (Lib.itoa n) n true := by
  intro w
  have hl := Lib.itoa_length_le n h0 h1
  obtain ⟨c, r, hd, c1, c2⟩ := Num.digits_head n.natAbs (by omega)
  have htrim := Num.trim_digits n.natAbs
  have P := Lib.hid (fun u => prefix_run (Lib.itoa n) u)
  rw [Num.prefix_itoa n hz, hd] at P
  have hlen : (c :: r).length ≤ 1000 := by
    rw [← hd]
    have : (Lib.decDigits n.natAbs).length ≤ (Lib.itoa n).length := by
      unfold Lib.itoa
      split
      · simp
      · rw [show n.toNat = n.natAbs by omega]; exact Nat.le_refl _
    omega
  have T := Lib.hid (fun u => trim_run (c :: r) hlen u)
  rw [← hd, htrim] at T
  rw [hd] at T
  have I := Lib.hid (fun u => parse_run (Lib.itoa n) (by omega) n (Num.parse_itoa n h0 h1 hz) u)
  have hne : (Lib.itoa n == [48]) = false := by
    rw [beq_eq_false_iff_ne]
    intro e
    have e2 : Lib.trimPrefix (Lib.itoa n) [45] = [48] := by rw [e]; decide
    rw [Num.prefix_itoa n hz, hd] at e2
    injection e2 with e3 _
    rw [e3] at c1
    exact absurd c1 (by decide)
  have q1 := fun u => str_eq (Lib.itoa n) [48] false hne u
  have q2 := fun u => str_eq (c :: r) [] false (by simp) u
  have q3 := str_at c r
  have q4 := fun u => str_ne [] [] false (by decide) u
  obtain ⟨x, hx⟩ : ∃ x : Int, x = (c.toNat : Int) := ⟨_, rfl⟩
  rw [← hx] at q3
  have b1 : ¬ x < 49 := by omega
  have b2 : ¬ 57 < x := by omega
  obtain ⟨D, hD⟩ : ∃ D, D = c :: r := ⟨_, rfl⟩
  rw [← hD] at q2 q3 P T
  obtain ⟨L, hL⟩ : ∃ L, L = Lib.itoa n := ⟨_, rfl⟩
  rw [← hL] at q1 I P ⊢
  clear hL hD hx hne hlen htrim hl h0 h1 hz hd c1 c2
  go_enter Tryz.func76, Tryz.ntmps76
  go_wp2_with (first | (go_at_call 133; refine (P.out _).mono ?_; rintro e w' ⟨rfl, rfl⟩) | (go_at_call 134; refine (T.out _).mono ?_; rintro e w1 ⟨rfl, hb1⟩; have B1 := Lib.hid hb1; clear hb1) | (go_at_call 135; refine (I.out _).mono ?_; rintro e w2 ⟨rfl, hb2⟩; have B2 := Lib.hid hb2; clear hb2))
  repeat (go_quiet (fail); try go_wp2)
  exact bodyPost_ret (v := .tuple #[.int .i64 n, .bool true]) (by simp [results, go_sem]) rfl ⟨rfl, below_drewN (B1.out.trans (B2.out.mono B1.out.size)) _⟩
end Go.Proofs.YtpmdgmnpkdoamabGreatDoor.Vc
