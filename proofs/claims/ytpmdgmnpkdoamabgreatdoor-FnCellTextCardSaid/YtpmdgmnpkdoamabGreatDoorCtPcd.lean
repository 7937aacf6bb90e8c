/- Proved here: what impl.parseFloat answers of a finite float's text, and of no text. Conditions: the words are doubles'; the variable that bytealg reads holds a number. -/
import Derived.Test.YtpmdgmnpkdoamabGreatDoorCtPcc
namespace Go.Proofs.YtpmdgmnpkdoamabGreatDoor.Vc
open Go.RowKit Fl Prom Go.Proofs.YtpmdgmnpkdoamabGreatDoorW.PrintWords
open Ieee (double Format Datum)
set_option linter.unusedVariables false
set_option linter.unusedSimpArgs false
attribute [local go_sem] eqg_sb
set_option maxRecDepth 20000 in
set_option maxHeartbeats 8000000 in
theorem pf_fin {s : Bool} {o t x : Nat} (hx : x < 18446744073709551616) (hV : Val s (o * 2 ^ t) x) (ho : o % 2 = 1) : PF ((if s then 45 :: Lib.itoa o else Lib.itoa o) ++ 112 :: Lib.itoa ((t : Int) - 1200)) x := by
  intro w hM
  have hs := odd_small hV ho
  obtain ⟨v, hv⟩ : ∃ v, v = sg s o := ⟨_, rfl⟩
  have hb := sg_bound s (N := o) (by omega)
  have hv0 : v ≠ 0 := by
    rw [hv]
    unfold sg
    cases s <;> simp <;> omega
  rw [← hv] at hb
  have hit := sg_itoa s o (by omega)
  rw [← hit, ← hv]
  obtain ⟨e, he⟩ : ∃ e : Int, e = (t : Int) - 1200 := ⟨_, rfl⟩
  rw [← he]
  have hcut := Num.cut_one 112 (Lib.itoa v) (Lib.itoa e) (Num.itoa_no 112 (by right; decide) v)
  have l1 := Lib.itoa_length_le v (by omega) (by omega)
  have l2 := Lib.itoa_length_le e (by omega) (by omega)
  have C := Lib.hid (fun u hu => cut_run (Lib.itoa v ++ 112 :: Lib.itoa e) (by simp; omega) 112 (Lib.itoa v) (Lib.itoa e) true hcut u hu)
  have hmem : (112 : UInt8) ∈ Lib.itoa v ++ 112 :: Lib.itoa e := by simp
  have q1 := fun u => str_eq (Lib.itoa v ++ 112 :: Lib.itoa e) [110, 97, 110] false (not_const hmem (by decide)) u
  have q2 := fun u => str_eq (Lib.itoa v ++ 112 :: Lib.itoa e) [105, 110, 102] false (not_const hmem (by decide)) u
  have q3 := fun u => str_eq (Lib.itoa v ++ 112 :: Lib.itoa e) [45, 105, 110, 102] false (not_const hmem (by decide)) u
  have q4 := fun u => str_eq (Lib.itoa v ++ 112 :: Lib.itoa e) [48] false (not_const hmem (by decide)) u
  have q5 := fun u => str_eq (Lib.itoa v ++ 112 :: Lib.itoa e) [45, 48] false (not_const hmem (by decide)) u
  have I1 := Lib.hid (int_any v (by omega) (by omega))
  have I2 := Lib.hid (int_any e (by omega) (by omega))
  obtain ⟨A, hA⟩ : ∃ A, A = Lib.itoa v := ⟨_, rfl⟩
  obtain ⟨B, hB⟩ : ∃ B, B = Lib.itoa e := ⟨_, rfl⟩
  obtain ⟨L, hL⟩ : ∃ L, L = A ++ 112 :: B := ⟨_, rfl⟩
  rw [← hA] at C q1 q2 q3 q4 q5 I1 ⊢
  rw [← hB] at C q1 q2 q3 q4 q5 I2 ⊢
  rw [← hL] at C q1 q2 q3 q4 q5 ⊢
  have b0 : (v == 0) = false := beq_eq_false_iff_ne.mpr hv0
  have b1 : ¬ 9007199254740992 < v := by omega
  have b2 : ¬ v < -9007199254740992 := by omega
  have b3 : ¬ e < -1100 := by omega
  have b4 : ¬ 1100 < e := by omega
  have hcf := conv_id v
  have HM := Lib.hid hM
  obtain ⟨p, hp⟩ : ∃ p : Nat, p = 1200 := ⟨_, rfl⟩
  have hsv := val_sint s hp hs.1 (by omega)
  rw [← hv] at hsv
  have hn := near64 v
  obtain ⟨y0, hy0⟩ : ∃ y0, y0 = FloatKind.f64.nearest v := ⟨_, rfl⟩
  rw [← hy0] at hsv hn hcf
  have ST := Lib.hid (And.intro hV (And.intro ho (And.intro hs (And.intro he (And.intro hx (And.intro hsv (And.intro hp hn)))))))
  have hA0 := Nat.mul_ne_zero (show o ≠ 0 by omega) (show 2 ^ t ≠ 0 by have := Nat.two_pow_pos t; omega)
  have HA := Lib.hid hA0
  clear hp hn hy0 hA0 hM hV ho hs hv hb hv0 hit he hcut l1 l2 hmem hA hB hL hx hsv
  go_enter Tryz.func73, Tryz.ntmps73
  go_wp2_with fail
  refine (C.out _ HM.out).mono ?_
  rintro e1 w1 ⟨rfl, hb1⟩
  have B1 := Lib.hid hb1
  clear hb1
  go_wp2_with fail
  refine (I1.out _).mono ?_
  rintro e1 w2 ⟨rfl, hb2⟩
  have B2 := Lib.hid (B1.out.trans (hb2.mono B1.out.size))
  clear hb2
  go_wp2_with fail
  refine (I2.out _).mono ?_
  rintro e1 w3 ⟨rfl, hb3⟩
  have B3 := Lib.hid (B2.out.trans (hb3.mono B2.out.size))
  clear hb3
  go_wp2
  clear C I1 I2 B1 B2 q1 q2 q3 q4 q5 b0 b1 b2 b3 b4 hcf
  go_loopg [9, 11] (t - p) (fun kq v9 v11 wr => ∃ c y : Nat, v9 = .int .i64 ((t : Int) - c) ∧ v11 = .float .f64 y ∧ w3 = wr ∧ Aside0 (Val s (o * 2 ^ c) y ∧ y < 18446744073709551616 ∧ p ≤ c ∧ (c ≤ t ∨ c = p) ∧ kq = t - c))
  case atStart => exact ⟨p, y0, by (have h1 := ST.out; congr 1; omega), rfl, rfl, ⟨ST.out.2.2.2.2.2.1, ST.out.2.2.2.2.2.2.2, Nat.le_refl _, .inr rfl, rfl⟩⟩
  case round =>
    obtain ⟨c, y, rfl, rfl, rfl, hR⟩ := hrel
    rcases Nat.lt_or_ge c t with hlt | hge
    · have c1 : (0 : Int) < (t : Int) - c := by omega
      obtain ⟨z, hz, hv⟩ := val_dbl hR.out.1 ST.out.1 (by have := ST.out.2.1; omega) hlt
      have hmul := mul_run hz
      have HZ := Lib.hid (And.intro hv (Ieee.Format.mul_lt double hz))
      have HL := Lib.hid hlt
      clear hz hv hlt
      go_wp2
      go_roundg (t - (c + 1))
      case measure => (have := hR.out; have := HL.out; omega)
      case rel => exact ⟨c + 1, z, by (have h1 := hR.out; have h2 := HL.out; have h3 := ST.out.2.2.1; have h4 := ST.out.2.2.2.2.2.2.1; congr 1; unfold wrap64; omega), rfl, rfl, ⟨HZ.out.1, HZ.out.2, by have := hR.out; omega, by have := HL.out; omega, rfl⟩⟩
    · have c1 : ¬ (0 : Int) < (t : Int) - c := by omega
      have HG := Lib.hid hge
      clear hge
      go_wp2
      clear c1
      go_loopg [9, 11] (c - t) (fun kq v9 v11 wr => ∃ c2 y2 : Nat, v9 = .int .i64 ((t : Int) - c2) ∧ v11 = .float .f64 y2 ∧ w3 = wr ∧ Aside0 (Val s (o * 2 ^ c2) y2 ∧ y2 < 18446744073709551616 ∧ t ≤ c2 ∧ c2 ≤ c ∧ kq = c2 - t))
      case atStart => exact ⟨c, y, rfl, rfl, rfl, ⟨hR.out.1, hR.out.2.1, HG.out, Nat.le_refl _, rfl⟩⟩
      case round =>
        obtain ⟨c2, y2, rfl, rfl, rfl, hQ⟩ := hrel
        rcases Nat.lt_or_ge t c2 with hlt | hge
        · have c3 : (t : Int) - c2 < 0 := by omega
          obtain ⟨z, hz, hv⟩ := val_half hQ.out.1 ST.out.2.1 (by have := ST.out.2.2.1; omega)
          have hdiv := div_run hz
          have HZ := Lib.hid (And.intro hv (Ieee.Format.div_lt double hz))
          have HL := Lib.hid hlt
          clear hz hv hlt
          go_wp2
          go_roundg (c2 - 1 - t)
          case measure => (have := hQ.out; have := HL.out; omega)
          case rel => exact ⟨c2 - 1, z, by (have h0 := hR.out; have h1 := hQ.out; have h2 := HL.out; have h3 := ST.out.2.2.1; have h4 := ST.out.2.2.2.2.2.2.1; congr 1; unfold wrap64; omega), rfl, rfl, ⟨HZ.out.1, HZ.out.2, by have := HL.out; omega, by have := hQ.out; omega, rfl⟩⟩
        · have hct : c2 = t := by have := hQ.out; omega
          subst hct
          obtain rfl := val_inj ST.out.2.2.2.2.1 hQ.out.2.1 HA.out ST.out.1 hQ.out.1
          clear hge
          go_wp2
          exact bodyPost_ret (v := .tuple #[.float .f64 x, .bool true]) (by simp [results, go_sem]) rfl ⟨rfl, B3.out⟩
theorem int_run_nil (w : World) : Calls Tryz.prog 76 #[SB []] w fun e w' => e = .returned (.tuple #[.int .i64 0, .bool false]) ∧ Below w.heap.size w w' := int_nil w
theorem pf_empty (w : World) (hM : MLen w) : Calls Tryz.prog 73 #[SB []] w fun e w' => e = .returned (.tuple #[.float .f64 0, .bool false]) ∧ Below w.heap.size w w' := by
  have q1 := fun u => str_eq [] [110, 97, 110] false (by decide) u
  have q2 := fun u => str_eq [] [105, 110, 102] false (by decide) u
  have q3 := fun u => str_eq [] [45, 105, 110, 102] false (by decide) u
  have q4 := fun u => str_eq [] [48] false (by decide) u
  have q5 := fun u => str_eq [] [45, 48] false (by decide) u
  have C := Lib.hid (fun u hu => cut_run [] (by simp) 112 [] [] false (Num.cut_nil 112) u hu)
  have HM := Lib.hid hM
  clear hM
  go_enter Tryz.func73, Tryz.ntmps73
  go_wp2_with fail
  refine (C.out _ HM.out).mono ?_
  rintro e1 w1 ⟨rfl, hb1⟩
  have B1 := Lib.hid hb1
  clear hb1
  go_wp2_with fail
  refine (int_run_nil _).mono ?_
  rintro e1 w2 ⟨rfl, hb2⟩
  have B2 := Lib.hid (B1.out.trans (hb2.mono B1.out.size))
  clear hb2
  go_wp2_with fail
  refine (int_run_nil _).mono ?_
  rintro e1 w3 ⟨rfl, hb3⟩
  have B3 := Lib.hid (B2.out.trans (hb3.mono B2.out.size))
  clear hb3
  go_wp2
  exact bodyPost_ret (v := .tuple #[.float .f64 0, .bool false]) (by simp [results, go_sem]) rfl ⟨rfl, B3.out⟩
end Go.Proofs.YtpmdgmnpkdoamabGreatDoor.Vc
