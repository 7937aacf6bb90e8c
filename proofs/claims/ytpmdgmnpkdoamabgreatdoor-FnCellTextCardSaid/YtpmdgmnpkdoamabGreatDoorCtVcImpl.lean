/- Proved here: what impl.ValidCell answers where the table of dtypes holds what the program lays in it. Conditions: the words are of their kind. -/
import Derived.Test.YtpmdgmnpkdoamabGreatDoorCtVcSpec
namespace Go.Proofs.YtpmdgmnpkdoamabGreatDoor.Vc
open Go.RowKit Fl Prom
open Ieee (single double)
/-- A row of the table, as the walk reads it. -/
theorem row_of {w : World} (h : Table.Holds w) (n : Nat) (hn : n < 9) :
    w.cell? ⟨0, (n + 1) * 5, none⟩ = some (.int .i64 (kindI ((n : Int) + 1))) ∧ w.cell? ⟨0, (n + 1) * 5 + 1, none⟩ = some (.int .i64 (Table.tabAt (n + 1) 1)) ∧ w.cell? ⟨0, (n + 1) * 5 + 2, none⟩ = some (.int .i64 (Table.tabAt (n + 1) 2)) ∧
    w.cell? ⟨0, (n + 1) * 5 + 3, none⟩ = some (.int .i64 (Table.tabAt (n + 1) 3)) ∧ w.cell? ⟨0, (n + 1) * 5 + 4, none⟩ = some (.int .i64 (Table.tabAt (n + 1) 4)) :=
  ⟨kinds_of h n hn, h (n + 1) 1 (by omega) (by omega), h (n + 1) 2 (by omega) (by omega), h (n + 1) 3 (by omega) (by omega), h (n + 1) 4 (by omega) (by omega)⟩
theorem kind_bound (n : Nat) : 0 ≤ kindI ((n : Int) + 1) ∧ kindI ((n : Int) + 1) ≤ 3 := by unfold kindI; grind
theorem low_high (n : Nat) (hn : n < 9) (hk : kindI ((n : Int) + 1) < 2) : lowI ((n : Int) + 1) = Table.tabAt (n + 1) 3 ∧ highI ((n : Int) + 1) = Table.tabAt (n + 1) 4 := by
  have : n = 0 ∨ n = 1 ∨ n = 2 ∨ n = 3 ∨ n = 4 ∨ n = 5 ∨ n = 6 ∨ n = 7 ∨ n = 8 := by omega
  rcases this with rfl | rfl | rfl | rfl | rfl | rfl | rfl | rfl | rfl <;> first | decide | (exfalso; revert hk; decide)
set_option maxHeartbeats 4000000 in
theorem impl_vcell (a i : Int) (f g : Nat) (hf : f < 18446744073709551616) (hg : g < 18446744073709551616) (w : World) (hT : Table.Holds w) :
    Calls Tryz.prog 63 #[.int .i64 a, .agg #[.int .i64 i, .float .f64 f, .float .f64 g]] w fun e w' => e = .returned (.bool (vcell a i f g)) ∧ Below w.heap.size w w' := by
  have hno := Lib.hid (@vcell_no a i f g)
  have FG := Lib.hid (And.intro hf hg)
  clear hf hg
  cases ha : isdt a with
  | false =>
    generalize vcell a i f g = p at hno ⊢
    have P1 := Lib.hid (hno.out ha)
    clear hT
    go_enter Tryz.func63, Tryz.ntmps63
    go_wp2_with (go_at_call 72; refine (impl_isd _ _).mono ?_; rintro e w' ⟨rfl, rfl⟩)
    go_ret
    exact ⟨ret_bool P1.out.symm, (Below.refl _ _).alloc (Nat.le_refl _) _⟩
  | true =>
    obtain ⟨n, hn, rfl⟩ : ∃ n : Nat, n < 9 ∧ a = (n : Int) + 1 := ⟨(a - 1).toNat, by have := isdt_yes ha; omega, by have := isdt_yes ha; omega⟩
    have hint := Lib.hid (@vcell_int ((n : Int) + 1) i f g ha)
    have hfl := Lib.hid (@vcell_float ((n : Int) + 1) i f g ha)
    have hcx := Lib.hid (@vcell_cplx ((n : Int) + 1) i f g ha)
    generalize vcell ((n : Int) + 1) i f g = p at hno hint hfl hcx ⊢
    obtain ⟨r0, r1, r2, r3, r4⟩ := row_of hT n hn
    clear hT hno
    have hz : 0 < w.heap.size := World.block_lt_of_cell? w _ r0
    have hz1 : ¬ 0 = w.heap.size := by omega
    have hns : ((n : Int) + 1).toNat = n + 1 := by omega
    have hlt : (n : Int) + 1 < 10 := by omega
    by_cases h3 : kindI ((n : Int) + 1) = 3
    · have P1 := Lib.hid (hcx.out (by omega) (by omega))
      have k3 : (kindI ((n : Int) + 1) == 3) = true := by rw [h3]; rfl
      clear hint hfl hcx h3
      go_enter Tryz.func63, Tryz.ntmps63
      go_wp2_with (go_at_call 72; refine (impl_isd _ _).mono ?_; rintro e w' ⟨rfl, rfl⟩)
      go_ret
      refine ⟨ret_bool ?_, ?_⟩
      · rw [P1.out]; by_cases h : i = 0 <;> simp [h]
      · repeat (first | exact Below.refl _ _ | apply below_drewN | apply Below.drew | (refine Below.setCell ?_ (by simp) _) | (refine Below.alloc ?_ (by simp) _))
    · have k3 : (kindI ((n : Int) + 1) == 3) = false := by simpa using h3
      by_cases h2 : kindI ((n : Int) + 1) = 2
      · have P1 := Lib.hid (hfl.out (by omega) h2)
        have k2 : (kindI ((n : Int) + 1) == 2) = true := by rw [h2]; rfl
        clear hint hfl hcx h3 h2
        have I0 := Lib.hid (show decide (i = 0) = (i == 0) by by_cases h : i = 0 <;> simp [h])
        have A0 := Lib.hid (show decide ((n : Int) + 1 = 8) = ((n : Int) + 1 == 8) by by_cases h : (n : Int) + 1 = 8 <;> simp [h])
        cases hnan : (FloatKind.f64.format.order f f == some Ordering.eq)
        · have F1 := Lib.hid (show f32ok f = true by unfold f32ok fnan; rw [show (double.order f f != some .eq) = true by rw [bne]; exact congrArg (! ·) hnan]; rfl)
          have hne : (FloatKind.f64.format.order f f != some Ordering.eq) = true := by rw [bne]; exact congrArg (! ·) hnan
          have hno' : ¬ FloatKind.f64.format.order f f = some Ordering.eq := by simpa using hnan
          cases c1 : (i == 0) <;> cases c2 : decide (g = 0) <;> cases c3 : ((n : Int) + 1 == 8)
          all_goals
            have C := Lib.hid (And.intro c1 (And.intro c2 c3))
            go_enter Tryz.func63, Tryz.ntmps63
            go_wp2_with (first | (go_at_call 72; refine (impl_isd _ _).mono ?_; rintro e w' ⟨rfl, rfl⟩) | (go_at_call 120; refine (plus_zero g FG.out.2 _).mono ?_; rintro e w' ⟨rfl, rfl⟩))
            go_ret
            refine ⟨ret_bool ?_, ?_⟩
            · rw [P1.out, I0.out, A0.out, F1.out, C.out.1, C.out.2.1, C.out.2.2]; rfl
            · repeat (first | exact Below.refl _ _ | apply below_drewN | apply Below.drew | (refine Below.setCell ?_ (by simp) _) | (refine Below.alloc ?_ (by simp) _))
        · obtain ⟨t, m1, y, m2, h1, h2, ht⟩ := through_run f FG.out.1 ((w.alloc (.cells #[.int .i64 i, .float .f64 f, .float .f64 g] 55)).alloc (.cells #[.int .i64 (kindI ((n : Int) + 1)), .int .i64 (Table.tabAt (n + 1) 1), .int .i64 (Table.tabAt (n + 1) 2), .int .i64 (Table.tabAt (n + 1) 3), .int .i64 (Table.tabAt (n + 1) 4)] 114))
          have hne : (FloatKind.f64.format.order f f != some Ordering.eq) = false := by rw [bne]; exact congrArg (! ·) hnan
          have hyes : FloatKind.f64.format.order f f = some Ordering.eq := by simpa using hnan
          have F1 := Lib.hid (show f32ok f = (FloatKind.f64.format.order y f == some Ordering.eq) by
            rw [← through_feq ht]
            have : fnan f = false := hne
            rw [this, Bool.false_or]; rfl)
          clear ht
          cases c1 : (i == 0) <;> cases c2 : decide (g = 0) <;> cases c3 : ((n : Int) + 1 == 8) <;> cases c4 : (FloatKind.f64.format.order y f == some Ordering.eq)
          all_goals
            have C := Lib.hid (And.intro c1 (And.intro c2 (And.intro c3 c4)))
            go_enter Tryz.func63, Tryz.ntmps63
            go_wp2_with (first | (go_at_call 72; refine (impl_isd _ _).mono ?_; rintro e w' ⟨rfl, rfl⟩) | (go_at_call 120; refine (plus_zero g FG.out.2 _).mono ?_; rintro e w' ⟨rfl, rfl⟩))
            go_ret
            refine ⟨ret_bool ?_, ?_⟩
            · rw [P1.out, I0.out, A0.out, F1.out, C.out.1, C.out.2.1, C.out.2.2.1, C.out.2.2.2]; rfl
            · repeat (first | exact Below.refl _ _ | apply below_drewN | apply Below.drew | (refine Below.setCell ?_ (by simp) _) | (refine Below.alloc ?_ (by simp) _))
      · have hk2 : kindI ((n : Int) + 1) < 2 := by have := kind_bound n; omega
        have P1 := Lib.hid (hint.out hk2)
        obtain ⟨l1, l2⟩ := low_high n hn hk2
        have k2 : (kindI ((n : Int) + 1) == 2) = false := by simpa using h2
        have L := Lib.hid (And.intro l1 l2)
        clear hint hfl hcx h3 h2 l1 l2 hk2
        cases c1 : decide (f = 0) <;> cases c2 : decide (g = 0) <;> cases c3 : decide (Table.tabAt (n + 1) 3 ≤ i) <;> cases c4 : decide (i ≤ Table.tabAt (n + 1) 4)
        all_goals
          have C := Lib.hid (And.intro c1 (And.intro c2 (And.intro c3 c4)))
          go_enter Tryz.func63, Tryz.ntmps63
          go_wp2_with (first | (go_at_call 72; refine (impl_isd _ _).mono ?_; rintro e w' ⟨rfl, rfl⟩) | (go_at_call_of 120 f; refine (plus_zero f FG.out.1 _).mono ?_; rintro e w' ⟨rfl, rfl⟩) | (go_at_call_of 120 g; refine (plus_zero g FG.out.2 _).mono ?_; rintro e w' ⟨rfl, rfl⟩))
          go_ret
          refine ⟨ret_bool ?_, ?_⟩
          · rw [P1.out, L.out.1, L.out.2, C.out.1, C.out.2.1, C.out.2.2.1, C.out.2.2.2]; rfl
          · repeat (first | exact Below.refl _ _ | apply below_drewN | apply Below.drew | (refine Below.setCell ?_ (by simp) _) | (refine Below.alloc ?_ (by simp) _))
end Go.Proofs.YtpmdgmnpkdoamabGreatDoor.Vc
