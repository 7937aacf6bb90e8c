/- Proved here: what spec.Before and impl.Before answer, where the table of dtypes holds what the program lays in it. Conditions: the words are of their kind. -/
import Derived.Test.YtpmdgmnpkdoamabDoorBef
import Derived.Test.YtpmdgmnpkdoamabDoorValidCell
namespace Go.Proofs.YtpmdgmnpkdoamabDoor.Vc
open Go.RowKit Fl Prom
open Ieee (single double)
set_option maxHeartbeats 4000000 in
theorem impl_bef (n : Nat) (hn : n < 9) (i : Int) (f g : Nat) (i' : Int) (f' g' : Nat) (hf : f < 18446744073709551616) (hg : g < 18446744073709551616) (hf' : f' < 18446744073709551616) (hg' : g' < 18446744073709551616) (w : World) (hT : Table.Holds w) :
    Calls Tryd.prog 76 #[.int .i64 ((n : Int) + 1), .agg #[.int .i64 i, .float .f64 f, .float .f64 g], .agg #[.int .i64 i', .float .f64 f', .float .f64 g']] w fun e w' => e = .returned (.bool (bef ((n : Int) + 1) i f g i' f' g')) ∧ Below w.heap.size w w' := by
  obtain ⟨p, hp⟩ : ∃ p, bef ((n : Int) + 1) i f g i' f' g' = p := ⟨_, rfl⟩
  rw [hp]
  have P := Lib.hid hp
  clear hp
  obtain ⟨r0, r1, r2, r3, r4⟩ := row_of hT n hn
  clear hT
  have hz : 0 < w.heap.size := World.block_lt_of_cell? w _ r0
  have hz1 : ¬ 0 = w.heap.size := by omega
  have hns : ((n : Int) + 1).toNat = n + 1 := by omega
  have hlt : (n : Int) + 1 < 10 := by omega
  have B := Lib.hid (kind_bound n)
  by_cases h3 : kindI ((n : Int) + 1) = 3
  · have k3 : (kindI ((n : Int) + 1) == 3) = true := by rw [h3]; rfl
    have k2 : (kindI ((n : Int) + 1) == 2) = false := by rw [h3]; rfl
    have K := Lib.hid h3
    clear h3
    cases c1 : fbef f f' <;> cases c2 : fbef f' f
    all_goals
      have C := Lib.hid (And.intro c1 c2)
      have X1 := fun w => impl_fbef f f' hf hf' w
      have X2 := fun w => impl_fbef f' f hf' hf w
      simp only [c1, c2] at X1 X2
      go_enter Tryd.func76, Tryd.ntmps76
      go_wp2_with (first | (go_at_call_of 147 (#[Value.float FloatKind.f64 f, Value.float FloatKind.f64 f']); refine (X1 _).mono ?_; rintro e w' ⟨rfl, rfl⟩) | (go_at_call_of 147 (#[Value.float FloatKind.f64 f', Value.float FloatKind.f64 f]); refine (X2 _).mono ?_; rintro e w' ⟨rfl, rfl⟩) | (go_at_call_of 147 (#[Value.float FloatKind.f64 g, Value.float FloatKind.f64 g']); refine (impl_fbef g g' hg hg' _).mono ?_; rintro e w' ⟨rfl, rfl⟩))
      all_goals go_ret
      all_goals refine ⟨ret_bool ?_, ?_⟩
      · rw [← P.out]; unfold bef; rw [K.out, C.out.1, C.out.2]; simp
      · repeat (first | exact Below.refl _ _ | apply below_drewN | apply Below.drew | (refine Below.setCell ?_ (by simp; try omega) _) | (refine Below.alloc ?_ (by simp; try omega) _))
  · have k3 : (kindI ((n : Int) + 1) == 3) = false := by simpa using h3
    by_cases h2 : kindI ((n : Int) + 1) = 2
    · have k2 : (kindI ((n : Int) + 1) == 2) = true := by rw [h2]; rfl
      have K := Lib.hid h2
      clear h3 h2
      go_enter Tryd.func76, Tryd.ntmps76
      go_wp2_with (go_at_call 147; refine (impl_fbef f f' hf hf' _).mono ?_; rintro e w' ⟨rfl, rfl⟩)
      all_goals go_ret
      all_goals refine ⟨ret_bool ?_, ?_⟩
      · rw [← P.out]; unfold bef; rw [K.out]; simp
      · repeat (first | exact Below.refl _ _ | apply below_drewN | apply Below.drew | (refine Below.setCell ?_ (by simp; try omega) _) | (refine Below.alloc ?_ (by simp; try omega) _))
    · have k2 : (kindI ((n : Int) + 1) == 2) = false := by simpa using h2
      have K := Lib.hid (show kindI ((n : Int) + 1) < 2 by have := B.out; omega)
      clear h3 h2
      go_enter Tryd.func76, Tryd.ntmps76
      go_wp2
      all_goals go_ret
      all_goals refine ⟨ret_bool ?_, ?_⟩
      · rw [← P.out]; unfold bef; rw [if_pos K.out]
      · repeat (first | exact Below.refl _ _ | apply below_drewN | apply Below.drew | (refine Below.setCell ?_ (by simp; try omega) _) | (refine Below.alloc ?_ (by simp; try omega) _))
set_option maxHeartbeats 4000000 in
theorem spec_bef (a i : Int) (f g : Nat) (i' : Int) (f' g' : Nat) (hf : f < 18446744073709551616) (hg : g < 18446744073709551616) (hf' : f' < 18446744073709551616) (hg' : g' < 18446744073709551616) (w : World) :
    Calls Tryd.prog 20 #[.int .i64 a, .agg #[.int .i64 i, .float .f64 f, .float .f64 g], .agg #[.int .i64 i', .float .f64 f', .float .f64 g']] w fun e w' => e = .returned (.bool (vcell a i f g && vcell a i' f' g' && bef a i f g i' f' g')) ∧ Below w.heap.size w w' := by
  obtain ⟨p, hp⟩ : ∃ p, bef a i f g i' f' g' = p := ⟨_, rfl⟩
  rw [hp]
  have P := Lib.hid hp
  clear hp
  have S1 := fun w => spec_vcell a i f g hf hg w
  have S2 := fun w => spec_vcell a i' f' g' hf' hg' w
  cases c1 : vcell a i f g
  · simp only [c1] at S1
    clear c1
    go_enter Tryd.func20, Tryd.ntmps20
    go_wp2_with fail
    refine (S1 _).mono ?_
    rintro e w1 ⟨rfl, hb1⟩
    clear S1 S2
    go_wp2_with fail
    all_goals go_ret
    all_goals refine ⟨ret_bool (by simp), ?_⟩
    exact (((Below.refl _ _).alloc (Nat.le_refl _) _).alloc (by simp) _).trans (hb1.mono (by simp; try omega))
  · simp only [c1] at S1
    clear c1
    cases c2 : vcell a i' f' g'
    all_goals
      simp only [c2] at S2
      clear c2
      go_enter Tryd.func20, Tryd.ntmps20
      go_wp2_with fail
      refine (S1 _).mono ?_
      rintro e w1 ⟨rfl, hb1⟩
      clear S1
      have z1 : w.heap.size + 1 < w1.heap.size := by have := hb1.size; simp at this; omega
      have c0 : w1.cell? ⟨w.heap.size, 0, none⟩ = some (.int .i64 i) := (hb1.cell (p := ⟨w.heap.size, 0, none⟩) (by simp; try omega)).trans (by simp)
      have c1 : w1.cell? ⟨w.heap.size, 1, none⟩ = some (.float .f64 f) := (hb1.cell (p := ⟨w.heap.size, 1, none⟩) (by simp; try omega)).trans (by simp)
      have c2 : w1.cell? ⟨w.heap.size, 2, none⟩ = some (.float .f64 g) := (hb1.cell (p := ⟨w.heap.size, 2, none⟩) (by simp; try omega)).trans (by simp)
      have d0 : w1.cell? ⟨w.heap.size + 1, 0, none⟩ = some (.int .i64 i') := (hb1.cell (p := ⟨w.heap.size + 1, 0, none⟩) (by simp; try omega)).trans (by simp)
      have d1 : w1.cell? ⟨w.heap.size + 1, 1, none⟩ = some (.float .f64 f') := (hb1.cell (p := ⟨w.heap.size + 1, 1, none⟩) (by simp; try omega)).trans (by simp)
      have d2 : w1.cell? ⟨w.heap.size + 1, 2, none⟩ = some (.float .f64 g') := (hb1.cell (p := ⟨w.heap.size + 1, 2, none⟩) (by simp; try omega)).trans (by simp)
      go_wp2_with fail
      refine (S2 _).mono ?_
      rintro e w2 ⟨rfl, hb2⟩
      clear S2
      have z2 : w.heap.size + 1 < w2.heap.size := by have := hb2.size; omega
      have BB := Lib.hid ((((Below.refl w.heap.size w).alloc (Nat.le_refl _) _).alloc (by simp) _).trans ((hb1.trans (hb2.mono hb1.size)).mono (by simp; try omega)))
      have c0 : w2.cell? ⟨w.heap.size, 0, none⟩ = some (.int .i64 i) := (hb2.cell (p := ⟨w.heap.size, 0, none⟩) (by simp; omega)).trans c0
      have c1 : w2.cell? ⟨w.heap.size, 1, none⟩ = some (.float .f64 f) := (hb2.cell (p := ⟨w.heap.size, 1, none⟩) (by simp; omega)).trans c1
      have c2 : w2.cell? ⟨w.heap.size, 2, none⟩ = some (.float .f64 g) := (hb2.cell (p := ⟨w.heap.size, 2, none⟩) (by simp; omega)).trans c2
      have d0 : w2.cell? ⟨w.heap.size + 1, 0, none⟩ = some (.int .i64 i') := (hb2.cell (p := ⟨w.heap.size + 1, 0, none⟩) (by simp; omega)).trans d0
      have d1 : w2.cell? ⟨w.heap.size + 1, 1, none⟩ = some (.float .f64 f') := (hb2.cell (p := ⟨w.heap.size + 1, 1, none⟩) (by simp; omega)).trans d1
      have d2 : w2.cell? ⟨w.heap.size + 1, 2, none⟩ = some (.float .f64 g') := (hb2.cell (p := ⟨w.heap.size + 1, 2, none⟩) (by simp; omega)).trans d2
      clear hb1 hb2
    · go_wp2_with fail
      all_goals go_ret
      all_goals exact ⟨ret_bool (by simp), BB.out⟩
    · go_wp2_with (first | (go_at_call 67; refine (spec_kind _ _).mono ?_; rintro e w' ⟨rfl, rfl⟩) | (go_at_call_of 75 (#[Value.float FloatKind.f64 f, Value.float FloatKind.f64 f']); refine (spec_fbef f f' hf hf' _).mono ?_; rintro e w' ⟨rfl, rfl⟩) | (go_at_call_of 75 (#[Value.float FloatKind.f64 f', Value.float FloatKind.f64 f]); refine (spec_fbef f' f hf' hf _).mono ?_; rintro e w' ⟨rfl, rfl⟩) | (go_at_call_of 75 (#[Value.float FloatKind.f64 g, Value.float FloatKind.f64 g']); refine (spec_fbef g g' hg hg' _).mono ?_; rintro e w' ⟨rfl, rfl⟩))
      all_goals go_ret
      all_goals refine ⟨ret_bool ?_, BB.out⟩
      all_goals rw [← P.out]
      all_goals unfold bef
      all_goals first
        | (rw [if_pos (by assumption)]; rfl)
        | (rw [if_neg (by omega), show fbef f f' = true by assumption]; rfl)
        | (rw [if_neg (by omega), show fbef f f' = false by assumption, show fbef f' f = true by assumption]; rfl)
        | (rw [if_neg (by omega), show fbef f f' = false by assumption, show fbef f' f = false by (apply Bool.eq_false_iff.2; assumption), decide_eq_true (p := kindI a = 3) (by assumption)]; rfl)
        | (rw [if_neg (by omega), show fbef f f' = false by assumption, show fbef f' f = false by (apply Bool.eq_false_iff.2; assumption), decide_eq_false (p := kindI a = 3) (by assumption)]; rfl)
set_option maxHeartbeats 4000000 in
theorem impl_before (a i : Int) (f g : Nat) (i' : Int) (f' g' : Nat) (hf : f < 18446744073709551616) (hg : g < 18446744073709551616) (hf' : f' < 18446744073709551616) (hg' : g' < 18446744073709551616) (w : World) (hT : Table.Holds w) :
    Calls Tryd.prog 21 #[.int .i64 a, .agg #[.int .i64 i, .float .f64 f, .float .f64 g], .agg #[.int .i64 i', .float .f64 f', .float .f64 g']] w fun e w' => e = .returned (.bool (vcell a i f g && vcell a i' f' g' && bef a i f g i' f' g')) ∧ Below w.heap.size w w' := by
  have h0 : 0 < w.heap.size := World.block_lt_of_cell? w _ (hT 0 0 (by omega) (by omega))
  have HT := Lib.hid hT
  have F := Lib.hid (And.intro (And.intro hf hg) (And.intro hf' hg'))
  clear hT hf hg hf' hg'
  have B0 := ((Below.refl w.heap.size w).alloc (Nat.le_refl _) (.cells #[.int .i64 i, .float .f64 f, .float .f64 g] 27)).alloc (by simp) (.cells #[.int .i64 i', .float .f64 f', .float .f64 g'] 27)
  have T0 := Table.holds_below HT.out B0 h0
  have B0 := Lib.hid B0
  have T0 := Lib.hid T0
  cases ha : isdt a with
  | false =>
    have V := Lib.hid (@vcell_no a i f g ha)
    have I1 := fun w => impl_isd a w
    simp only [ha] at I1
    clear ha
    go_enter Tryd.func21, Tryd.ntmps21
    go_wp2_with (go_at_call 68; refine (I1 _).mono ?_; rintro e w' ⟨rfl, rfl⟩)
    all_goals go_ret
    all_goals exact ⟨ret_bool (by rw [V.out]; rfl), B0.out⟩
  | true =>
    obtain ⟨n, hn, rfl⟩ : ∃ n : Nat, n < 9 ∧ a = (n : Int) + 1 := ⟨(a - 1).toNat, by have := isdt_yes ha; omega, by have := isdt_yes ha; omega⟩
    have I1 := fun w => impl_isd ((n : Int) + 1) w
    have S1 := fun w => impl_vcell ((n : Int) + 1) i f g F.out.1.1 F.out.1.2 w
    have S2 := fun w => impl_vcell ((n : Int) + 1) i' f' g' F.out.2.1 F.out.2.2 w
    simp only [ha] at I1
    clear ha
    cases c1 : vcell ((n : Int) + 1) i f g
    · simp only [c1] at S1
      clear c1
      go_enter Tryd.func21, Tryd.ntmps21
      go_wp2_with (go_at_call 68; refine (I1 _).mono ?_; rintro e w' ⟨rfl, rfl⟩)
      refine (S1 _ T0.out).mono ?_
      rintro e w1 ⟨rfl, hb1⟩
      clear S1 S2
      go_wp2_with fail
      all_goals go_ret
      all_goals exact ⟨ret_bool rfl, B0.out.trans (hb1.mono B0.out.size)⟩
    · simp only [c1] at S1
      clear c1
      cases c2 : vcell ((n : Int) + 1) i' f' g'
      all_goals
        simp only [c2] at S2
        clear c2
        go_enter Tryd.func21, Tryd.ntmps21
        go_wp2_with (go_at_call 68; refine (I1 _).mono ?_; rintro e w' ⟨rfl, rfl⟩)
        refine (S1 _ T0.out).mono ?_
        rintro e w1 ⟨rfl, hb1⟩
        clear S1
        have z1 : w.heap.size + 1 < w1.heap.size := by have := hb1.size; simp at this; omega
        have c0 : w1.cell? ⟨w.heap.size, 0, none⟩ = some (.int .i64 i) := (hb1.cell (p := ⟨w.heap.size, 0, none⟩) (by simp; try omega)).trans (by simp)
        have c1 : w1.cell? ⟨w.heap.size, 1, none⟩ = some (.float .f64 f) := (hb1.cell (p := ⟨w.heap.size, 1, none⟩) (by simp; try omega)).trans (by simp)
        have c2 : w1.cell? ⟨w.heap.size, 2, none⟩ = some (.float .f64 g) := (hb1.cell (p := ⟨w.heap.size, 2, none⟩) (by simp; try omega)).trans (by simp)
        have d0 : w1.cell? ⟨w.heap.size + 1, 0, none⟩ = some (.int .i64 i') := (hb1.cell (p := ⟨w.heap.size + 1, 0, none⟩) (by simp; try omega)).trans (by simp)
        have d1 : w1.cell? ⟨w.heap.size + 1, 1, none⟩ = some (.float .f64 f') := (hb1.cell (p := ⟨w.heap.size + 1, 1, none⟩) (by simp; try omega)).trans (by simp)
        have d2 : w1.cell? ⟨w.heap.size + 1, 2, none⟩ = some (.float .f64 g') := (hb1.cell (p := ⟨w.heap.size + 1, 2, none⟩) (by simp; try omega)).trans (by simp)
        have B1 := B0.out.trans (hb1.mono B0.out.size)
        have T1 := Lib.hid (Table.holds_below HT.out B1 h0)
        have B1 := Lib.hid B1
        go_wp2_with fail
        refine (S2 _ T1.out).mono ?_
        rintro e w2 ⟨rfl, hb2⟩
        clear S2
        have z2 : w.heap.size + 1 < w2.heap.size := by have := hb2.size; omega
        have c0 : w2.cell? ⟨w.heap.size, 0, none⟩ = some (.int .i64 i) := (hb2.cell (p := ⟨w.heap.size, 0, none⟩) (by simp; omega)).trans c0
        have c1 : w2.cell? ⟨w.heap.size, 1, none⟩ = some (.float .f64 f) := (hb2.cell (p := ⟨w.heap.size, 1, none⟩) (by simp; omega)).trans c1
        have c2 : w2.cell? ⟨w.heap.size, 2, none⟩ = some (.float .f64 g) := (hb2.cell (p := ⟨w.heap.size, 2, none⟩) (by simp; omega)).trans c2
        have d0 : w2.cell? ⟨w.heap.size + 1, 0, none⟩ = some (.int .i64 i') := (hb2.cell (p := ⟨w.heap.size + 1, 0, none⟩) (by simp; omega)).trans d0
        have d1 : w2.cell? ⟨w.heap.size + 1, 1, none⟩ = some (.float .f64 f') := (hb2.cell (p := ⟨w.heap.size + 1, 1, none⟩) (by simp; omega)).trans d1
        have d2 : w2.cell? ⟨w.heap.size + 1, 2, none⟩ = some (.float .f64 g') := (hb2.cell (p := ⟨w.heap.size + 1, 2, none⟩) (by simp; omega)).trans d2
        have B2 := B1.out.trans (hb2.mono B1.out.size)
        have T2 := Lib.hid (Table.holds_below HT.out B2 h0)
        have B2 := Lib.hid B2
        clear hb1 hb2
      · go_wp2_with fail
        all_goals go_ret
        all_goals exact ⟨ret_bool rfl, B2.out⟩
      · go_wp2_with fail
        refine (impl_bef n hn i f g i' f' g' F.out.1.1 F.out.1.2 F.out.2.1 F.out.2.2 _ T2.out).mono ?_
        rintro e w3 ⟨rfl, hb3⟩
        have B3 := Lib.hid (B2.out.trans (hb3.mono B2.out.size))
        clear hb3
        go_wp2_with fail
        all_goals go_ret
        all_goals exact ⟨ret_bool rfl, B3.out⟩
end Go.Proofs.YtpmdgmnpkdoamabDoor.Vc
