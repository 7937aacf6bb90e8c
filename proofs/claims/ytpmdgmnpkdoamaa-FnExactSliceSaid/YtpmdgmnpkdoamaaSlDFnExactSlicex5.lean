/- Proved here: what the functions answer that the law on Slice comes to (the lines were written by a program). Conditions: those that stand ahead in each theorem. -/
import Derived.Test.YtpmdgmnpkdoamaaSlDFnExactSlicex0
import Derived.Test.YtpmdgmnpkdoamaaSlDFnExactSlicex2
import Derived.Test.YtpmdgmnpkdoamaaSlDFnExactSlicex3
import Derived.Test.YtpmdgmnpkdoamaaSlDFnExactSlicex4
namespace Go.Proofs.Ytpmdgmnpkdoamaa.DFnExactSlice
open Go.RowKit Go.Proofs.YtpmdgmnpkdoamaaW.PrintWords Go.Proofs.YtpmdgmnpkdoamaaW.PrintLast Go.Proofs.YtpmdgmnpkdoamaaW.PrintMore
attribute [local go_sem] max2_int min2_int max_two min_two max_three min_three max_four min_four   -- for this text's walks alone
set_option linter.unusedVariables false
set_option linter.unusedSimpArgs false

/-! ### spec_Slice: function 59 -/
mutual
def spec_Slice.j0 : Nat → Int → Int → Int → Int → Bool → List Int → List Int → Int → Option (Int × List Int × List Int × Int)
  | 0, _, _, _, _, _, _, _, _ => none
  | k + 1, x1, x2, x3, x4, x31, x186000, x186001, x186002 => if x31 = true then (some (5, ([] : List Int), ([] : List Int), 0)) else (if x4 = 0 then (spec_Slice.j1 k x1 x2 x3 x4 true x186000 x186001 x186002) else (if x4 < (-1000000) then (spec_Slice.j1 k x1 x2 x3 x4 true x186000 x186001 x186002) else (if x4 > 1000000 then (spec_Slice.j1 k x1 x2 x3 x4 true x186000 x186001 x186002) else (if x2 < (-1000000) then (spec_Slice.j1 k x1 x2 x3 x4 true x186000 x186001 x186002) else (if x2 > 1000000 then (spec_Slice.j1 k x1 x2 x3 x4 true x186000 x186001 x186002) else (if x3 < (-1000000) then (spec_Slice.j1 k x1 x2 x3 x4 true x186000 x186001 x186002) else (spec_Slice.j1 k x1 x2 x3 x4 (decide (x3 > 1000000)) x186000 x186001 x186002)))))))
def spec_Slice.j1 : Nat → Int → Int → Int → Int → Bool → List Int → List Int → Int → Option (Int × List Int × List Int × Int)
  | 0, _, _, _, _, _, _, _, _ => none
  | k + 1, x1, x2, x3, x4, x58, x186000, x186001, x186002 => if x58 = true then (some (8, ([] : List Int), ([] : List Int), 0)) else (if 0 ≤ x1 then (if x1 < (x186000.length : Int) then (if x4 < 0 then (spec_Slice.j2 k x1 x2 x3 x4 (rd x186000 x1) (-1) (wrap64 ((rd x186000 x1) - 1)) x186000 x186001 x186002) else (spec_Slice.j2 k x1 x2 x3 x4 (rd x186000 x1) 0 (rd x186000 x1) x186000 x186001 x186002)) else (none)) else (none))
def spec_Slice.j2 : Nat → Int → Int → Int → Int → Int → Int → Int → List Int → List Int → Int → Option (Int × List Int × List Int × Int)
  | 0, _, _, _, _, _, _, _, _, _, _ => none
  | k + 1, x1, x2, x3, x4, x11, x12, x13, x186000, x186001, x186002 => (spec_l2Right.f x2 x11 x12 x13).bind fun t189 => ((spec_l2Right.f x3 x11 x12 x13).bind fun t190 => (spec_Slice.l0 k x1 x4 t190 (([] : List Int)) t189 x186000 x186001 x186002))
def spec_Slice.j4 : Nat → Int → Int → List Int → List Int → List Int → Int → Option (Int × List Int × List Int × Int)
  | 0, _, _, _, _, _, _ => none
  | k + 1, x1, x4, x16, x186000, x186001, x186002 => (spec_l2CopyView.f k x186000 x186001 x186002).bind fun bt203 => (if 0 ≤ x1 then (if x1 < (bt203.1.length : Int) then ((some (bt203.1.set (x1 : Int).toNat (x16.length : Int) : List Int)).bind fun y211 => ((spec_l2Count.f k y211).bind fun t212 => (if t212 = 0 then (some (0, y211, bt203.2.1, bt203.2.2)) else (if 0 < (x16.length : Int) then (if x1 < (x186001.length : Int) then (if (x16.length : Int) > 1 then (if x1 < (bt203.2.1.length : Int) then (some (0, y211, (bt203.2.1.set (x1 : Int).toNat (wrap64 (x4 * (rd x186001 x1)))), wrap64 (x186002 + (wrap64 ((rd x16 0) * (rd x186001 x1)))))) else (none)) else (some (0, y211, bt203.2.1, wrap64 (x186002 + (wrap64 ((rd x16 0) * (rd x186001 x1))))))) else (none)) else (none))))) else (none)) else (none))
def spec_Slice.l0 : Nat → Int → Int → Int → List Int → Int → List Int → List Int → Int → Option (Int × List Int × List Int × Int)
  | 0, _, _, _, _, _, _, _, _ => none
  | k + 1, x1, x4, x15, x16, x17, x186000, x186001, x186002 => if x4 > 0 then (if x17 < x15 then (if x16.length < 17592186044416 then (spec_Slice.l0 k x1 x4 x15 (x16 ++ [x17]) (wrap64 (x17 + x4)) x186000 x186001 x186002) else (none)) else (if x4 < 0 then (if x17 > x15 then (if x16.length < 17592186044416 then (spec_Slice.l0 k x1 x4 x15 (x16 ++ [x17]) (wrap64 (x17 + x4)) x186000 x186001 x186002) else (none)) else (spec_Slice.j4 k x1 x4 x16 x186000 x186001 x186002)) else (spec_Slice.j4 k x1 x4 x16 x186000 x186001 x186002))) else (if x4 < 0 then (if x17 > x15 then (if x16.length < 17592186044416 then (spec_Slice.l0 k x1 x4 x15 (x16 ++ [x17]) (wrap64 (x17 + x4)) x186000 x186001 x186002) else (none)) else (spec_Slice.j4 k x1 x4 x16 x186000 x186001 x186002)) else (spec_Slice.j4 k x1 x4 x16 x186000 x186001 x186002))
end
def spec_Slice.f (k : Nat) (l0_0 : List Int) (l0_1 : List Int) (a0_2 : Int) (a1 : Int) (a2 : Int) (a3 : Int) (a4 : Int) : Option (Int × List Int × List Int × Int) := (spec_ValidView.f k l0_0 l0_1 a0_2).bind fun t187 => (if t187 = true then (if a1 < 0 then (spec_Slice.j0 k a1 a2 a3 a4 true l0_0 l0_1 a0_2) else (spec_Slice.j0 k a1 a2 a3 a4 (decide (a1 ≥ (l0_0.length : Int))) l0_0 l0_1 a0_2)) else (some (12, ([] : List Int), ([] : List Int), 0)))
theorem spec_Slice.mono_l : ∀ k, (∀ y0 y1 y2 y3 y4 y5 y6 y7, LeO (spec_Slice.j0 k y0 y1 y2 y3 y4 y5 y6 y7) (spec_Slice.j0 (k + 1) y0 y1 y2 y3 y4 y5 y6 y7)) ∧ (∀ y0 y1 y2 y3 y4 y5 y6 y7, LeO (spec_Slice.j1 k y0 y1 y2 y3 y4 y5 y6 y7) (spec_Slice.j1 (k + 1) y0 y1 y2 y3 y4 y5 y6 y7)) ∧ (∀ y0 y1 y2 y3 y4 y5 y6 y7 y8 y9, LeO (spec_Slice.j2 k y0 y1 y2 y3 y4 y5 y6 y7 y8 y9) (spec_Slice.j2 (k + 1) y0 y1 y2 y3 y4 y5 y6 y7 y8 y9)) ∧ (∀ y0 y1 y2 y3 y4 y5, LeO (spec_Slice.j4 k y0 y1 y2 y3 y4 y5) (spec_Slice.j4 (k + 1) y0 y1 y2 y3 y4 y5)) ∧ (∀ y0 y1 y2 y3 y4 y5 y6 y7, LeO (spec_Slice.l0 k y0 y1 y2 y3 y4 y5 y6 y7) (spec_Slice.l0 (k + 1) y0 y1 y2 y3 y4 y5 y6 y7))
  | 0 => ⟨fun _ _ _ _ _ _ _ _ r h => by simp [spec_Slice.j0] at h, fun _ _ _ _ _ _ _ _ r h => by simp [spec_Slice.j1] at h, fun _ _ _ _ _ _ _ _ _ _ r h => by simp [spec_Slice.j2] at h, fun _ _ _ _ _ _ r h => by simp [spec_Slice.j4] at h, fun _ _ _ _ _ _ _ _ r h => by simp [spec_Slice.l0] at h⟩
  | k + 1 => by
    obtain ⟨ih0, ih1, ih2, ih3, ih4⟩ := spec_Slice.mono_l k
    refine ⟨?_, ?_, ?_, ?_, ?_⟩
    · intro y0 y1 y2 y3 y4 y5 y6 y7
      unfold spec_Slice.j0
      repeat' first
      | (with_reducible exact ih0 _ _ _ _ _ _ _ _)
      | (with_reducible exact ih1 _ _ _ _ _ _ _ _)
      | (with_reducible exact ih2 _ _ _ _ _ _ _ _ _ _)
      | (with_reducible exact ih3 _ _ _ _ _ _)
      | (with_reducible exact ih4 _ _ _ _ _ _ _ _)
      | (with_reducible exact spec_ValidView.mono _ _ _ _)
      | (with_reducible exact spec_l2CopyView.mono _ _ _ _)
      | (with_reducible exact spec_l2Count.mono _ _)
      | (with_reducible exact LeO.refl _)
      | (with_reducible exact LeO.none _)
      | (with_reducible refine LeO.ite ?_ ?_)
      | (with_reducible refine LeO.bind ?_ (fun _ => ?_))
      | exact ih0 _ _ _ _ _ _ _ _
      | exact ih1 _ _ _ _ _ _ _ _
      | exact ih2 _ _ _ _ _ _ _ _ _ _
      | exact ih3 _ _ _ _ _ _
      | exact ih4 _ _ _ _ _ _ _ _
      | exact spec_ValidView.mono _ _ _ _
      | exact spec_l2CopyView.mono _ _ _ _
      | exact spec_l2Count.mono _ _
      | exact LeO.none _
      | refine LeO.ite ?_ ?_
      | refine LeO.bind ?_ (fun _ => ?_)
    · intro y0 y1 y2 y3 y4 y5 y6 y7
      unfold spec_Slice.j1
      repeat' first
      | (with_reducible exact ih0 _ _ _ _ _ _ _ _)
      | (with_reducible exact ih1 _ _ _ _ _ _ _ _)
      | (with_reducible exact ih2 _ _ _ _ _ _ _ _ _ _)
      | (with_reducible exact ih3 _ _ _ _ _ _)
      | (with_reducible exact ih4 _ _ _ _ _ _ _ _)
      | (with_reducible exact spec_ValidView.mono _ _ _ _)
      | (with_reducible exact spec_l2CopyView.mono _ _ _ _)
      | (with_reducible exact spec_l2Count.mono _ _)
      | (with_reducible exact LeO.refl _)
      | (with_reducible exact LeO.none _)
      | (with_reducible refine LeO.ite ?_ ?_)
      | (with_reducible refine LeO.bind ?_ (fun _ => ?_))
      | exact ih0 _ _ _ _ _ _ _ _
      | exact ih1 _ _ _ _ _ _ _ _
      | exact ih2 _ _ _ _ _ _ _ _ _ _
      | exact ih3 _ _ _ _ _ _
      | exact ih4 _ _ _ _ _ _ _ _
      | exact spec_ValidView.mono _ _ _ _
      | exact spec_l2CopyView.mono _ _ _ _
      | exact spec_l2Count.mono _ _
      | exact LeO.none _
      | refine LeO.ite ?_ ?_
      | refine LeO.bind ?_ (fun _ => ?_)
    · intro y0 y1 y2 y3 y4 y5 y6 y7 y8 y9
      unfold spec_Slice.j2
      repeat' first
      | (with_reducible exact ih0 _ _ _ _ _ _ _ _)
      | (with_reducible exact ih1 _ _ _ _ _ _ _ _)
      | (with_reducible exact ih2 _ _ _ _ _ _ _ _ _ _)
      | (with_reducible exact ih3 _ _ _ _ _ _)
      | (with_reducible exact ih4 _ _ _ _ _ _ _ _)
      | (with_reducible exact spec_ValidView.mono _ _ _ _)
      | (with_reducible exact spec_l2CopyView.mono _ _ _ _)
      | (with_reducible exact spec_l2Count.mono _ _)
      | (with_reducible exact LeO.refl _)
      | (with_reducible exact LeO.none _)
      | (with_reducible refine LeO.ite ?_ ?_)
      | (with_reducible refine LeO.bind ?_ (fun _ => ?_))
      | exact ih0 _ _ _ _ _ _ _ _
      | exact ih1 _ _ _ _ _ _ _ _
      | exact ih2 _ _ _ _ _ _ _ _ _ _
      | exact ih3 _ _ _ _ _ _
      | exact ih4 _ _ _ _ _ _ _ _
      | exact spec_ValidView.mono _ _ _ _
      | exact spec_l2CopyView.mono _ _ _ _
      | exact spec_l2Count.mono _ _
      | exact LeO.none _
      | refine LeO.ite ?_ ?_
      | refine LeO.bind ?_ (fun _ => ?_)
    · intro y0 y1 y2 y3 y4 y5
      unfold spec_Slice.j4
      repeat' first
      | (with_reducible exact ih0 _ _ _ _ _ _ _ _)
      | (with_reducible exact ih1 _ _ _ _ _ _ _ _)
      | (with_reducible exact ih2 _ _ _ _ _ _ _ _ _ _)
      | (with_reducible exact ih3 _ _ _ _ _ _)
      | (with_reducible exact ih4 _ _ _ _ _ _ _ _)
      | (with_reducible exact spec_ValidView.mono _ _ _ _)
      | (with_reducible exact spec_l2CopyView.mono _ _ _ _)
      | (with_reducible exact spec_l2Count.mono _ _)
      | (with_reducible exact LeO.refl _)
      | (with_reducible exact LeO.none _)
      | (with_reducible refine LeO.ite ?_ ?_)
      | (with_reducible refine LeO.bind ?_ (fun _ => ?_))
      | exact ih0 _ _ _ _ _ _ _ _
      | exact ih1 _ _ _ _ _ _ _ _
      | exact ih2 _ _ _ _ _ _ _ _ _ _
      | exact ih3 _ _ _ _ _ _
      | exact ih4 _ _ _ _ _ _ _ _
      | exact spec_ValidView.mono _ _ _ _
      | exact spec_l2CopyView.mono _ _ _ _
      | exact spec_l2Count.mono _ _
      | exact LeO.none _
      | refine LeO.ite ?_ ?_
      | refine LeO.bind ?_ (fun _ => ?_)
    · intro y0 y1 y2 y3 y4 y5 y6 y7
      unfold spec_Slice.l0
      repeat' first
      | (with_reducible exact ih0 _ _ _ _ _ _ _ _)
      | (with_reducible exact ih1 _ _ _ _ _ _ _ _)
      | (with_reducible exact ih2 _ _ _ _ _ _ _ _ _ _)
      | (with_reducible exact ih3 _ _ _ _ _ _)
      | (with_reducible exact ih4 _ _ _ _ _ _ _ _)
      | (with_reducible exact spec_ValidView.mono _ _ _ _)
      | (with_reducible exact spec_l2CopyView.mono _ _ _ _)
      | (with_reducible exact spec_l2Count.mono _ _)
      | (with_reducible exact LeO.refl _)
      | (with_reducible exact LeO.none _)
      | (with_reducible refine LeO.ite ?_ ?_)
      | (with_reducible refine LeO.bind ?_ (fun _ => ?_))
      | exact ih0 _ _ _ _ _ _ _ _
      | exact ih1 _ _ _ _ _ _ _ _
      | exact ih2 _ _ _ _ _ _ _ _ _ _
      | exact ih3 _ _ _ _ _ _
      | exact ih4 _ _ _ _ _ _ _ _
      | exact spec_ValidView.mono _ _ _ _
      | exact spec_l2CopyView.mono _ _ _ _
      | exact spec_l2Count.mono _ _
      | exact LeO.none _
      | refine LeO.ite ?_ ?_
      | refine LeO.bind ?_ (fun _ => ?_)
theorem spec_Slice.mono : ∀ a0 a1 a2 a3 a4 a5 a6 k, LeO (spec_Slice.f k a0 a1 a2 a3 a4 a5 a6) (spec_Slice.f (k + 1) a0 a1 a2 a3 a4 a5 a6) := by
  intro a0 a1 a2 a3 a4 a5 a6 k
  obtain ⟨ih0, ih1, ih2, ih3, ih4⟩ := spec_Slice.mono_l k
  unfold spec_Slice.f
  repeat' first
      | (with_reducible exact ih0 _ _ _ _ _ _ _ _)
      | (with_reducible exact ih1 _ _ _ _ _ _ _ _)
      | (with_reducible exact ih2 _ _ _ _ _ _ _ _ _ _)
      | (with_reducible exact ih3 _ _ _ _ _ _)
      | (with_reducible exact ih4 _ _ _ _ _ _ _ _)
      | (with_reducible exact spec_ValidView.mono _ _ _ _)
      | (with_reducible exact spec_l2CopyView.mono _ _ _ _)
      | (with_reducible exact spec_l2Count.mono _ _)
      | (with_reducible exact LeO.refl _)
      | (with_reducible exact LeO.none _)
      | (with_reducible refine LeO.ite ?_ ?_)
      | (with_reducible refine LeO.bind ?_ (fun _ => ?_))
      | exact ih0 _ _ _ _ _ _ _ _
      | exact ih1 _ _ _ _ _ _ _ _
      | exact ih2 _ _ _ _ _ _ _ _ _ _
      | exact ih3 _ _ _ _ _ _
      | exact ih4 _ _ _ _ _ _ _ _
      | exact spec_ValidView.mono _ _ _ _
      | exact spec_l2CopyView.mono _ _ _ _
      | exact spec_l2Count.mono _ _
      | exact LeO.none _
      | refine LeO.ite ?_ ?_
      | refine LeO.bind ?_ (fun _ => ?_)
def spec_Slice.T23 : Bool × List (List Nat × List Nat) := (true, [([], []), ([0], [0]), ([], []), ([2], [2]), ([3], [3]), ([], []), ([5], [5]), ([], []), ([6, 7], [6, 7]), ([8], [8]), ([4, 9], [4, 9]), ([1, 10], [1, 10]), ([0, 1, 2, 3, 4, 5, 6, 7, 8, 9, 10, 11], []), ([12, 11, 0, 1, 2, 3, 4, 5, 6, 7, 8, 9, 10, 11], [11, 12])])
def spec_Slice.B23 : List Nat := [0, 1, 0, 4, 12, 0, 32, 0, 224, 480, 1020, 2047, 4095, 8191]
theorem spec_Slice.tab23 : rtab .any (opsOf Try.f59 23) = spec_Slice.T23 := by kernel_rfl
theorem spec_Slice.bits23 : waitsOk spec_Slice.T23.2 spec_Slice.B23 = true := by kernel_rfl
def spec_Slice.T25 : Bool × List (List Nat × List Nat) := (true, [([], []), ([0], [0]), ([], []), ([], []), ([], []), ([4], [4]), ([], []), ([5, 6], [5, 6]), ([7], [7]), ([3, 8], [3, 8]), ([1, 2, 0, 1, 2, 3, 4, 5, 6, 7, 8, 9], [1, 2]), ([10, 9, 0, 1, 2, 3, 4, 5, 6, 7, 8, 9], [9, 10])])
def spec_Slice.B25 : List Nat := [0, 1, 0, 0, 0, 16, 0, 112, 240, 504, 1023, 2047]
theorem spec_Slice.tab25 : rtab .any (opsOf Try.f59 25) = spec_Slice.T25 := by kernel_rfl
theorem spec_Slice.bits25 : waitsOk spec_Slice.T25.2 spec_Slice.B25 = true := by kernel_rfl
set_option maxHeartbeats 8000000 in
set_option maxRecDepth 100000 in
theorem spec_Slice.calls (k : Nat) (A0_0 : Option Addr) (c0_0 : Nat) (l0_0 : List Int) (A0_1 : Option Addr) (c0_1 : Nat) (l0_1 : List Int) (a0_2 : Int) (a1 : Int) (a2 : Int) (a3 : Int) (a4 : Int) (r1 : Int) (r2 : List Int) (r3 : List Int) (r4 : Int) (w : World) (hr0_0 : Kd.C (Kd.int .i64) w A0_0 l0_0.length l0_0) (hc0_0 : l0_0.length ≤ c0_0) (hr0_1 : Kd.C (Kd.int .i64) w A0_1 l0_1.length l0_1) (hc0_1 : l0_1.length ≤ c0_1) (h : spec_Slice.f k l0_0 l0_1 a0_2 a1 a2 a3 a4 = some (r1, r2, r3, r4)) :
    Calls Try.prog 59 #[.agg #[.slice A0_0 l0_0.length c0_0, .slice A0_1 l0_1.length c0_1, .int .i64 a0_2], .int .i64 a1, .int .i64 a2, .int .i64 a3, .int .i64 a4] w fun e w' => ∃ v1_ v2_ : Value, e = .returned (.agg #[.int .i64 r1, v1_, v2_, .int .i64 r4]) ∧ Kd.R (Kd.int .i64) 2 w' w.heap.size (fun k_ => some k_ ≠ (v2_ : Value).ownBlock) v1_ r2 ∧ Kd.R (Kd.int .i64) 2 w' w.heap.size (fun k_ => some k_ ≠ (v1_ : Value).ownBlock) v2_ r3 ∧ Below w.heap.size w w' := by
  have hu32 := Try.underlying32
  have hu53 := Try.underlying53
  have HR0_0 := Aside0.mk hr0_0
  have HC0_0 := Aside0.mk hc0_0
  clear hr0_0 hc0_0
  have HR0_1 := Aside0.mk hr0_1
  have HC0_1 := Aside0.mk hc0_1
  clear hr0_1 hc0_1
  have HB := Aside0.mk (Below.refl w.heap.size w)
  have H : ((spec_ValidView.f k l0_0 l0_1 a0_2).bind fun t187 => (if t187 = true then (if a1 < 0 then (spec_Slice.j0 k a1 a2 a3 a4 true l0_0 l0_1 a0_2) else (spec_Slice.j0 k a1 a2 a3 a4 (decide (a1 ≥ (l0_0.length : Int))) l0_0 l0_1 a0_2)) else (some (12, ([] : List Int), ([] : List Int), 0)))) = some (r1, r2, r3, r4) := h
  clear h
  replace H := Option.bind_eq_some_iff.mp H
  obtain ⟨t187, A60, H⟩ := H
  replace H : (if t187 = true then (if a1 < 0 then (spec_Slice.j0 k a1 a2 a3 a4 true l0_0 l0_1 a0_2) else (spec_Slice.j0 k a1 a2 a3 a4 (decide (a1 ≥ (l0_0.length : Int))) l0_0 l0_1 a0_2)) else (some (12, ([] : List Int), ([] : List Int), 0))) = some (r1, r2, r3, r4) := H
  have A6 := Aside0.mk A60
  clear A60
  by_cases c7 : t187 = true
  · subst c7
    have H1 : (if a1 < 0 then (spec_Slice.j0 k a1 a2 a3 a4 true l0_0 l0_1 a0_2) else (spec_Slice.j0 k a1 a2 a3 a4 (decide (a1 ≥ (l0_0.length : Int))) l0_0 l0_1 a0_2)) = some (r1, r2, r3, r4) := by rw [if_pos rfl] at H; exact H
    clear H
    have H := H1
    clear H1
    have HC8 := Aside0.mk H
    clear H
    go_enter Try.func59, Try.ntmps59
    go_upto_region 3 with (first | ((with_reducible refine gate_dst (N := 5) rfl ?_); (try (refine gate_guard (by rfl) ?_; dsimp only)); refine box_event ?hg (N := 5) ?hd (cs := #[.slice A0_0 l0_0.length c0_0, .slice A0_1 l0_1.length c0_1, .int .i64 a0_2]) (t := 32) ?hr ?_; (case hd => rfl); (case hg => rfl); (case hr => first | (go_simp; done) | (go_simp; rfl)); intro gb185 hg w9 hbox hb; have n0_ := Aside0.mk (below_step (by repeat (first | (with_reducible first | exact HB.out | apply below_alloc | apply pw_below_drewN | apply below_drew1) | exact HB.out)) hb); have n1_ := Aside0.mk (hbox); have n2_ := Aside0.mk ((by rw [hg]; exact (below_size (by repeat (first | (with_reducible first | exact HB.out | apply below_alloc | apply pw_below_drewN | apply below_drew1) | exact HB.out))) : w.heap.size ≤ gb185)); have n3_ := Aside0.mk ((by rw [hg]; exact (below_size (by repeat (first | (with_reducible first | exact HB.out | apply below_alloc | apply pw_below_drewN | apply below_drew1) | exact HB.out))) : w.heap.size ≤ gb185)); clear HB; have HB := n0_; have BK185 := n1_; have GW185 := n2_; have GE185 := n3_; clear n0_ n1_ n2_ n3_; clear hb hbox hg) | ((with_reducible refine gate_dst (N := 10) rfl ?_); (try (refine gate_guard (by rfl) ?_; dsimp only)); refine box_event ?hg (N := 10) ?hd (cs := #[.int .i64 0, .slice none 0 0, .slice none 0 0, .int .i64 0]) (t := 53) ?hr ?_; (case hd => rfl); (case hg => rfl); (case hr => first | (go_simp; done) | (go_simp; rfl)); intro gb186 hg w10 hbox hb; have n0_ := Aside0.mk (blk_below (g := gb185) (o := .cells #[.slice A0_0 l0_0.length c0_0, .slice A0_1 l0_1.length c0_1, .int .i64 a0_2] 32 (0, 0)) (by (with_reducible repeat (first | refine blk_drewN ?_ _ | refine blk_drew ?_ | refine blk_alloc ?_ _)); exact BK185.out) hb); have n1_ := Aside0.mk (below_step (by repeat (first | (with_reducible first | exact HB.out | apply below_alloc | apply pw_below_drewN | apply below_drew1 | refine below_set ?_ GE185.out) | exact HB.out)) hb); have n2_ := Aside0.mk (hbox); have n3_ := Aside0.mk ((by rw [hg]; exact (below_size (by repeat (first | (with_reducible first | exact HB.out | apply below_alloc | apply pw_below_drewN | apply below_drew1 | refine below_set ?_ GE185.out) | exact HB.out))) : w.heap.size ≤ gb186)); have n4_ := Aside0.mk ((by rw [hg]; exact (below_size (by repeat (first | (with_reducible first | exact HB.out | apply below_alloc | apply pw_below_drewN | apply below_drew1 | refine below_set ?_ GE185.out) | exact HB.out))) : w.heap.size ≤ gb186)); have n5_ := Aside0.mk ((by rw [hg]; exact Nat.ne_of_lt (blk_lt (g := gb185) (o := .cells #[.slice A0_0 l0_0.length c0_0, .slice A0_1 l0_1.length c0_1, .int .i64 a0_2] 32 (0, 0)) (by (with_reducible repeat (first | refine blk_drewN ?_ _ | refine blk_drew ?_ | refine blk_alloc ?_ _)); exact BK185.out)) : gb185 ≠ gb186)); have n6_ := Aside0.mk ((by rw [hg]; exact Nat.ne_of_gt (blk_lt (g := gb185) (o := .cells #[.slice A0_0 l0_0.length c0_0, .slice A0_1 l0_1.length c0_1, .int .i64 a0_2] 32 (0, 0)) (by (with_reducible repeat (first | refine blk_drewN ?_ _ | refine blk_drew ?_ | refine blk_alloc ?_ _)); exact BK185.out)) : gb186 ≠ gb185)); clear BK185; clear HB; have BK185 := n0_; have HB := n1_; have BK186 := n2_; have GW186 := n3_; have GE186 := n4_; have NB185_186 := n5_; have NB186_185 := n6_; clear n0_ n1_ n2_ n3_ n4_ n5_ n6_; clear hb hbox hg; have hnb11 := NB185_186.out; have hnc11 := NB186_185.out; have hcz12_0 : w10.cell? ⟨gb185, 0, none⟩ = some (.slice A0_0 l0_0.length c0_0) := (blk_cell BK185.out 0).trans rfl; have hcz12_1 : w10.cell? ⟨gb185, 1, none⟩ = some (.slice A0_1 l0_1.length c0_1) := (blk_cell BK185.out 1).trans rfl; have hcz12_2 : w10.cell? ⟨gb185, 2, none⟩ = some (.int .i64 a0_2) := (blk_cell BK185.out 2).trans rfl; have hfz12_0 := blk_frozen BK185.out 0; have hfz12_1 := blk_frozen BK185.out 1; have hfz12_2 := blk_frozen BK185.out 2) | ((with_reducible refine gate_callee (f := 24) rfl ?_); refine goesL_ (some 20) rfl rfl Try.func24 (by kernel_rfl) rfl #[.agg #[.slice A0_0 l0_0.length c0_0, .slice A0_1 l0_1.length c0_1, .int .i64 a0_2]] rfl (by (try simp only [List.map_toArray, List.map_cons, List.map_nil]); first | done | rfl | (simp only [List.length_drop, List.length_take]; rfl)) ?_; (with_reducible refine (spec_ValidView.calls k _ _ l0_0 _ _ l0_1 a0_2 true _ ?side1 ?side2 ?side3 ?side4 A6.out).mono ?_); (case side1 => repeat (first | exact (Kd.C_below HR0_0.out HB.out) | (with_reducible refine Kd.C_alloc ?_ _) | (with_reducible refine Kd.C_drewN ?_ _) | (with_reducible refine Kd.C_drew ?_))); (case side2 => exact HC0_0.out); (case side3 => repeat (first | exact (Kd.C_below HR0_1.out HB.out) | (with_reducible refine Kd.C_alloc ?_ _) | (with_reducible refine Kd.C_drewN ?_ _) | (with_reducible refine Kd.C_drew ?_))); (case side4 => exact HC0_1.out); rintro e w13 ⟨rfl, hb⟩; refine ⟨_, rfl, ?_⟩; have n0_ := Aside0.mk (blk_below (g := gb185) (o := .cells #[.slice A0_0 l0_0.length c0_0, .slice A0_1 l0_1.length c0_1, .int .i64 a0_2] 32 (0, 0)) (by (with_reducible repeat (first | refine blk_drewN ?_ _ | refine blk_drew ?_ | refine blk_alloc ?_ _)); exact BK185.out) hb); have n1_ := Aside0.mk (blk_below (g := gb186) (o := .cells #[.int .i64 0, .slice none 0 0, .slice none 0 0, .int .i64 0] 53 (0, 0)) (by (with_reducible repeat (first | refine blk_drewN ?_ _ | refine blk_drew ?_ | refine blk_alloc ?_ _)); exact BK186.out) hb); have n2_ := Aside0.mk (below_step (by repeat (first | (with_reducible first | exact HB.out | apply below_alloc | apply pw_below_drewN | apply below_drew1 | refine below_set ?_ GE185.out | refine below_set ?_ GE186.out) | exact HB.out)) hb); clear BK185; clear BK186; clear HB; have BK185 := n0_; have BK186 := n1_; have HB := n2_; clear n0_ n1_ n2_; (try clear hb); (try clear hb2); (try clear hk); (try clear hi)))
    (try simp only [Act.put, List.setIfInBounds_toArray, List.set_cons_zero, List.set_cons_succ])
    go_cut [31] (fun v31 wc => ∃ (kq : Nat) (x31_7 : Bool), v31 = .bool x31_7 ∧ Aside0 (spec_Slice.j0 kq a1 a2 a3 a4 x31_7 l0_0 l0_1 a0_2 = some (r1, r2, r3, r4)) ∧ Aside0 (kq ≤ k) ∧ Aside0 (wc.heap[gb185]? = some (.cells #[(.slice A0_0 l0_0.length c0_0), (.slice A0_1 l0_1.length c0_1), .int .i64 a0_2] 32 (0, 0))) ∧ Aside0 (wc.heap[gb186]? = some (.cells #[.int .i64 0, (.slice none 0 0), (.slice none 0 0), .int .i64 0] 53 (0, 0))) ∧ Aside0 (Below w.heap.size w wc))
    case first =>
      have H := HC8.out
      clear HC8
      by_cases c14 : a1 < 0
      · rw [if_pos c14] at H
        have c14b0 : decide (a1 < 0) = true := decide_eq_true c14
        clear c14
        (first | rw [c14b0] | (simp only [i64_w, i32_w]; rw [c14b0]) | skip)
        have H' := Aside0.mk H
        clear H
        go_wp2
        go_meet
        case rel => exact ⟨_, (true), (by first | rfl | (simp; done) | (simp [*]; done)), H', ⟨by first | omega | exact Nat.le_refl _⟩, ⟨by (with_reducible repeat (first | refine blk_drewN ?_ _ | refine blk_drew ?_ | refine blk_alloc ?_ _)); exact BK185.out⟩, ⟨by (with_reducible repeat (first | refine blk_drewN ?_ _ | refine blk_drew ?_ | refine blk_alloc ?_ _)); exact BK186.out⟩, ⟨by repeat (first | (with_reducible first | exact HB.out | apply below_alloc | apply pw_below_drewN | apply below_drew1 | refine below_set ?_ GE185.out | refine below_set ?_ GE186.out) | exact HB.out)⟩⟩
      · rw [if_neg c14] at H
        have c14b0 : decide (a1 < 0) = false := decide_eq_false c14
        clear c14
        (first | rw [c14b0] | (simp only [i64_w, i32_w]; rw [c14b0]) | skip)
        have H' := Aside0.mk H
        clear H
        have hnb15 := NB185_186.out
        have hnc15 := NB186_185.out
        have hcz16_0 : w13.cell? ⟨gb185, 0, none⟩ = some (.slice A0_0 l0_0.length c0_0) := (blk_cell BK185.out 0).trans rfl
        have hcz16_1 : w13.cell? ⟨gb185, 1, none⟩ = some (.slice A0_1 l0_1.length c0_1) := (blk_cell BK185.out 1).trans rfl
        have hcz16_2 : w13.cell? ⟨gb185, 2, none⟩ = some (.int .i64 a0_2) := (blk_cell BK185.out 2).trans rfl
        have hfz16_0 := blk_frozen BK185.out 0
        have hfz16_1 := blk_frozen BK185.out 1
        have hfz16_2 := blk_frozen BK185.out 2
        go_wp2
        go_meet
        case rel => exact ⟨_, (decide (a1 ≥ (l0_0.length : Int))), (by first | rfl | (simp; done) | (simp [*]; done)), H', ⟨by first | omega | exact Nat.le_refl _⟩, ⟨by (with_reducible repeat (first | refine blk_drewN ?_ _ | refine blk_drew ?_ | refine blk_alloc ?_ _)); exact BK185.out⟩, ⟨by (with_reducible repeat (first | refine blk_drewN ?_ _ | refine blk_drew ?_ | refine blk_alloc ?_ _)); exact BK186.out⟩, ⟨by repeat (first | (with_reducible first | exact HB.out | apply below_alloc | apply pw_below_drewN | apply below_drew1 | refine below_set ?_ GE185.out | refine below_set ?_ GE186.out) | exact HB.out)⟩⟩
    case rest =>
      clear HC8
      try clear c1
      try clear c2
      try clear p2
      try clear c5
      try clear c7
      try clear c11
      try clear c14
      try clear c14b0
      try clear c15
      try clear hcz12_0
      try clear hcz12_1
      try clear hcz12_2
      try clear hcz16_0
      try clear hcz16_1
      try clear hcz16_2
      try clear hfz12_0
      try clear hfz12_1
      try clear hfz12_2
      try clear hfz16_0
      try clear hfz16_1
      try clear hfz16_2
      obtain ⟨kq, x31_7, rfl, HA, HJ7, BK185, BK186, HB⟩ := hcut
      cases kq with
      | zero => exact absurd HA.out (by simp [spec_Slice.j0])
      | succ kj7 =>
        have H := HA.out
        clear HA
        simp only [spec_Slice.j0] at H
        by_cases c17 : x31_7 = true
        · subst c17
          have H1 : (some (5, ([] : List Int), ([] : List Int), 0)) = some (r1, r2, r3, r4) := by rw [if_pos rfl] at H; exact H
          clear H
          have H := H1
          clear H1
          simp only [Option.some.injEq, Prod.mk.injEq] at H
          obtain ⟨rfl, rfl, rfl, rfl⟩ := H
          have hnb18 := NB186_185.out
          have hnc18 := NB185_186.out
          have hcz19_0 : wc.cell? ⟨gb186, 0, none⟩ = some (.int .i64 0) := (blk_cell BK186.out 0).trans rfl
          have hcz19_1 : wc.cell? ⟨gb186, 1, none⟩ = some (.slice none 0 0) := (blk_cell BK186.out 1).trans rfl
          have hcz19_2 : wc.cell? ⟨gb186, 2, none⟩ = some (.slice none 0 0) := (blk_cell BK186.out 2).trans rfl
          have hcz19_3 : wc.cell? ⟨gb186, 3, none⟩ = some (.int .i64 0) := (blk_cell BK186.out 3).trans rfl
          have hfz19_0 := blk_frozen BK186.out 0
          have hfz19_1 := blk_frozen BK186.out 1
          have hfz19_2 := blk_frozen BK186.out 2
          have hfz19_3 := blk_frozen BK186.out 3
          go_wp2
          refine bodyPost_ret (results_cell_row rfl _ _ gb186 53 #[.int .i64 5, .slice none 0 0, .slice none 0 0, .int .i64 0] (0, 0) _ rfl (by (with_reducible repeat (first | refine blk_drewN ?_ _ | refine blk_drew ?_ | refine blk_alloc ?_ _)); refine blk_put (cs := #[.int .i64 5, .slice none 0 0, .slice none 0 0, .int .i64 0]) ?_ 3 _ rfl; (with_reducible repeat (first | refine blk_drewN ?_ _ | refine blk_drew ?_ | refine blk_alloc ?_ _)); refine blk_put (cs := #[.int .i64 5, .slice none 0 0, .slice none 0 0, .int .i64 0]) ?_ 2 _ rfl; (with_reducible repeat (first | refine blk_drewN ?_ _ | refine blk_drew ?_ | refine blk_alloc ?_ _)); refine blk_put (cs := #[.int .i64 5, .slice none 0 0, .slice none 0 0, .int .i64 0]) ?_ 1 _ rfl; (with_reducible repeat (first | refine blk_drewN ?_ _ | refine blk_drew ?_ | refine blk_alloc ?_ _)); refine blk_put (cs := #[.int .i64 0, .slice none 0 0, .slice none 0 0, .int .i64 0]) ?_ 0 _ rfl; (with_reducible repeat (first | refine blk_drewN ?_ _ | refine blk_drew ?_ | refine blk_alloc ?_ _)); exact BK186.out) Try.underlying53 rfl (by kernel_rfl)) rfl ?_
          exact ⟨_, _, by first | rfl | (simp [errW_none, errW_some] <;> rfl) | (simp [*, errW_none, errW_some] <;> rfl), by first | exact Kd.R_nil _ _ _ _ _ | exact Kd.N_nil _ _ _ _ _ | exact Kd.V_nil _ _ _ _ _ | exact Kd.Q_nil _ _ _ _ _ | exact Kd.S_nil _ _ _ _ _, by first | exact Kd.R_nil _ _ _ _ _ | exact Kd.N_nil _ _ _ _ _ | exact Kd.V_nil _ _ _ _ _ | exact Kd.Q_nil _ _ _ _ _ | exact Kd.S_nil _ _ _ _ _, by repeat (first | (with_reducible first | exact HB.out | apply below_alloc | apply pw_below_drewN | apply below_drew1 | refine below_set ?_ GE185.out | refine below_set ?_ GE186.out) | exact HB.out)⟩
        · replace c17 := Bool.eq_false_iff.mpr c17
          subst c17
          have H1 : (if a4 = 0 then (spec_Slice.j1 kj7 a1 a2 a3 a4 true l0_0 l0_1 a0_2) else (if a4 < (-1000000) then (spec_Slice.j1 kj7 a1 a2 a3 a4 true l0_0 l0_1 a0_2) else (if a4 > 1000000 then (spec_Slice.j1 kj7 a1 a2 a3 a4 true l0_0 l0_1 a0_2) else (if a2 < (-1000000) then (spec_Slice.j1 kj7 a1 a2 a3 a4 true l0_0 l0_1 a0_2) else (if a2 > 1000000 then (spec_Slice.j1 kj7 a1 a2 a3 a4 true l0_0 l0_1 a0_2) else (if a3 < (-1000000) then (spec_Slice.j1 kj7 a1 a2 a3 a4 true l0_0 l0_1 a0_2) else (spec_Slice.j1 kj7 a1 a2 a3 a4 (decide (a3 > 1000000)) l0_0 l0_1 a0_2))))))) = some (r1, r2, r3, r4) := by rw [if_neg (show ¬ (false = true) by decide)] at H; exact H
          clear H
          have H := H1
          clear H1
          have HC20 := Aside0.mk H
          clear H
          go_upto_region 5 with (fail)
          go_cut [58] (fun v58 wc => ∃ (kq : Nat) (x58_19 : Bool), v58 = .bool x58_19 ∧ Aside0 (spec_Slice.j1 kq a1 a2 a3 a4 x58_19 l0_0 l0_1 a0_2 = some (r1, r2, r3, r4)) ∧ Aside0 (kq ≤ kj7) ∧ Aside0 (wc.heap[gb185]? = some (.cells #[(.slice A0_0 l0_0.length c0_0), (.slice A0_1 l0_1.length c0_1), .int .i64 a0_2] 32 (0, 0))) ∧ Aside0 (wc.heap[gb186]? = some (.cells #[.int .i64 0, (.slice none 0 0), (.slice none 0 0), .int .i64 0] 53 (0, 0))) ∧ Aside0 (Below w.heap.size w wc))
          case first =>
            have H := HC20.out
            clear HC20
            by_cases c21 : a4 = 0
            · rw [if_pos c21] at H
              have c21b0 : (a4 == 0) = true := beq_iff_eq.mpr c21
              have c21b1 : (a4 != 0) = false := bne_eq_false_iff_eq.mpr c21
              clear c21
              (first | rw [c21b0] | (simp only [i64_w, i32_w]; rw [c21b0]) | skip)
              have H' := Aside0.mk H
              clear H
              go_wp2
              go_meet
              case rel => exact ⟨_, (true), (by first | rfl | (simp; done) | (simp [*]; done)), H', ⟨by have := HJ7.out; first | omega | exact Nat.le_refl _⟩, ⟨by (with_reducible repeat (first | refine blk_drewN ?_ _ | refine blk_drew ?_ | refine blk_alloc ?_ _)); exact BK185.out⟩, ⟨by (with_reducible repeat (first | refine blk_drewN ?_ _ | refine blk_drew ?_ | refine blk_alloc ?_ _)); exact BK186.out⟩, ⟨by repeat (first | (with_reducible first | exact HB.out | apply below_alloc | apply pw_below_drewN | apply below_drew1 | refine below_set ?_ GE185.out | refine below_set ?_ GE186.out) | exact HB.out)⟩⟩
            · rw [if_neg c21] at H
              have c21b0 : (a4 == 0) = false := beq_eq_false_iff_ne.mpr c21
              have c21b1 : (a4 != 0) = true := bne_iff_ne.mpr c21
              (first | rw [c21b0] | (simp only [i64_w, i32_w]; rw [c21b0]) | skip)
              by_cases c22 : a4 < (-1000000)
              · rw [if_pos c22] at H
                have c22b0 : decide (a4 < (-1000000)) = true := decide_eq_true c22
                clear c22
                have H' := Aside0.mk H
                clear H
                go_wp2
                go_meet
                case rel => exact ⟨_, (true), (by first | rfl | (simp; done) | (simp [*]; done)), H', ⟨by have := HJ7.out; first | omega | exact Nat.le_refl _⟩, ⟨by (with_reducible repeat (first | refine blk_drewN ?_ _ | refine blk_drew ?_ | refine blk_alloc ?_ _)); exact BK185.out⟩, ⟨by (with_reducible repeat (first | refine blk_drewN ?_ _ | refine blk_drew ?_ | refine blk_alloc ?_ _)); exact BK186.out⟩, ⟨by repeat (first | (with_reducible first | exact HB.out | apply below_alloc | apply pw_below_drewN | apply below_drew1 | refine below_set ?_ GE185.out | refine below_set ?_ GE186.out) | exact HB.out)⟩⟩
              · rw [if_neg c22] at H
                have c22b0 : decide (a4 < (-1000000)) = false := decide_eq_false c22
                clear c22
                by_cases c23 : a4 > 1000000
                · rw [if_pos c23] at H
                  have c23b0 : decide (1000000 < a4) = true := decide_eq_true c23
                  clear c23
                  have H' := Aside0.mk H
                  clear H
                  go_wp2
                  go_meet
                  case rel => exact ⟨_, (true), (by first | rfl | (simp; done) | (simp [*]; done)), H', ⟨by have := HJ7.out; first | omega | exact Nat.le_refl _⟩, ⟨by (with_reducible repeat (first | refine blk_drewN ?_ _ | refine blk_drew ?_ | refine blk_alloc ?_ _)); exact BK185.out⟩, ⟨by (with_reducible repeat (first | refine blk_drewN ?_ _ | refine blk_drew ?_ | refine blk_alloc ?_ _)); exact BK186.out⟩, ⟨by repeat (first | (with_reducible first | exact HB.out | apply below_alloc | apply pw_below_drewN | apply below_drew1 | refine below_set ?_ GE185.out | refine below_set ?_ GE186.out) | exact HB.out)⟩⟩
                · rw [if_neg c23] at H
                  have c23b0 : decide (1000000 < a4) = false := decide_eq_false c23
                  clear c23
                  by_cases c24 : a2 < (-1000000)
                  · rw [if_pos c24] at H
                    have c24b0 : decide (a2 < (-1000000)) = true := decide_eq_true c24
                    clear c24
                    have H' := Aside0.mk H
                    clear H
                    go_wp2
                    go_meet
                    case rel => exact ⟨_, (true), (by first | rfl | (simp; done) | (simp [*]; done)), H', ⟨by have := HJ7.out; first | omega | exact Nat.le_refl _⟩, ⟨by (with_reducible repeat (first | refine blk_drewN ?_ _ | refine blk_drew ?_ | refine blk_alloc ?_ _)); exact BK185.out⟩, ⟨by (with_reducible repeat (first | refine blk_drewN ?_ _ | refine blk_drew ?_ | refine blk_alloc ?_ _)); exact BK186.out⟩, ⟨by repeat (first | (with_reducible first | exact HB.out | apply below_alloc | apply pw_below_drewN | apply below_drew1 | refine below_set ?_ GE185.out | refine below_set ?_ GE186.out) | exact HB.out)⟩⟩
                  · rw [if_neg c24] at H
                    have c24b0 : decide (a2 < (-1000000)) = false := decide_eq_false c24
                    clear c24
                    by_cases c25 : a2 > 1000000
                    · rw [if_pos c25] at H
                      have c25b0 : decide (1000000 < a2) = true := decide_eq_true c25
                      clear c25
                      have H' := Aside0.mk H
                      clear H
                      go_wp2
                      go_meet
                      case rel => exact ⟨_, (true), (by first | rfl | (simp; done) | (simp [*]; done)), H', ⟨by have := HJ7.out; first | omega | exact Nat.le_refl _⟩, ⟨by (with_reducible repeat (first | refine blk_drewN ?_ _ | refine blk_drew ?_ | refine blk_alloc ?_ _)); exact BK185.out⟩, ⟨by (with_reducible repeat (first | refine blk_drewN ?_ _ | refine blk_drew ?_ | refine blk_alloc ?_ _)); exact BK186.out⟩, ⟨by repeat (first | (with_reducible first | exact HB.out | apply below_alloc | apply pw_below_drewN | apply below_drew1 | refine below_set ?_ GE185.out | refine below_set ?_ GE186.out) | exact HB.out)⟩⟩
                    · rw [if_neg c25] at H
                      have c25b0 : decide (1000000 < a2) = false := decide_eq_false c25
                      clear c25
                      by_cases c26 : a3 < (-1000000)
                      · rw [if_pos c26] at H
                        have c26b0 : decide (a3 < (-1000000)) = true := decide_eq_true c26
                        clear c26
                        have H' := Aside0.mk H
                        clear H
                        go_wp2
                        go_meet
                        case rel => exact ⟨_, (true), (by first | rfl | (simp; done) | (simp [*]; done)), H', ⟨by have := HJ7.out; first | omega | exact Nat.le_refl _⟩, ⟨by (with_reducible repeat (first | refine blk_drewN ?_ _ | refine blk_drew ?_ | refine blk_alloc ?_ _)); exact BK185.out⟩, ⟨by (with_reducible repeat (first | refine blk_drewN ?_ _ | refine blk_drew ?_ | refine blk_alloc ?_ _)); exact BK186.out⟩, ⟨by repeat (first | (with_reducible first | exact HB.out | apply below_alloc | apply pw_below_drewN | apply below_drew1 | refine below_set ?_ GE185.out | refine below_set ?_ GE186.out) | exact HB.out)⟩⟩
                      · rw [if_neg c26] at H
                        have c26b0 : decide (a3 < (-1000000)) = false := decide_eq_false c26
                        clear c26
                        have H' := Aside0.mk H
                        clear H
                        go_wp2
                        go_meet
                        case rel => exact ⟨_, (decide (a3 > 1000000)), (by first | rfl | (simp; done) | (simp [*]; done)), H', ⟨by have := HJ7.out; first | omega | exact Nat.le_refl _⟩, ⟨by (with_reducible repeat (first | refine blk_drewN ?_ _ | refine blk_drew ?_ | refine blk_alloc ?_ _)); exact BK185.out⟩, ⟨by (with_reducible repeat (first | refine blk_drewN ?_ _ | refine blk_drew ?_ | refine blk_alloc ?_ _)); exact BK186.out⟩, ⟨by repeat (first | (with_reducible first | exact HB.out | apply below_alloc | apply pw_below_drewN | apply below_drew1 | refine below_set ?_ GE185.out | refine below_set ?_ GE186.out) | exact HB.out)⟩⟩
          case rest =>
            clear HC20
            try clear c1
            try clear c2
            try clear p2
            try clear c5
            try clear c7
            try clear c11
            try clear c14
            try clear c14b0
            try clear c15
            try clear c17
            try clear c18
            try clear c21
            try clear c21b0
            try clear c21b1
            try clear c22
            try clear c22b0
            try clear c23
            try clear c23b0
            try clear c24
            try clear c24b0
            try clear c25
            try clear c25b0
            try clear c26
            try clear c26b0
            try clear hcz12_0
            try clear hcz12_1
            try clear hcz12_2
            try clear hcz16_0
            try clear hcz16_1
            try clear hcz16_2
            try clear hcz19_0
            try clear hcz19_1
            try clear hcz19_2
            try clear hcz19_3
            try clear hfz12_0
            try clear hfz12_1
            try clear hfz12_2
            try clear hfz16_0
            try clear hfz16_1
            try clear hfz16_2
            try clear hfz19_0
            try clear hfz19_1
            try clear hfz19_2
            try clear hfz19_3
            try clear p2
            obtain ⟨kq, x58_19, rfl, HA, HJ19, BK185, BK186, HB⟩ := hcut
            cases kq with
            | zero => exact absurd HA.out (by simp [spec_Slice.j1])
            | succ kj19 =>
              have H := HA.out
              clear HA
              simp only [spec_Slice.j1] at H
              by_cases c27 : x58_19 = true
              · subst c27
                have H1 : (some (8, ([] : List Int), ([] : List Int), 0)) = some (r1, r2, r3, r4) := by rw [if_pos rfl] at H; exact H
                clear H
                have H := H1
                clear H1
                simp only [Option.some.injEq, Prod.mk.injEq] at H
                obtain ⟨rfl, rfl, rfl, rfl⟩ := H
                have hnb28 := NB186_185.out
                have hnc28 := NB185_186.out
                have hcz29_0 : wc.cell? ⟨gb186, 0, none⟩ = some (.int .i64 0) := (blk_cell BK186.out 0).trans rfl
                have hcz29_1 : wc.cell? ⟨gb186, 1, none⟩ = some (.slice none 0 0) := (blk_cell BK186.out 1).trans rfl
                have hcz29_2 : wc.cell? ⟨gb186, 2, none⟩ = some (.slice none 0 0) := (blk_cell BK186.out 2).trans rfl
                have hcz29_3 : wc.cell? ⟨gb186, 3, none⟩ = some (.int .i64 0) := (blk_cell BK186.out 3).trans rfl
                have hfz29_0 := blk_frozen BK186.out 0
                have hfz29_1 := blk_frozen BK186.out 1
                have hfz29_2 := blk_frozen BK186.out 2
                have hfz29_3 := blk_frozen BK186.out 3
                go_wp2
                refine bodyPost_ret (results_cell_row rfl _ _ gb186 53 #[.int .i64 8, .slice none 0 0, .slice none 0 0, .int .i64 0] (0, 0) _ rfl (by (with_reducible repeat (first | refine blk_drewN ?_ _ | refine blk_drew ?_ | refine blk_alloc ?_ _)); refine blk_put (cs := #[.int .i64 8, .slice none 0 0, .slice none 0 0, .int .i64 0]) ?_ 3 _ rfl; (with_reducible repeat (first | refine blk_drewN ?_ _ | refine blk_drew ?_ | refine blk_alloc ?_ _)); refine blk_put (cs := #[.int .i64 8, .slice none 0 0, .slice none 0 0, .int .i64 0]) ?_ 2 _ rfl; (with_reducible repeat (first | refine blk_drewN ?_ _ | refine blk_drew ?_ | refine blk_alloc ?_ _)); refine blk_put (cs := #[.int .i64 8, .slice none 0 0, .slice none 0 0, .int .i64 0]) ?_ 1 _ rfl; (with_reducible repeat (first | refine blk_drewN ?_ _ | refine blk_drew ?_ | refine blk_alloc ?_ _)); refine blk_put (cs := #[.int .i64 0, .slice none 0 0, .slice none 0 0, .int .i64 0]) ?_ 0 _ rfl; (with_reducible repeat (first | refine blk_drewN ?_ _ | refine blk_drew ?_ | refine blk_alloc ?_ _)); exact BK186.out) Try.underlying53 rfl (by kernel_rfl)) rfl ?_
                exact ⟨_, _, by first | rfl | (simp [errW_none, errW_some] <;> rfl) | (simp [*, errW_none, errW_some] <;> rfl), by first | exact Kd.R_nil _ _ _ _ _ | exact Kd.N_nil _ _ _ _ _ | exact Kd.V_nil _ _ _ _ _ | exact Kd.Q_nil _ _ _ _ _ | exact Kd.S_nil _ _ _ _ _, by first | exact Kd.R_nil _ _ _ _ _ | exact Kd.N_nil _ _ _ _ _ | exact Kd.V_nil _ _ _ _ _ | exact Kd.Q_nil _ _ _ _ _ | exact Kd.S_nil _ _ _ _ _, by repeat (first | (with_reducible first | exact HB.out | apply below_alloc | apply pw_below_drewN | apply below_drew1 | refine below_set ?_ GE185.out | refine below_set ?_ GE186.out) | exact HB.out)⟩
              · replace c27 := Bool.eq_false_iff.mpr c27
                subst c27
                have H1 : (if 0 ≤ a1 then (if a1 < (l0_0.length : Int) then (if a4 < 0 then (spec_Slice.j2 kj19 a1 a2 a3 a4 (rd l0_0 a1) (-1) (wrap64 ((rd l0_0 a1) - 1)) l0_0 l0_1 a0_2) else (spec_Slice.j2 kj19 a1 a2 a3 a4 (rd l0_0 a1) 0 (rd l0_0 a1) l0_0 l0_1 a0_2)) else (none)) else (none)) = some (r1, r2, r3, r4) := by rw [if_neg (show ¬ (false = true) by decide)] at H; exact H
                clear H
                have H := H1
                clear H1
                by_cases c30 : 0 ≤ a1
                · rw [if_pos c30] at H
                  have c30b0 : decide (0 ≤ a1) = true := decide_eq_true c30
                  clear c30
                  by_cases c31 : a1 < (l0_0.length : Int)
                  · rw [if_pos c31] at H
                    have c31b0 : decide (a1 < (l0_0.length : Int)) = true := decide_eq_true c31
                    clear c31
                    have HC32 := Aside0.mk H
                    clear H
                    have hnb33 := NB185_186.out
                    have hnc33 := NB186_185.out
                    have hcz34_0 : wc.cell? ⟨gb185, 0, none⟩ = some (.slice A0_0 l0_0.length c0_0) := (blk_cell BK185.out 0).trans rfl
                    have hcz34_1 : wc.cell? ⟨gb185, 1, none⟩ = some (.slice A0_1 l0_1.length c0_1) := (blk_cell BK185.out 1).trans rfl
                    have hcz34_2 : wc.cell? ⟨gb185, 2, none⟩ = some (.int .i64 a0_2) := (blk_cell BK185.out 2).trans rfl
                    have hfz34_0 := blk_frozen BK185.out 0
                    have hfz34_1 := blk_frozen BK185.out 1
                    have hfz34_2 := blk_frozen BK185.out 2
                    have p188 : 0 ≤ (a1 : Int) := of_decide_eq_true (by first | (with_reducible assumption) | assumption)
                    have q188 : a1 < (l0_0.length : Int) := of_decide_eq_true (by first | (with_reducible assumption) | assumption)
                    obtain ⟨ad188, e188, hx188_0⟩ := Kd.at_int HR0_0.out a1 p188 q188
                    cases e188
                    replace hx188_0 := (HB.out.cell (World.block_lt_of_cell? w _ hx188_0)).trans hx188_0
                    replace p188 := eq_true p188
                    replace q188 := eq_true q188
                    go_upto_if 67 with (fail)
                    go_cut [12, 13] (fun v12 v13 wc => ∃ (kq : Nat) (x12_31 : Int) (x13_31 : Int), v12 = .int .i64 x12_31 ∧ v13 = .int .i64 x13_31 ∧ Aside0 (spec_Slice.j2 kq a1 a2 a3 a4 (rd l0_0 a1) x12_31 x13_31 l0_0 l0_1 a0_2 = some (r1, r2, r3, r4)) ∧ Aside0 (kq ≤ kj19) ∧ Aside0 (wc.heap[gb185]? = some (.cells #[(.slice (some ad188) l0_0.length c0_0), (.slice A0_1 l0_1.length c0_1), .int .i64 a0_2] 32 (0, 0))) ∧ Aside0 (wc.heap[gb186]? = some (.cells #[.int .i64 0, (.slice none 0 0), (.slice none 0 0), .int .i64 0] 53 (0, 0))) ∧ Aside0 (Below w.heap.size w wc))
                    case first =>
                      have H := HC32.out
                      clear HC32
                      by_cases c35 : a4 < 0
                      · rw [if_pos c35] at H
                        have c35b0 : decide (a4 < 0) = true := decide_eq_true c35
                        clear c35
                        (first | rw [c35b0] | (simp only [i64_w, i32_w]; rw [c35b0]) | skip)
                        have H' := Aside0.mk H
                        clear H
                        go_wp2
                        go_meet
                        case rel => exact ⟨_, ((-1)), (wrap64 ((rd l0_0 a1) - 1)), (by first | rfl | (simp; done) | (simp [*]; done)), (by first | rfl | (simp; done) | (simp [*]; done)), H', ⟨by have := HJ7.out; have := HJ19.out; first | omega | exact Nat.le_refl _⟩, ⟨by (with_reducible repeat (first | refine blk_drewN ?_ _ | refine blk_drew ?_ | refine blk_alloc ?_ _)); exact BK185.out⟩, ⟨by (with_reducible repeat (first | refine blk_drewN ?_ _ | refine blk_drew ?_ | refine blk_alloc ?_ _)); exact BK186.out⟩, ⟨by repeat (first | (with_reducible first | exact HB.out | apply below_alloc | apply pw_below_drewN | apply below_drew1 | refine below_set ?_ GE185.out | refine below_set ?_ GE186.out) | exact HB.out)⟩⟩
                      · rw [if_neg c35] at H
                        have c35b0 : decide (a4 < 0) = false := decide_eq_false c35
                        clear c35
                        (first | rw [c35b0] | (simp only [i64_w, i32_w]; rw [c35b0]) | skip)
                        have H' := Aside0.mk H
                        clear H
                        go_wp2
                        go_meet
                        case rel => exact ⟨_, (0), (rd l0_0 a1), (by first | rfl | (simp; done) | (simp [*]; done)), (by first | rfl | (simp; done) | (simp [*]; done)), H', ⟨by have := HJ7.out; have := HJ19.out; first | omega | exact Nat.le_refl _⟩, ⟨by (with_reducible repeat (first | refine blk_drewN ?_ _ | refine blk_drew ?_ | refine blk_alloc ?_ _)); exact BK185.out⟩, ⟨by (with_reducible repeat (first | refine blk_drewN ?_ _ | refine blk_drew ?_ | refine blk_alloc ?_ _)); exact BK186.out⟩, ⟨by repeat (first | (with_reducible first | exact HB.out | apply below_alloc | apply pw_below_drewN | apply below_drew1 | refine below_set ?_ GE185.out | refine below_set ?_ GE186.out) | exact HB.out)⟩⟩
                    case rest =>
                      clear HC32
                      try clear c1
                      try clear p1
                      try clear q1
                      try clear hx1
                      try clear c2
                      try clear p2
                      try clear c3
                      try clear c5
                      try clear p6
                      try clear c7
                      try clear c11
                      try clear c14
                      try clear c14b0
                      try clear c15
                      try clear c17
                      try clear c18
                      try clear p18
                      try clear q18
                      try clear hx18
                      try clear c21
                      try clear c21b0
                      try clear c21b1
                      try clear c22
                      try clear c22b0
                      try clear c23
                      try clear c23b0
                      try clear c24
                      try clear c24b0
                      try clear c25
                      try clear c25b0
                      try clear c26
                      try clear c26b0
                      try clear c27
                      try clear c28
                      try clear c30
                      try clear c30b0
                      try clear c31
                      try clear c31b0
                      try clear c33
                      try clear c35
                      try clear c35b0
                      try clear hcz12_0
                      try clear hcz12_1
                      try clear hcz12_2
                      try clear hcz16_0
                      try clear hcz16_1
                      try clear hcz16_2
                      try clear hcz19_0
                      try clear hcz19_1
                      try clear hcz19_2
                      try clear hcz19_3
                      try clear hcz29_0
                      try clear hcz29_1
                      try clear hcz29_2
                      try clear hcz29_3
                      try clear hcz34_0
                      try clear hcz34_1
                      try clear hcz34_2
                      try clear hfz12_0
                      try clear hfz12_1
                      try clear hfz12_2
                      try clear hfz16_0
                      try clear hfz16_1
                      try clear hfz16_2
                      try clear hfz19_0
                      try clear hfz19_1
                      try clear hfz19_2
                      try clear hfz19_3
                      try clear hfz29_0
                      try clear hfz29_1
                      try clear hfz29_2
                      try clear hfz29_3
                      try clear hfz34_0
                      try clear hfz34_1
                      try clear hfz34_2
                      try clear hx188_0
                      try clear p188
                      try clear p2
                      try clear q188
                      obtain ⟨kq, x12_31, x13_31, rfl, rfl, HA, HJ31, BK185, BK186, HB⟩ := hcut
                      cases kq with
                      | zero => exact absurd HA.out (by simp [spec_Slice.j2])
                      | succ kj31 =>
                        have H := HA.out
                        clear HA
                        simp only [spec_Slice.j2] at H
                        replace H := Option.bind_eq_some_iff.mp H
                        obtain ⟨t189, A360, H⟩ := H
                        replace H : ((spec_l2Right.f a3 (rd l0_0 a1) x12_31 x13_31).bind fun t190 => (spec_Slice.l0 kj31 a1 a4 t190 (([] : List Int)) t189 l0_0 l0_1 a0_2)) = some (r1, r2, r3, r4) := H
                        have A36 := Aside0.mk A360
                        clear A360
                        replace H := Option.bind_eq_some_iff.mp H
                        obtain ⟨t190, A370, H⟩ := H
                        replace H : (spec_Slice.l0 kj31 a1 a4 t190 (([] : List Int)) t189 l0_0 l0_1 a0_2) = some (r1, r2, r3, r4) := H
                        have A37 := Aside0.mk A370
                        clear A370
                        obtain ⟨y191, hy191⟩ : ∃ y_ : List Int, y_ = (([] : List Int)) := ⟨_, rfl⟩
                        replace H : (spec_Slice.l0 kj31 a1 a4 t190 y191 t189 l0_0 l0_1 a0_2) = some (r1, r2, r3, r4) := by first | (rw [hy191]; with_reducible exact H) | (have H2_ := (Option.bind_some _ _).symm.trans H; rw [hy191]; with_reducible exact H2_) | (have H2_ := (Option.bind_some _ _).symm.trans H; with_reducible exact H2_) | with_reducible exact H | (rw [hy191]; exact H) | exact H
                        have Ny191 := Aside0.mk hy191
                        clear hy191
                        have HC38 := Aside0.mk H
                        clear H
                        go_upto_block 0 with (first | ((with_reducible refine gate_callee (f := 100) rfl ?_); refine goesL_ (some 74) rfl rfl Try.func100 (by kernel_rfl) rfl #[.int .i64 a2, .int .i64 (rd l0_0 a1), .int .i64 x12_31, .int .i64 x13_31] rfl (by (try simp only [List.map_toArray, List.map_cons, List.map_nil]); first | done | rfl | (simp only [List.length_drop, List.length_take]; rfl)) ?_; (with_reducible refine (spec_l2Right.calls a2 (rd l0_0 a1) x12_31 x13_31 t189 _ A36.out).mono ?_); rintro e w' ⟨rfl, ⟨nd, rfl⟩⟩; refine ⟨_, rfl, ?_⟩) | ((with_reducible refine gate_callee (f := 100) rfl ?_); refine goesL_ (some 79) rfl rfl Try.func100 (by kernel_rfl) rfl #[.int .i64 a3, .int .i64 (rd l0_0 a1), .int .i64 x12_31, .int .i64 x13_31] rfl (by (try simp only [List.map_toArray, List.map_cons, List.map_nil]); first | done | rfl | (simp only [List.length_drop, List.length_take]; rfl)) ?_; (with_reducible refine (spec_l2Right.calls a3 (rd l0_0 a1) x12_31 x13_31 t190 _ A37.out).mono ?_); rintro e w' ⟨rfl, ⟨nd, rfl⟩⟩; refine ⟨_, rfl, ?_⟩) | ((with_reducible refine gate_dst (N := 80) rfl ?_); (try (refine gate_guard (by rfl) ?_; dsimp only)); refine Kd.R_lit (Kd.int .i64) _ 2 ?hg (N := 80) ?hd (xs := ([] : List Int)) (inner := []) (ok := fun _ => True) (okp := fun _ => True) ?hr ?hp (fun _ hk => hk) trivial (Below.refl _ _) (Nat.le_refl _) (by simp) ?_; (case hd => rfl); (case hg => rfl); (case hr => first | (go_simp; done) | (go_simp; rfl)); (case hp => exact (Reps.none _ _)); intro v192 w39 ho40 hb hg_ hnew_; clear hg_ hnew_; (first | rw [← Ny191.out] at ho40 | (simp only [Int.reduceToNat] at ho40; rw [← Ny191.out] at ho40)); have n0_ := Aside0.mk (Kd.R_lower ho40 (below_size (by repeat (first | (with_reducible first | exact HB.out | apply below_alloc | apply pw_below_drewN | apply below_drew1 | refine below_set ?_ GE185.out | refine below_set ?_ GE186.out) | exact HB.out)))); have n1_ := Aside0.mk (blk_below (g := gb185) (o := .cells #[.slice (some ad188) l0_0.length c0_0, .slice A0_1 l0_1.length c0_1, .int .i64 a0_2] 32 (0, 0)) (by (with_reducible repeat (first | refine blk_drewN ?_ _ | refine blk_drew ?_ | refine blk_alloc ?_ _)); exact BK185.out) hb); have n2_ := Aside0.mk (blk_below (g := gb186) (o := .cells #[.int .i64 0, .slice none 0 0, .slice none 0 0, .int .i64 0] 53 (0, 0)) (by (with_reducible repeat (first | refine blk_drewN ?_ _ | refine blk_drew ?_ | refine blk_alloc ?_ _)); exact BK186.out) hb); have n3_ := Aside0.mk (below_step (by repeat (first | (with_reducible first | exact HB.out | apply below_alloc | apply pw_below_drewN | apply below_drew1 | refine below_set ?_ GE185.out | refine below_set ?_ GE186.out) | exact HB.out)) hb); clear BK185; clear BK186; clear HB; have HO193 := n0_; have BK185 := n1_; have BK186 := n2_; have HB := n3_; clear n0_ n1_ n2_ n3_; clear hb ho40))
                        (try simp only [Act.put, List.setIfInBounds_toArray, List.set_cons_zero, List.set_cons_succ])
                        go_cut [16] (fun v16 wc => ∃ (kq : Nat) (x16_37 : List Int), Aside0 (spec_Slice.j4 kq a1 a4 x16_37 l0_0 l0_1 a0_2 = some (r1, r2, r3, r4)) ∧ Aside0 (kq ≤ kj31) ∧ Aside0 (Kd.R (Kd.int .i64) 2 wc w.heap.size (fun _ => True) v16 x16_37) ∧ Aside0 (wc.heap[gb185]? = some (.cells #[(.slice (some ad188) l0_0.length c0_0), (.slice A0_1 l0_1.length c0_1), .int .i64 a0_2] 32 (0, 0))) ∧ Aside0 (wc.heap[gb186]? = some (.cells #[.int .i64 0, (.slice none 0 0), (.slice none 0 0), .int .i64 0] 53 (0, 0))) ∧ Aside0 (Below w.heap.size w wc))
                        case first =>
                          have H := HC38.out
                          clear HC38
                          have H' := Aside0.mk H
                          clear H
                          go_wp2
                          go_loopg [16, 17] kj31 (fun kq v16 v17 w' => ∃ (x16_4 : List Int) (x17_4 : Int), v17 = .int .i64 x17_4 ∧ Aside0 (spec_Slice.l0 kq a1 a4 t190 x16_4 x17_4 l0_0 l0_1 a0_2 = some (r1, r2, r3, r4)) ∧ Aside0 (kq ≤ kj31) ∧ Aside0 (Kd.R (Kd.int .i64) 2 w' w.heap.size (fun _ => True) v16 x16_4) ∧ Aside0 (w'.heap[gb185]? = some (.cells #[(.slice (some ad188) l0_0.length c0_0), (.slice A0_1 l0_1.length c0_1), .int .i64 a0_2] 32 (0, 0))) ∧ Aside0 (w'.heap[gb186]? = some (.cells #[.int .i64 0, (.slice none 0 0), (.slice none 0 0), .int .i64 0] 53 (0, 0))) ∧ Aside0 (Below w.heap.size w w'))
                          case atStart => exact ⟨(y191), (t189), (by first | rfl | (simp; done) | (simp [*]; done)), H', ⟨Nat.le_refl _⟩, ⟨by (with_reducible repeat (first | apply Kd.R_alloc | apply Kd.R_drewN | apply Kd.R_drew)); exact HO193.out⟩, ⟨by (with_reducible repeat (first | refine blk_drewN ?_ _ | refine blk_drew ?_ | refine blk_alloc ?_ _)); exact BK185.out⟩, ⟨by (with_reducible repeat (first | refine blk_drewN ?_ _ | refine blk_drew ?_ | refine blk_alloc ?_ _)); exact BK186.out⟩, ⟨by repeat (first | (with_reducible first | exact HB.out | apply below_alloc | apply pw_below_drewN | apply below_drew1 | refine below_set ?_ GE185.out | refine below_set ?_ GE186.out) | exact HB.out)⟩⟩
                          case round =>
                            clear H'
                            try clear c1
                            try clear p1
                            try clear q1
                            try clear hx1
                            try clear c2
                            try clear p2
                            try clear c3
                            try clear c5
                            try clear p6
                            try clear c7
                            try clear c10
                            try clear c11
                            try clear c14
                            try clear c14b0
                            try clear c15
                            try clear c17
                            try clear c18
                            try clear p18
                            try clear q18
                            try clear hx18
                            try clear c21
                            try clear c21b0
                            try clear c21b1
                            try clear c22
                            try clear c22b0
                            try clear c23
                            try clear c23b0
                            try clear c24
                            try clear c24b0
                            try clear c25
                            try clear c25b0
                            try clear c26
                            try clear c26b0
                            try clear c27
                            try clear c28
                            try clear c30
                            try clear c30b0
                            try clear c31
                            try clear c31b0
                            try clear c33
                            try clear c35
                            try clear c35b0
                            try clear hcz12_0
                            try clear hcz12_1
                            try clear hcz12_2
                            try clear hcz16_0
                            try clear hcz16_1
                            try clear hcz16_2
                            try clear hcz19_0
                            try clear hcz19_1
                            try clear hcz19_2
                            try clear hcz19_3
                            try clear hcz29_0
                            try clear hcz29_1
                            try clear hcz29_2
                            try clear hcz29_3
                            try clear hcz34_0
                            try clear hcz34_1
                            try clear hcz34_2
                            try clear hfz12_0
                            try clear hfz12_1
                            try clear hfz12_2
                            try clear hfz16_0
                            try clear hfz16_1
                            try clear hfz16_2
                            try clear hfz19_0
                            try clear hfz19_1
                            try clear hfz19_2
                            try clear hfz19_3
                            try clear hfz29_0
                            try clear hfz29_1
                            try clear hfz29_2
                            try clear hfz29_3
                            try clear hfz34_0
                            try clear hfz34_1
                            try clear hfz34_2
                            try clear hx188_0
                            try clear p1
                            try clear p18
                            try clear p188
                            try clear p2
                            try clear p6
                            try clear q1
                            try clear q18
                            try clear q188
                            obtain ⟨x16_4, x17_4, rfl, HA, HK4, HO_16, BK185, BK186, HB⟩ := hrel
                            cases gk with
                            | zero => exact absurd HA.out (by simp [spec_Slice.l0])
                            | succ k4 =>
                              have H := HA.out
                              clear HA
                              simp only [spec_Slice.l0] at H
                              by_cases c41 : a4 > 0
                              · rw [if_pos c41] at H
                                have c41b0 : decide (0 < a4) = true := decide_eq_true c41
                                clear c41
                                (first | rw [c41b0] | (simp only [i64_w, i32_w]; rw [c41b0]) | skip)
                                by_cases c42 : x17_4 < t190
                                · rw [if_pos c42] at H
                                  have c42b0 : decide (x17_4 < t190) = true := decide_eq_true c42
                                  clear c42
                                  by_cases c43 : x16_4.length < 17592186044416
                                  · rw [if_pos c43] at H
                                    have LMc43 := Aside0.mk c43
                                    clear c43
                                    obtain ⟨y194, hy194⟩ : ∃ y_ : List Int, y_ = (x16_4 ++ [x17_4]) := ⟨_, rfl⟩
                                    replace H : (spec_Slice.l0 k4 a1 a4 t190 y194 (wrap64 (x17_4 + a4)) l0_0 l0_1 a0_2) = some (r1, r2, r3, r4) := by first | (rw [hy194]; with_reducible exact H) | (have H2_ := (Option.bind_some _ _).symm.trans H; rw [hy194]; with_reducible exact H2_) | (have H2_ := (Option.bind_some _ _).symm.trans H; with_reducible exact H2_) | with_reducible exact H | (rw [hy194]; exact H) | exact H
                                    have Ny194 := Aside0.mk hy194
                                    clear hy194
                                    have H' := Aside0.mk H
                                    clear H
                                    go_wp2_with (first | ((with_reducible refine gate_builtin (b := .append) (xs := #[.tmp 101, .tmp 103]) rfl ?_); (try (refine gate_guard (by rfl) ?_; dsimp only)); at_builtin; refine Kd.R_append (Kd.int .i64) (w0 := w) w.heap.size rfl (.tmp 101) (.tmp 103) 27 2 (.int .i64 0) 8 rfl Try.underlying27 info2 rfl (by decide) (by omega) u16 x16_4 x17_4 [.int .i64 x17_4] (fun _ => True) (fun _ => False) rfl rfl ?aP (fun _ hk => hk.elim) ?aF ?aO ?aB ?aS ?aL ?_; (case aP => exact rfl); (case aB => exact (by repeat (first | (with_reducible first | exact HB.out | apply below_alloc | apply pw_below_drewN | apply below_drew1 | refine below_set ?_ GE185.out | refine below_set ?_ GE186.out) | exact HB.out))); (case aF => exact (fun _ _ => trivial)); (case aO => exact (by (with_reducible repeat (first | apply Kd.R_alloc | apply Kd.R_drewN | apply Kd.R_drew)); exact HO_16.out)); (case aS => exact (below_size (by repeat (first | (with_reducible first | exact HB.out | apply below_alloc | apply pw_below_drewN | apply below_drew1 | refine below_set ?_ GE185.out | refine below_set ?_ GE186.out) | exact HB.out)))); (case aL => have := LMc43.out; omega); intro v195 w44 ho hb hg hat; rw [← Ny194.out] at ho; have n0_ := Aside0.mk (blk_grown (g := gb185) (o := .cells #[.slice (some ad188) l0_0.length c0_0, .slice A0_1 l0_1.length c0_1, .int .i64 a0_2] 32 (0, 0)) (by (with_reducible repeat (first | refine blk_drewN ?_ _ | refine blk_drew ?_ | refine blk_alloc ?_ _)); exact BK185.out) hg (Kd.R_ne HO_16.out BK185.out (by decide))); have n1_ := Aside0.mk (blk_grown (g := gb186) (o := .cells #[.int .i64 0, .slice none 0 0, .slice none 0 0, .int .i64 0] 53 (0, 0)) (by (with_reducible repeat (first | refine blk_drewN ?_ _ | refine blk_drew ?_ | refine blk_alloc ?_ _)); exact BK186.out) hg (Kd.R_ne HO_16.out BK186.out (by decide))); have n2_ := Aside0.mk (hb); have n3_ := Aside0.mk (ho); clear BK185; clear BK186; clear HB; clear HO_16; have BK185 := n0_; have BK186 := n1_; have HB := n2_; have HO196 := n3_; clear n0_ n1_ n2_ n3_; clear ho hb hg hat))
                                    go_roundg k4
                                    case measure => have := HJ7.out; have := HJ19.out; have := HJ31.out; have := HK4.out; omega
                                    case rel => exact ⟨(y194), (wrap64 (x17_4 + a4)), (by first | rfl | (simp; done) | (simp [*]; done)), H', ⟨by have := HJ7.out; have := HJ19.out; have := HJ31.out; have := HK4.out; omega⟩, ⟨by (with_reducible repeat (first | apply Kd.R_alloc | apply Kd.R_drewN | apply Kd.R_drew)); exact HO196.out⟩, ⟨by (with_reducible repeat (first | refine blk_drewN ?_ _ | refine blk_drew ?_ | refine blk_alloc ?_ _)); exact BK185.out⟩, ⟨by (with_reducible repeat (first | refine blk_drewN ?_ _ | refine blk_drew ?_ | refine blk_alloc ?_ _)); exact BK186.out⟩, ⟨by repeat (first | (with_reducible first | exact HB.out | apply below_alloc | apply pw_below_drewN | apply below_drew1 | refine below_set ?_ GE185.out | refine below_set ?_ GE186.out) | exact HB.out)⟩⟩
                                  · rw [if_neg c43] at H
                                    exact absurd H (by simp)
                                · rw [if_neg c42] at H
                                  have c42b0 : decide (x17_4 < t190) = false := decide_eq_false c42
                                  clear c42
                                  by_cases c45 : a4 < 0
                                  · rw [if_pos c45] at H
                                    have c45b0 : decide (a4 < 0) = true := decide_eq_true c45
                                    clear c45
                                    by_cases c46 : x17_4 > t190
                                    · rw [if_pos c46] at H
                                      have c46b0 : decide (t190 < x17_4) = true := decide_eq_true c46
                                      clear c46
                                      by_cases c47 : x16_4.length < 17592186044416
                                      · rw [if_pos c47] at H
                                        have LMc47 := Aside0.mk c47
                                        clear c47
                                        obtain ⟨y197, hy197⟩ : ∃ y_ : List Int, y_ = (x16_4 ++ [x17_4]) := ⟨_, rfl⟩
                                        replace H : (spec_Slice.l0 k4 a1 a4 t190 y197 (wrap64 (x17_4 + a4)) l0_0 l0_1 a0_2) = some (r1, r2, r3, r4) := by first | (rw [hy197]; with_reducible exact H) | (have H2_ := (Option.bind_some _ _).symm.trans H; rw [hy197]; with_reducible exact H2_) | (have H2_ := (Option.bind_some _ _).symm.trans H; with_reducible exact H2_) | with_reducible exact H | (rw [hy197]; exact H) | exact H
                                        have Ny197 := Aside0.mk hy197
                                        clear hy197
                                        have H' := Aside0.mk H
                                        clear H
                                        go_wp2_with (first | ((with_reducible refine gate_builtin (b := .append) (xs := #[.tmp 101, .tmp 103]) rfl ?_); (try (refine gate_guard (by rfl) ?_; dsimp only)); at_builtin; refine Kd.R_append (Kd.int .i64) (w0 := w) w.heap.size rfl (.tmp 101) (.tmp 103) 27 2 (.int .i64 0) 8 rfl Try.underlying27 info2 rfl (by decide) (by omega) u16 x16_4 x17_4 [.int .i64 x17_4] (fun _ => True) (fun _ => False) rfl rfl ?aP (fun _ hk => hk.elim) ?aF ?aO ?aB ?aS ?aL ?_; (case aP => exact rfl); (case aB => exact (by repeat (first | (with_reducible first | exact HB.out | apply below_alloc | apply pw_below_drewN | apply below_drew1 | refine below_set ?_ GE185.out | refine below_set ?_ GE186.out) | exact HB.out))); (case aF => exact (fun _ _ => trivial)); (case aO => exact (by (with_reducible repeat (first | apply Kd.R_alloc | apply Kd.R_drewN | apply Kd.R_drew)); exact HO_16.out)); (case aS => exact (below_size (by repeat (first | (with_reducible first | exact HB.out | apply below_alloc | apply pw_below_drewN | apply below_drew1 | refine below_set ?_ GE185.out | refine below_set ?_ GE186.out) | exact HB.out)))); (case aL => have := LMc47.out; omega); intro v198 w48 ho hb hg hat; rw [← Ny197.out] at ho; have n0_ := Aside0.mk (blk_grown (g := gb185) (o := .cells #[.slice (some ad188) l0_0.length c0_0, .slice A0_1 l0_1.length c0_1, .int .i64 a0_2] 32 (0, 0)) (by (with_reducible repeat (first | refine blk_drewN ?_ _ | refine blk_drew ?_ | refine blk_alloc ?_ _)); exact BK185.out) hg (Kd.R_ne HO_16.out BK185.out (by decide))); have n1_ := Aside0.mk (blk_grown (g := gb186) (o := .cells #[.int .i64 0, .slice none 0 0, .slice none 0 0, .int .i64 0] 53 (0, 0)) (by (with_reducible repeat (first | refine blk_drewN ?_ _ | refine blk_drew ?_ | refine blk_alloc ?_ _)); exact BK186.out) hg (Kd.R_ne HO_16.out BK186.out (by decide))); have n2_ := Aside0.mk (hb); have n3_ := Aside0.mk (ho); clear BK185; clear BK186; clear HB; clear HO_16; have BK185 := n0_; have BK186 := n1_; have HB := n2_; have HO199 := n3_; clear n0_ n1_ n2_ n3_; clear ho hb hg hat))
                                        go_roundg k4
                                        case measure => have := HJ7.out; have := HJ19.out; have := HJ31.out; have := HK4.out; omega
                                        case rel => exact ⟨(y197), (wrap64 (x17_4 + a4)), (by first | rfl | (simp; done) | (simp [*]; done)), H', ⟨by have := HJ7.out; have := HJ19.out; have := HJ31.out; have := HK4.out; omega⟩, ⟨by (with_reducible repeat (first | apply Kd.R_alloc | apply Kd.R_drewN | apply Kd.R_drew)); exact HO199.out⟩, ⟨by (with_reducible repeat (first | refine blk_drewN ?_ _ | refine blk_drew ?_ | refine blk_alloc ?_ _)); exact BK185.out⟩, ⟨by (with_reducible repeat (first | refine blk_drewN ?_ _ | refine blk_drew ?_ | refine blk_alloc ?_ _)); exact BK186.out⟩, ⟨by repeat (first | (with_reducible first | exact HB.out | apply below_alloc | apply pw_below_drewN | apply below_drew1 | refine below_set ?_ GE185.out | refine below_set ?_ GE186.out) | exact HB.out)⟩⟩
                                      · rw [if_neg c47] at H
                                        exact absurd H (by simp)
                                    · rw [if_neg c46] at H
                                      have c46b0 : decide (t190 < x17_4) = false := decide_eq_false c46
                                      clear c46
                                      have H' := Aside0.mk H
                                      clear H
                                      go_wp2
                                      go_meet
                                      case rel => exact ⟨_, (x16_4), H', ⟨by have := HJ7.out; have := HJ19.out; have := HJ31.out; have := HK4.out; first | omega | exact Nat.le_refl _⟩, ⟨by (with_reducible repeat (first | apply Kd.R_alloc | apply Kd.R_drewN | apply Kd.R_drew)); exact HO_16.out⟩, ⟨by (with_reducible repeat (first | refine blk_drewN ?_ _ | refine blk_drew ?_ | refine blk_alloc ?_ _)); exact BK185.out⟩, ⟨by (with_reducible repeat (first | refine blk_drewN ?_ _ | refine blk_drew ?_ | refine blk_alloc ?_ _)); exact BK186.out⟩, ⟨by repeat (first | (with_reducible first | exact HB.out | apply below_alloc | apply pw_below_drewN | apply below_drew1 | refine below_set ?_ GE185.out | refine below_set ?_ GE186.out) | exact HB.out)⟩⟩
                                  · rw [if_neg c45] at H
                                    have c45b0 : decide (a4 < 0) = false := decide_eq_false c45
                                    clear c45
                                    have H' := Aside0.mk H
                                    clear H
                                    go_wp2
                                    go_meet
                                    case rel => exact ⟨_, (x16_4), H', ⟨by have := HJ7.out; have := HJ19.out; have := HJ31.out; have := HK4.out; first | omega | exact Nat.le_refl _⟩, ⟨by (with_reducible repeat (first | apply Kd.R_alloc | apply Kd.R_drewN | apply Kd.R_drew)); exact HO_16.out⟩, ⟨by (with_reducible repeat (first | refine blk_drewN ?_ _ | refine blk_drew ?_ | refine blk_alloc ?_ _)); exact BK185.out⟩, ⟨by (with_reducible repeat (first | refine blk_drewN ?_ _ | refine blk_drew ?_ | refine blk_alloc ?_ _)); exact BK186.out⟩, ⟨by repeat (first | (with_reducible first | exact HB.out | apply below_alloc | apply pw_below_drewN | apply below_drew1 | refine below_set ?_ GE185.out | refine below_set ?_ GE186.out) | exact HB.out)⟩⟩
                              · rw [if_neg c41] at H
                                have c41b0 : decide (0 < a4) = false := decide_eq_false c41
                                clear c41
                                (first | rw [c41b0] | (simp only [i64_w, i32_w]; rw [c41b0]) | skip)
                                by_cases c49 : a4 < 0
                                · rw [if_pos c49] at H
                                  have c49b0 : decide (a4 < 0) = true := decide_eq_true c49
                                  clear c49
                                  by_cases c50 : x17_4 > t190
                                  · rw [if_pos c50] at H
                                    have c50b0 : decide (t190 < x17_4) = true := decide_eq_true c50
                                    clear c50
                                    by_cases c51 : x16_4.length < 17592186044416
                                    · rw [if_pos c51] at H
                                      have LMc51 := Aside0.mk c51
                                      clear c51
                                      obtain ⟨y200, hy200⟩ : ∃ y_ : List Int, y_ = (x16_4 ++ [x17_4]) := ⟨_, rfl⟩
                                      replace H : (spec_Slice.l0 k4 a1 a4 t190 y200 (wrap64 (x17_4 + a4)) l0_0 l0_1 a0_2) = some (r1, r2, r3, r4) := by first | (rw [hy200]; with_reducible exact H) | (have H2_ := (Option.bind_some _ _).symm.trans H; rw [hy200]; with_reducible exact H2_) | (have H2_ := (Option.bind_some _ _).symm.trans H; with_reducible exact H2_) | with_reducible exact H | (rw [hy200]; exact H) | exact H
                                      have Ny200 := Aside0.mk hy200
                                      clear hy200
                                      have H' := Aside0.mk H
                                      clear H
                                      go_wp2_with (first | ((with_reducible refine gate_builtin (b := .append) (xs := #[.tmp 101, .tmp 103]) rfl ?_); (try (refine gate_guard (by rfl) ?_; dsimp only)); at_builtin; refine Kd.R_append (Kd.int .i64) (w0 := w) w.heap.size rfl (.tmp 101) (.tmp 103) 27 2 (.int .i64 0) 8 rfl Try.underlying27 info2 rfl (by decide) (by omega) u16 x16_4 x17_4 [.int .i64 x17_4] (fun _ => True) (fun _ => False) rfl rfl ?aP (fun _ hk => hk.elim) ?aF ?aO ?aB ?aS ?aL ?_; (case aP => exact rfl); (case aB => exact (by repeat (first | (with_reducible first | exact HB.out | apply below_alloc | apply pw_below_drewN | apply below_drew1 | refine below_set ?_ GE185.out | refine below_set ?_ GE186.out) | exact HB.out))); (case aF => exact (fun _ _ => trivial)); (case aO => exact (by (with_reducible repeat (first | apply Kd.R_alloc | apply Kd.R_drewN | apply Kd.R_drew)); exact HO_16.out)); (case aS => exact (below_size (by repeat (first | (with_reducible first | exact HB.out | apply below_alloc | apply pw_below_drewN | apply below_drew1 | refine below_set ?_ GE185.out | refine below_set ?_ GE186.out) | exact HB.out)))); (case aL => have := LMc51.out; omega); intro v201 w52 ho hb hg hat; rw [← Ny200.out] at ho; have n0_ := Aside0.mk (blk_grown (g := gb185) (o := .cells #[.slice (some ad188) l0_0.length c0_0, .slice A0_1 l0_1.length c0_1, .int .i64 a0_2] 32 (0, 0)) (by (with_reducible repeat (first | refine blk_drewN ?_ _ | refine blk_drew ?_ | refine blk_alloc ?_ _)); exact BK185.out) hg (Kd.R_ne HO_16.out BK185.out (by decide))); have n1_ := Aside0.mk (blk_grown (g := gb186) (o := .cells #[.int .i64 0, .slice none 0 0, .slice none 0 0, .int .i64 0] 53 (0, 0)) (by (with_reducible repeat (first | refine blk_drewN ?_ _ | refine blk_drew ?_ | refine blk_alloc ?_ _)); exact BK186.out) hg (Kd.R_ne HO_16.out BK186.out (by decide))); have n2_ := Aside0.mk (hb); have n3_ := Aside0.mk (ho); clear BK185; clear BK186; clear HB; clear HO_16; have BK185 := n0_; have BK186 := n1_; have HB := n2_; have HO202 := n3_; clear n0_ n1_ n2_ n3_; clear ho hb hg hat))
                                      go_roundg k4
                                      case measure => have := HJ7.out; have := HJ19.out; have := HJ31.out; have := HK4.out; omega
                                      case rel => exact ⟨(y200), (wrap64 (x17_4 + a4)), (by first | rfl | (simp; done) | (simp [*]; done)), H', ⟨by have := HJ7.out; have := HJ19.out; have := HJ31.out; have := HK4.out; omega⟩, ⟨by (with_reducible repeat (first | apply Kd.R_alloc | apply Kd.R_drewN | apply Kd.R_drew)); exact HO202.out⟩, ⟨by (with_reducible repeat (first | refine blk_drewN ?_ _ | refine blk_drew ?_ | refine blk_alloc ?_ _)); exact BK185.out⟩, ⟨by (with_reducible repeat (first | refine blk_drewN ?_ _ | refine blk_drew ?_ | refine blk_alloc ?_ _)); exact BK186.out⟩, ⟨by repeat (first | (with_reducible first | exact HB.out | apply below_alloc | apply pw_below_drewN | apply below_drew1 | refine below_set ?_ GE185.out | refine below_set ?_ GE186.out) | exact HB.out)⟩⟩
                                    · rw [if_neg c51] at H
                                      exact absurd H (by simp)
                                  · rw [if_neg c50] at H
                                    have c50b0 : decide (t190 < x17_4) = false := decide_eq_false c50
                                    clear c50
                                    have H' := Aside0.mk H
                                    clear H
                                    go_wp2
                                    go_meet
                                    case rel => exact ⟨_, (x16_4), H', ⟨by have := HJ7.out; have := HJ19.out; have := HJ31.out; have := HK4.out; first | omega | exact Nat.le_refl _⟩, ⟨by (with_reducible repeat (first | apply Kd.R_alloc | apply Kd.R_drewN | apply Kd.R_drew)); exact HO_16.out⟩, ⟨by (with_reducible repeat (first | refine blk_drewN ?_ _ | refine blk_drew ?_ | refine blk_alloc ?_ _)); exact BK185.out⟩, ⟨by (with_reducible repeat (first | refine blk_drewN ?_ _ | refine blk_drew ?_ | refine blk_alloc ?_ _)); exact BK186.out⟩, ⟨by repeat (first | (with_reducible first | exact HB.out | apply below_alloc | apply pw_below_drewN | apply below_drew1 | refine below_set ?_ GE185.out | refine below_set ?_ GE186.out) | exact HB.out)⟩⟩
                                · rw [if_neg c49] at H
                                  have c49b0 : decide (a4 < 0) = false := decide_eq_false c49
                                  clear c49
                                  have H' := Aside0.mk H
                                  clear H
                                  go_wp2
                                  go_meet
                                  case rel => exact ⟨_, (x16_4), H', ⟨by have := HJ7.out; have := HJ19.out; have := HJ31.out; have := HK4.out; first | omega | exact Nat.le_refl _⟩, ⟨by (with_reducible repeat (first | apply Kd.R_alloc | apply Kd.R_drewN | apply Kd.R_drew)); exact HO_16.out⟩, ⟨by (with_reducible repeat (first | refine blk_drewN ?_ _ | refine blk_drew ?_ | refine blk_alloc ?_ _)); exact BK185.out⟩, ⟨by (with_reducible repeat (first | refine blk_drewN ?_ _ | refine blk_drew ?_ | refine blk_alloc ?_ _)); exact BK186.out⟩, ⟨by repeat (first | (with_reducible first | exact HB.out | apply below_alloc | apply pw_below_drewN | apply below_drew1 | refine below_set ?_ GE185.out | refine below_set ?_ GE186.out) | exact HB.out)⟩⟩
                        case rest =>
                          clear HC38
                          try clear c1
                          try clear p1
                          try clear q1
                          try clear hx1
                          try clear c2
                          try clear p2
                          try clear c3
                          try clear c4
                          try clear c5
                          try clear p6
                          try clear c7
                          try clear c10
                          try clear c11
                          try clear c14
                          try clear c14b0
                          try clear c15
                          try clear c17
                          try clear c18
                          try clear p18
                          try clear q18
                          try clear hx18
                          try clear c21
                          try clear c21b0
                          try clear c21b1
                          try clear c22
                          try clear c22b0
                          try clear c23
                          try clear c23b0
                          try clear c24
                          try clear c24b0
                          try clear c25
                          try clear c25b0
                          try clear c26
                          try clear c26b0
                          try clear c27
                          try clear c28
                          try clear c30
                          try clear c30b0
                          try clear c31
                          try clear c31b0
                          try clear c33
                          try clear c35
                          try clear c35b0
                          try clear c41
                          try clear c41b0
                          try clear c42
                          try clear c42b0
                          try clear c43
                          try clear c45
                          try clear c45b0
                          try clear c46
                          try clear c46b0
                          try clear c47
                          try clear c49
                          try clear c49b0
                          try clear c50
                          try clear c50b0
                          try clear c51
                          try clear hcz12_0
                          try clear hcz12_1
                          try clear hcz12_2
                          try clear hcz16_0
                          try clear hcz16_1
                          try clear hcz16_2
                          try clear hcz19_0
                          try clear hcz19_1
                          try clear hcz19_2
                          try clear hcz19_3
                          try clear hcz29_0
                          try clear hcz29_1
                          try clear hcz29_2
                          try clear hcz29_3
                          try clear hcz34_0
                          try clear hcz34_1
                          try clear hcz34_2
                          try clear hfz12_0
                          try clear hfz12_1
                          try clear hfz12_2
                          try clear hfz16_0
                          try clear hfz16_1
                          try clear hfz16_2
                          try clear hfz19_0
                          try clear hfz19_1
                          try clear hfz19_2
                          try clear hfz19_3
                          try clear hfz29_0
                          try clear hfz29_1
                          try clear hfz29_2
                          try clear hfz29_3
                          try clear hfz34_0
                          try clear hfz34_1
                          try clear hfz34_2
                          try clear hx188_0
                          try clear p1
                          try clear p18
                          try clear p188
                          try clear p2
                          try clear p6
                          try clear q1
                          try clear q18
                          try clear q188
                          obtain ⟨kq, x16_37, HA, HJ37, HO_16, BK185, BK186, HB⟩ := hcut
                          cases kq with
                          | zero => exact absurd HA.out (by simp [spec_Slice.j4])
                          | succ kj37 =>
                            have H := HA.out
                            clear HA
                            simp only [spec_Slice.j4] at H
                            replace H := Option.bind_eq_some_iff.mp H
                            obtain ⟨⟨t203, t206, t209⟩, A530, H⟩ := H
                            replace H : (if 0 ≤ a1 then (if a1 < (t203.length : Int) then ((some (t203.set (a1 : Int).toNat (x16_37.length : Int) : List Int)).bind fun y211 => ((spec_l2Count.f kj37 y211).bind fun t212 => (if t212 = 0 then (some (0, y211, t206, t209)) else (if 0 < (x16_37.length : Int) then (if a1 < (l0_1.length : Int) then (if (x16_37.length : Int) > 1 then (if a1 < (t206.length : Int) then (some (0, y211, (t206.set (a1 : Int).toNat (wrap64 (a4 * (rd l0_1 a1)))), wrap64 (a0_2 + (wrap64 ((rd x16_37 0) * (rd l0_1 a1)))))) else (none)) else (some (0, y211, t206, wrap64 (a0_2 + (wrap64 ((rd x16_37 0) * (rd l0_1 a1))))))) else (none)) else (none))))) else (none)) else (none)) = some (r1, r2, r3, r4) := H
                            have A53 := Aside0.mk A530
                            clear A530
                            by_cases c54 : 0 ≤ a1
                            · rw [if_pos c54] at H
                              have c54b0 : decide (0 ≤ a1) = true := decide_eq_true c54
                              clear c54
                              by_cases c55 : a1 < (t203.length : Int)
                              · rw [if_pos c55] at H
                                have c55b0 : decide (a1 < (t203.length : Int)) = true := decide_eq_true c55
                                clear c55
                                obtain ⟨y211, hy211⟩ : ∃ y_ : List Int, y_ = (t203.set (a1 : Int).toNat (x16_37.length : Int)) := ⟨_, rfl⟩
                                replace H : ((spec_l2Count.f kj37 y211).bind fun t212 => (if t212 = 0 then (some (0, y211, t206, t209)) else (if 0 < (x16_37.length : Int) then (if a1 < (l0_1.length : Int) then (if (x16_37.length : Int) > 1 then (if a1 < (t206.length : Int) then (some (0, y211, (t206.set (a1 : Int).toNat (wrap64 (a4 * (rd l0_1 a1)))), wrap64 (a0_2 + (wrap64 ((rd x16_37 0) * (rd l0_1 a1)))))) else (none)) else (some (0, y211, t206, wrap64 (a0_2 + (wrap64 ((rd x16_37 0) * (rd l0_1 a1))))))) else (none)) else (none)))) = some (r1, r2, r3, r4) := by first | (rw [hy211]; with_reducible exact H) | (have H2_ := (Option.bind_some _ _).symm.trans H; rw [hy211]; with_reducible exact H2_) | (have H2_ := (Option.bind_some _ _).symm.trans H; with_reducible exact H2_) | with_reducible exact H | (rw [hy211]; exact H) | exact H
                                have Ny211 := Aside0.mk hy211
                                clear hy211
                                replace H := Option.bind_eq_some_iff.mp H
                                obtain ⟨t212, A570, H⟩ := H
                                replace H : (if t212 = 0 then (some (0, y211, t206, t209)) else (if 0 < (x16_37.length : Int) then (if a1 < (l0_1.length : Int) then (if (x16_37.length : Int) > 1 then (if a1 < (t206.length : Int) then (some (0, y211, (t206.set (a1 : Int).toNat (wrap64 (a4 * (rd l0_1 a1)))), wrap64 (a0_2 + (wrap64 ((rd x16_37 0) * (rd l0_1 a1)))))) else (none)) else (some (0, y211, t206, wrap64 (a0_2 + (wrap64 ((rd x16_37 0) * (rd l0_1 a1))))))) else (none)) else (none))) = some (r1, r2, r3, r4) := H
                                have A57 := Aside0.mk A570
                                clear A570
                                by_cases c58 : t212 = 0
                                · rw [if_pos c58] at H
                                  have c58b0 : (t212 == 0) = true := beq_iff_eq.mpr c58
                                  have c58b1 : (t212 != 0) = false := bne_eq_false_iff_eq.mpr c58
                                  clear c58
                                  simp only [Option.some.injEq, Prod.mk.injEq] at H
                                  obtain ⟨rfl, rfl, rfl, rfl⟩ := H
                                  have hnb59 := NB185_186.out
                                  have hnc59 := NB186_185.out
                                  have hcz60_0 : wc.cell? ⟨gb185, 0, none⟩ = some (.slice (some ad188) l0_0.length c0_0) := (blk_cell BK185.out 0).trans rfl
                                  have hcz60_1 : wc.cell? ⟨gb185, 1, none⟩ = some (.slice A0_1 l0_1.length c0_1) := (blk_cell BK185.out 1).trans rfl
                                  have hcz60_2 : wc.cell? ⟨gb185, 2, none⟩ = some (.int .i64 a0_2) := (blk_cell BK185.out 2).trans rfl
                                  have hfz60_0 := blk_frozen BK185.out 0
                                  have hfz60_1 := blk_frozen BK185.out 1
                                  have hfz60_2 := blk_frozen BK185.out 2
                                  go_wp2_with (first | ((with_reducible refine gate_callee (f := 101) rfl ?_); refine goesL_ (some 106) rfl rfl Try.func101 (by kernel_rfl) rfl #[.agg #[.slice (some ad188) l0_0.length c0_0, .slice A0_1 l0_1.length c0_1, .int .i64 a0_2]] rfl (by (try simp only [List.map_toArray, List.map_cons, List.map_nil]); first | done | rfl | (simp only [List.length_drop, List.length_take]; rfl)) ?_; (with_reducible refine (spec_l2CopyView.calls kj37 _ _ l0_0 _ _ l0_1 a0_2 t203 t206 t209 _ ?side1 ?side2 ?side3 ?side4 A53.out).mono ?_); (case side1 => repeat (first | exact (Kd.C_below HR0_0.out HB.out) | (with_reducible refine Kd.C_alloc ?_ _) | (with_reducible refine Kd.C_drewN ?_ _) | (with_reducible refine Kd.C_drew ?_))); (case side2 => exact HC0_0.out); (case side3 => repeat (first | exact (Kd.C_below HR0_1.out HB.out) | (with_reducible refine Kd.C_alloc ?_ _) | (with_reducible refine Kd.C_drewN ?_ _) | (with_reducible refine Kd.C_drew ?_))); (case side4 => exact HC0_1.out); rintro e w61 ⟨v204, v207, rfl, ho0, ho1, hb⟩; refine ⟨_, rfl, ?_⟩; have n0_ := Aside0.mk (Kd.R_mono (Kd.R_told (Kd.R_told (Kd.R_old (by (with_reducible repeat (first | apply Kd.R_alloc | apply Kd.R_drewN | apply Kd.R_drew)); exact HO_16.out) hb) (Kd.R_base ho0)) (Kd.R_base ho1)) (fun _ h_ => h_.1)); have n1_ := Aside0.mk (Kd.R_lower (Kd.R_new' ho0 (Kd.R_lt (by (with_reducible repeat (first | apply Kd.R_alloc | apply Kd.R_drewN | apply Kd.R_drew)); exact HO_16.out))) (below_size (by repeat (first | (with_reducible first | exact HB.out | apply below_alloc | apply pw_below_drewN | apply below_drew1 | refine below_set ?_ GE185.out | refine below_set ?_ GE186.out) | exact HB.out)))); have n2_ := Aside0.mk (Kd.R_lower (Kd.R_new' ho1 (Kd.R_lt (by (with_reducible repeat (first | apply Kd.R_alloc | apply Kd.R_drewN | apply Kd.R_drew)); exact HO_16.out))) (below_size (by repeat (first | (with_reducible first | exact HB.out | apply below_alloc | apply pw_below_drewN | apply below_drew1 | refine below_set ?_ GE185.out | refine below_set ?_ GE186.out) | exact HB.out)))); have n3_ := Aside0.mk (blk_below (g := gb185) (o := .cells #[.slice (some ad188) l0_0.length c0_0, .slice A0_1 l0_1.length c0_1, .int .i64 a0_2] 32 (0, 0)) (by (with_reducible repeat (first | refine blk_drewN ?_ _ | refine blk_drew ?_ | refine blk_alloc ?_ _)); exact BK185.out) hb); have n4_ := Aside0.mk (blk_below (g := gb186) (o := .cells #[.int .i64 0, .slice none 0 0, .slice none 0 0, .int .i64 0] 53 (0, 0)) (by (with_reducible repeat (first | refine blk_drewN ?_ _ | refine blk_drew ?_ | refine blk_alloc ?_ _)); exact BK186.out) hb); have n5_ := Aside0.mk (below_step (by repeat (first | (with_reducible first | exact HB.out | apply below_alloc | apply pw_below_drewN | apply below_drew1 | refine below_set ?_ GE185.out | refine below_set ?_ GE186.out) | exact HB.out)) hb); clear HO_16; clear BK185; clear BK186; clear HB; have HO_16 := n0_; have HO205 := n1_; have HO208 := n2_; have BK185 := n3_; have BK186 := n4_; have HB := n5_; clear n0_ n1_ n2_ n3_ n4_ n5_; (try clear hb); (try clear hb2); (try clear hk); (try clear hi); (try clear ho0); (try clear ho1)) | ((with_reducible refine gate_dst (N := 18) rfl ?_); (try (refine gate_guard (by rfl) ?_; dsimp only)); refine box_event ?hg (N := 18) ?hd (cs := #[.slice none 0 0, .slice none 0 0, .int .i64 0]) (t := 32) ?hr ?_; (case hd => rfl); (case hg => rfl); (case hr => first | (go_simp; done) | (go_simp; rfl)); intro gb210 hg w62 hbox hb; have n0_ := Aside0.mk (Kd.R_below (by (with_reducible repeat (first | apply Kd.R_alloc | apply Kd.R_drewN | apply Kd.R_drew)); exact HO_16.out) hb); have n1_ := Aside0.mk (Kd.R_below (by (with_reducible repeat (first | apply Kd.R_alloc | apply Kd.R_drewN | apply Kd.R_drew)); exact HO205.out) hb); have n2_ := Aside0.mk (Kd.R_below (by (with_reducible repeat (first | apply Kd.R_alloc | apply Kd.R_drewN | apply Kd.R_drew)); exact HO208.out) hb); have n3_ := Aside0.mk (blk_below (g := gb185) (o := .cells #[.slice (some ad188) l0_0.length c0_0, .slice A0_1 l0_1.length c0_1, .int .i64 a0_2] 32 (0, 0)) (by (with_reducible repeat (first | refine blk_drewN ?_ _ | refine blk_drew ?_ | refine blk_alloc ?_ _)); exact BK185.out) hb); have n4_ := Aside0.mk (blk_below (g := gb186) (o := .cells #[.int .i64 0, .slice none 0 0, .slice none 0 0, .int .i64 0] 53 (0, 0)) (by (with_reducible repeat (first | refine blk_drewN ?_ _ | refine blk_drew ?_ | refine blk_alloc ?_ _)); exact BK186.out) hb); have n5_ := Aside0.mk (below_step (by repeat (first | (with_reducible first | exact HB.out | apply below_alloc | apply pw_below_drewN | apply below_drew1 | refine below_set ?_ GE185.out | refine below_set ?_ GE186.out) | exact HB.out)) hb); have n6_ := Aside0.mk (hbox); have n7_ := Aside0.mk ((by rw [hg]; exact (below_size (by repeat (first | (with_reducible first | exact HB.out | apply below_alloc | apply pw_below_drewN | apply below_drew1 | refine below_set ?_ GE185.out | refine below_set ?_ GE186.out) | exact HB.out))) : w.heap.size ≤ gb210)); have n8_ := Aside0.mk ((by rw [hg]; exact (below_size (by repeat (first | (with_reducible first | exact HB.out | apply below_alloc | apply pw_below_drewN | apply below_drew1 | refine below_set ?_ GE185.out | refine below_set ?_ GE186.out) | exact HB.out))) : w.heap.size ≤ gb210)); have n9_ := Aside0.mk ((by rw [hg]; exact Nat.ne_of_lt (blk_lt (g := gb185) (o := .cells #[.slice (some ad188) l0_0.length c0_0, .slice A0_1 l0_1.length c0_1, .int .i64 a0_2] 32 (0, 0)) (by (with_reducible repeat (first | refine blk_drewN ?_ _ | refine blk_drew ?_ | refine blk_alloc ?_ _)); exact BK185.out)) : gb185 ≠ gb210)); have n10_ := Aside0.mk ((by rw [hg]; exact Nat.ne_of_gt (blk_lt (g := gb185) (o := .cells #[.slice (some ad188) l0_0.length c0_0, .slice A0_1 l0_1.length c0_1, .int .i64 a0_2] 32 (0, 0)) (by (with_reducible repeat (first | refine blk_drewN ?_ _ | refine blk_drew ?_ | refine blk_alloc ?_ _)); exact BK185.out)) : gb210 ≠ gb185)); have n11_ := Aside0.mk ((by rw [hg]; exact Nat.ne_of_lt (blk_lt (g := gb186) (o := .cells #[.int .i64 0, .slice none 0 0, .slice none 0 0, .int .i64 0] 53 (0, 0)) (by (with_reducible repeat (first | refine blk_drewN ?_ _ | refine blk_drew ?_ | refine blk_alloc ?_ _)); exact BK186.out)) : gb186 ≠ gb210)); have n12_ := Aside0.mk ((by rw [hg]; exact Nat.ne_of_gt (blk_lt (g := gb186) (o := .cells #[.int .i64 0, .slice none 0 0, .slice none 0 0, .int .i64 0] 53 (0, 0)) (by (with_reducible repeat (first | refine blk_drewN ?_ _ | refine blk_drew ?_ | refine blk_alloc ?_ _)); exact BK186.out)) : gb210 ≠ gb186)); clear HO_16; clear HO205; clear HO208; clear BK185; clear BK186; clear HB; have HO_16 := n0_; have HO205 := n1_; have HO208 := n2_; have BK185 := n3_; have BK186 := n4_; have HB := n5_; have BK210 := n6_; have GW210 := n7_; have GE210 := n8_; have NB185_210 := n9_; have NB210_185 := n10_; have NB186_210 := n11_; have NB210_186 := n12_; clear n0_ n1_ n2_ n3_ n4_ n5_ n6_ n7_ n8_ n9_ n10_ n11_ n12_; clear hb hbox hg; obtain ⟨Ao63, co63, eo63⟩ := Kd.R_slice HO205.out; subst eo63; have hnb64 := NB210_185.out; have hnc64 := NB185_210.out; have hnb65 := NB210_186.out; have hnc65 := NB186_210.out; have hcz66_0 : w62.cell? ⟨gb210, 0, none⟩ = some (.slice none 0 0) := (blk_cell BK210.out 0).trans rfl; have hcz66_1 : w62.cell? ⟨gb210, 1, none⟩ = some (.slice none 0 0) := (blk_cell BK210.out 1).trans rfl; have hcz66_2 : w62.cell? ⟨gb210, 2, none⟩ = some (.int .i64 0) := (blk_cell BK210.out 2).trans rfl; have hfz66_0 := blk_frozen BK210.out 0; have hfz66_1 := blk_frozen BK210.out 1; have hfz66_2 := blk_frozen BK210.out 2; obtain ⟨Ao67, co67, eo67⟩ := Kd.R_slice HO208.out; subst eo67) | ((with_reducible refine gate_store (t := 32) (p := 18) rfl ?_); refine store_event (t := 32) (p := 18) (v := ?vo_w68) (w1 := (((w62.setCell ⟨gb210, 0, none⟩ (.slice Ao63 t203.length co63)).setCell ⟨gb210, 1, none⟩ (.slice Ao67 t206.length co67)).setCell ⟨gb210, 2, none⟩ (.int .i64 t209))) ?hg ?ho ?hn ?hr ?_; (case ho => rfl); (case hg => rfl); (case hn => rfl); (case hr => first | (go_simp; done) | (go_simp; rfl)); intro w68 hw; have n0_ : Aside0 (Kd.R (Kd.int .i64) 2 w68 w.heap.size (fun k_ => some k_ ≠ (.slice Ao63 t203.length co63 : Value).ownBlock ∧ some k_ ≠ (.slice Ao67 t206.length co67 : Value).ownBlock) u16 x16_37) := ⟨(by rw [hw]; exact (by (with_reducible repeat (first | apply Kd.R_alloc | apply Kd.R_drewN | apply Kd.R_drew)); exact Kd.R_mono (Kd.R_far (p := ⟨gb210, 2, none⟩) (Kd.R_far (p := ⟨gb210, 1, none⟩) (Kd.R_far (p := ⟨gb210, 0, none⟩) (Kd.R_types HO_16.out BK210.out (by decide)) (fun _ hk => by first | exact hk.2 | (simp only [ne_eq, hk, not_false_eq_true, and_self, true_and, and_true])) (.slice Ao63 t203.length co63)) (fun _ hk => by first | exact hk.2 | (simp only [ne_eq, hk, not_false_eq_true, and_self, true_and, and_true])) (.slice Ao67 t206.length co67)) (fun _ hk => by first | exact hk.2 | (simp only [ne_eq, hk, not_false_eq_true, and_self, true_and, and_true])) (.int .i64 t209)) (fun _ hk => by first | exact ⟨hk.1.1.2, hk.1.2⟩ | (simp only [ne_eq, hk, not_false_eq_true, and_self, true_and, and_true]))))⟩; have n1_ : Aside0 (Kd.R (Kd.int .i64) 2 w68 w.heap.size (fun k_ => some k_ ≠ (u16 : Value).ownBlock ∧ some k_ ≠ (.slice Ao67 t206.length co67 : Value).ownBlock) (.slice Ao63 t203.length co63) t203) := ⟨(by rw [hw]; exact (by (with_reducible repeat (first | apply Kd.R_alloc | apply Kd.R_drewN | apply Kd.R_drew)); exact Kd.R_mono (Kd.R_far (p := ⟨gb210, 2, none⟩) (Kd.R_far (p := ⟨gb210, 1, none⟩) (Kd.R_far (p := ⟨gb210, 0, none⟩) (Kd.R_types HO205.out BK210.out (by decide)) (fun _ hk => by first | exact hk.2 | (simp only [ne_eq, hk, not_false_eq_true, and_self, true_and, and_true])) (.slice Ao63 t203.length co63)) (fun _ hk => by first | exact hk.2 | (simp only [ne_eq, hk, not_false_eq_true, and_self, true_and, and_true])) (.slice Ao67 t206.length co67)) (fun _ hk => by first | exact hk.2 | (simp only [ne_eq, hk, not_false_eq_true, and_self, true_and, and_true])) (.int .i64 t209)) (fun _ hk => by first | exact ⟨hk.1.2, hk.1.1⟩ | (simp only [ne_eq, hk, not_false_eq_true, and_self, true_and, and_true]))))⟩; have n2_ : Aside0 (Kd.R (Kd.int .i64) 2 w68 w.heap.size (fun k_ => some k_ ≠ (u16 : Value).ownBlock ∧ some k_ ≠ (.slice Ao63 t203.length co63 : Value).ownBlock) (.slice Ao67 t206.length co67) t206) := ⟨(by rw [hw]; exact (by (with_reducible repeat (first | apply Kd.R_alloc | apply Kd.R_drewN | apply Kd.R_drew)); exact Kd.R_mono (Kd.R_far (p := ⟨gb210, 2, none⟩) (Kd.R_far (p := ⟨gb210, 1, none⟩) (Kd.R_far (p := ⟨gb210, 0, none⟩) (Kd.R_types HO208.out BK210.out (by decide)) (fun _ hk => by first | exact hk.2 | (simp only [ne_eq, hk, not_false_eq_true, and_self, true_and, and_true])) (.slice Ao63 t203.length co63)) (fun _ hk => by first | exact hk.2 | (simp only [ne_eq, hk, not_false_eq_true, and_self, true_and, and_true])) (.slice Ao67 t206.length co67)) (fun _ hk => by first | exact hk.2 | (simp only [ne_eq, hk, not_false_eq_true, and_self, true_and, and_true])) (.int .i64 t209)) (fun _ hk => by first | exact ⟨hk.1.2, hk.1.1⟩ | (simp only [ne_eq, hk, not_false_eq_true, and_self, true_and, and_true]))))⟩; have n3_ : Aside0 (w68.heap[gb185]? = some (.cells #[.slice (some ad188) l0_0.length c0_0, .slice A0_1 l0_1.length c0_1, .int .i64 a0_2] 32 (0, 0))) := ⟨(by rw [hw]; exact (by (with_reducible repeat (first | refine blk_drewN ?_ _ | refine blk_drew ?_ | refine blk_alloc ?_ _)); refine blk_far ?_ NB185_210.out _; (with_reducible repeat (first | refine blk_drewN ?_ _ | refine blk_drew ?_ | refine blk_alloc ?_ _)); refine blk_far ?_ NB185_210.out _; (with_reducible repeat (first | refine blk_drewN ?_ _ | refine blk_drew ?_ | refine blk_alloc ?_ _)); refine blk_far ?_ NB185_210.out _; (with_reducible repeat (first | refine blk_drewN ?_ _ | refine blk_drew ?_ | refine blk_alloc ?_ _)); exact BK185.out))⟩; have n4_ : Aside0 (w68.heap[gb186]? = some (.cells #[.int .i64 0, .slice none 0 0, .slice none 0 0, .int .i64 0] 53 (0, 0))) := ⟨(by rw [hw]; exact (by (with_reducible repeat (first | refine blk_drewN ?_ _ | refine blk_drew ?_ | refine blk_alloc ?_ _)); refine blk_far ?_ NB186_210.out _; (with_reducible repeat (first | refine blk_drewN ?_ _ | refine blk_drew ?_ | refine blk_alloc ?_ _)); refine blk_far ?_ NB186_210.out _; (with_reducible repeat (first | refine blk_drewN ?_ _ | refine blk_drew ?_ | refine blk_alloc ?_ _)); refine blk_far ?_ NB186_210.out _; (with_reducible repeat (first | refine blk_drewN ?_ _ | refine blk_drew ?_ | refine blk_alloc ?_ _)); exact BK186.out))⟩; have n5_ : Aside0 (w68.heap[gb210]? = some (.cells #[.slice Ao63 t203.length co63, .slice Ao67 t206.length co67, .int .i64 t209] 32 (0, 0))) := ⟨(by rw [hw]; exact (by (with_reducible repeat (first | refine blk_drewN ?_ _ | refine blk_drew ?_ | refine blk_alloc ?_ _)); refine blk_put (cs := #[.slice Ao63 t203.length co63, .slice Ao67 t206.length co67, .int .i64 0]) ?_ 2 _ rfl; (with_reducible repeat (first | refine blk_drewN ?_ _ | refine blk_drew ?_ | refine blk_alloc ?_ _)); refine blk_put (cs := #[.slice Ao63 t203.length co63, .slice none 0 0, .int .i64 0]) ?_ 1 _ rfl; (with_reducible repeat (first | refine blk_drewN ?_ _ | refine blk_drew ?_ | refine blk_alloc ?_ _)); refine blk_put (cs := #[.slice none 0 0, .slice none 0 0, .int .i64 0]) ?_ 0 _ rfl; (with_reducible repeat (first | refine blk_drewN ?_ _ | refine blk_drew ?_ | refine blk_alloc ?_ _)); exact BK210.out))⟩; have n6_ : Aside0 (Below w.heap.size w w68) := ⟨(by rw [hw]; exact (by repeat (first | (with_reducible first | exact HB.out | apply below_alloc | apply pw_below_drewN | apply below_drew1 | refine below_set ?_ GE185.out | refine below_set ?_ GE186.out | refine below_set ?_ GE210.out) | exact HB.out)))⟩; clear hw; clear HO_16; clear HO205; clear HO208; clear BK185; clear BK186; clear BK210; clear HB; have HO_16 := n0_; have HO205 := n1_; have HO208 := n2_; have BK185 := n3_; have BK186 := n4_; have BK210 := n5_; have HB := n6_; clear n0_ n1_ n2_ n3_ n4_ n5_ n6_; have hcz69_0 : w68.cell? ⟨gb210, 0, none⟩ = some (.slice Ao63 t203.length co63) := (blk_cell BK210.out 0).trans rfl; have hcz69_1 : w68.cell? ⟨gb210, 1, none⟩ = some (.slice Ao67 t206.length co67) := (blk_cell BK210.out 1).trans rfl; have hcz69_2 : w68.cell? ⟨gb210, 2, none⟩ = some (.int .i64 t209) := (blk_cell BK210.out 2).trans rfl; have hfz69_0 := blk_frozen BK210.out 0; have hfz69_1 := blk_frozen BK210.out 1; have hfz69_2 := blk_frozen BK210.out 2; obtain ⟨Ao70, co70, eo70⟩ := Kd.R_slice HO_16.out; subst eo70; have p56 : 0 ≤ (a1 : Int) := of_decide_eq_true (by first | (with_reducible assumption) | assumption); have q56 : (a1 : Int) < ((t203.length : Int) : Int) := of_decide_eq_true (by first | (with_reducible assumption) | assumption); obtain ⟨go56, co56, eo56, gb56, gl56, cl56, HG56⟩ := Kd.R_form HO205.out (by omega); (first | cases eo56 | (injection eo56 with ea_ en_ ec_; (first | subst ea_ | (injection ea_ with ea_; subst ea_)); subst ec_; clear en_)); have GB56 := Aside0.mk gb56; have GG56 := Aside0.mk HG56; clear gb56 gl56 HG56; obtain ⟨hx56_0, hf56_0⟩ := Kd.R_celln 0 HO205.out (a1 : Int) p56 q56; replace p56 := eq_true p56; replace q56 := eq_true q56; obtain ⟨hy71_, hz71_⟩ := Kd.R_celln 0 HO205.out (a1 : Int) (of_decide_eq_true (by first | (with_reducible assumption) | assumption)) (of_decide_eq_true (by first | (with_reducible assumption) | assumption)); have HP71 := Kd.R_putg HO205.out (a1 : Int) (x16_37.length : Int)) | ((with_reducible refine gate_store (t := 2) (p := 112) rfl ?_); refine store_event (t := 2) (p := 112) (v := ?vo_w72) (w1 := (w68.setCell ⟨go56, (a1 : Int).toNat, none⟩ (.int .i64 (x16_37.length : Int)))) ?hg ?ho ?hn ?hr ?_; (case ho => rfl); (case hg => rfl); (case hn => rfl); (case hr => first | (go_simp; done) | (go_simp; rfl)); intro w72 hw; have hg : w68.grownBy w72 (some go56) := (by rw [hw]; exact HP71.2); have hp_ : Kd.R (Kd.int .i64) 2 w72 w.heap.size (fun k_ => some k_ ≠ (.slice Ao70 x16_37.length co70 : Value).ownBlock ∧ some k_ ≠ (.slice Ao67 t206.length co67 : Value).ownBlock) (.slice (some ⟨go56, 0, none⟩) t203.length co63) y211 := (by rw [hw, Ny211.out]; exact HP71.1); clear HP71; have n0_ := Aside0.mk (Kd.R_after (v := (.slice (some ⟨go56, 0, none⟩) t203.length co63)) (v1 := (.slice (some ⟨go56, 0, none⟩) t203.length co63)) (ok := (fun k_ => some k_ ≠ (.slice Ao67 t206.length co67 : Value).ownBlock)) (by (with_reducible repeat (first | apply Kd.R_alloc | apply Kd.R_drewN | apply Kd.R_drew)); exact Kd.R_mono HO_16.out (fun _ hk => by first | exact ⟨hk.2, hk.1⟩ | (simp only [ne_eq, hk, not_false_eq_true, and_self, true_and, and_true]))) hg (.inl rfl)); have n1_ := Aside0.mk (blk_grown (g := gb185) (o := .cells #[.slice (some ad188) l0_0.length c0_0, .slice A0_1 l0_1.length c0_1, .int .i64 a0_2] 32 (0, 0)) (by (with_reducible repeat (first | refine blk_drewN ?_ _ | refine blk_drew ?_ | refine blk_alloc ?_ _)); exact BK185.out) hg (Kd.R_ne HO205.out BK185.out (by decide))); have n2_ := Aside0.mk (blk_grown (g := gb186) (o := .cells #[.int .i64 0, .slice none 0 0, .slice none 0 0, .int .i64 0] 53 (0, 0)) (by (with_reducible repeat (first | refine blk_drewN ?_ _ | refine blk_drew ?_ | refine blk_alloc ?_ _)); exact BK186.out) hg (Kd.R_ne HO205.out BK186.out (by decide))); have n3_ := Aside0.mk (hp_); have n4_ := Aside0.mk (Kd.R_after (v := (.slice (some ⟨go56, 0, none⟩) t203.length co63)) (v1 := (.slice (some ⟨go56, 0, none⟩) t203.length co63)) (ok := (fun k_ => some k_ ≠ (.slice Ao70 x16_37.length co70 : Value).ownBlock)) (by (with_reducible repeat (first | apply Kd.R_alloc | apply Kd.R_drewN | apply Kd.R_drew)); exact HO208.out) hg (.inl rfl)); have n5_ := Aside0.mk (blk_grown (g := gb210) (o := .cells #[.slice (some ⟨go56, 0, none⟩) t203.length co63, .slice Ao67 t206.length co67, .int .i64 t209] 32 (0, 0)) (by (with_reducible repeat (first | refine blk_drewN ?_ _ | refine blk_drew ?_ | refine blk_alloc ?_ _)); exact BK210.out) hg (Kd.R_ne HO205.out BK210.out (by decide))); have n6_ := Aside0.mk ((by rw [hw]; exact below_set (HB.out) GB56.out : Below w.heap.size w w72)); clear HO_16; clear BK185; clear BK186; clear HO205; clear HO208; clear BK210; clear HB; have HO_16 := n0_; have BK185 := n1_; have BK186 := n2_; have HO205 := n3_; have HO208 := n4_; have BK210 := n5_; have HB := n6_; clear n0_ n1_ n2_ n3_ n4_ n5_ n6_; clear hg hw hp_; have hcz73_0 : w72.cell? ⟨gb210, 0, none⟩ = some (.slice (some ⟨go56, 0, none⟩) t203.length co63) := (blk_cell BK210.out 0).trans rfl; have hcz73_1 : w72.cell? ⟨gb210, 1, none⟩ = some (.slice Ao67 t206.length co67) := (blk_cell BK210.out 1).trans rfl; have hcz73_2 : w72.cell? ⟨gb210, 2, none⟩ = some (.int .i64 t209) := (blk_cell BK210.out 2).trans rfl; have hfz73_0 := blk_frozen BK210.out 0; have hfz73_1 := blk_frozen BK210.out 1; have hfz73_2 := blk_frozen BK210.out 2) | ((with_reducible refine gate_callee (f := 78) rfl ?_); refine goesL_ (some 115) rfl rfl Try.func78 (by kernel_rfl) rfl #[.slice (some ⟨go56, 0, none⟩) y211.length co63] rfl (by (try simp only [List.map_toArray, List.map_cons, List.map_nil]); first | done | (rw [show y211.length = t203.length from (Kd.R_reads' HO205.out).1.symm] <;> rfl) | rfl | (simp only [List.length_drop, List.length_take]; rfl)) ?_; (with_reducible refine (spec_l2Count.calls kj37 _ _ y211 t212 _ ?side1 ?side2 A57.out).mono ?_); (case side1 => repeat (first | exact (Kd.R_reads' HO205.out).2.2 | (with_reducible refine Kd.C_alloc ?_ _) | (with_reducible refine Kd.C_drewN ?_ _) | (with_reducible refine Kd.C_drew ?_))); (case side2 => rw [show y211.length = t203.length from (Kd.R_reads' HO205.out).1.symm]; exact (Kd.R_reads' HO205.out).2.1); rintro e w' ⟨rfl, ⟨nd, rfl⟩⟩; refine ⟨_, rfl, ?_⟩; (try (rw [drewN_self w72]; generalize hq_ : World.drewN w72 _ = w72; have n0_ : Aside0 (Kd.R (Kd.int .i64) 2 w72 w.heap.size (fun k_ => some k_ ≠ (.slice Ao67 t206.length co67 : Value).ownBlock ∧ some k_ ≠ (.slice Ao70 x16_37.length co70 : Value).ownBlock) (.slice (some ⟨go56, 0, none⟩) t203.length co63) y211) := ⟨by rw [← hq_]; exact (by (with_reducible repeat (first | apply Kd.R_alloc | apply Kd.R_drewN | apply Kd.R_drew)); exact Kd.R_mono HO205.out (fun _ hk => by first | exact ⟨hk.2, hk.1⟩ | (simp only [ne_eq, hk, not_false_eq_true, and_self, true_and, and_true])))⟩; have n1_ : Aside0 (Kd.R (Kd.int .i64) 2 w72 w.heap.size (fun k_ => some k_ ≠ (.slice (some ⟨go56, 0, none⟩) t203.length co63 : Value).ownBlock ∧ some k_ ≠ (.slice Ao70 x16_37.length co70 : Value).ownBlock) (.slice Ao67 t206.length co67) t206) := ⟨by rw [← hq_]; exact (by (with_reducible repeat (first | apply Kd.R_alloc | apply Kd.R_drewN | apply Kd.R_drew)); exact Kd.R_mono HO208.out (fun _ hk => by first | exact ⟨hk.2, hk.1⟩ | (simp only [ne_eq, hk, not_false_eq_true, and_self, true_and, and_true])))⟩; have n2_ : Aside0 (Kd.R (Kd.int .i64) 2 w72 w.heap.size (fun k_ => some k_ ≠ (.slice (some ⟨go56, 0, none⟩) t203.length co63 : Value).ownBlock ∧ some k_ ≠ (.slice Ao67 t206.length co67 : Value).ownBlock) (.slice Ao70 x16_37.length co70) x16_37) := ⟨by rw [← hq_]; exact (by (with_reducible repeat (first | apply Kd.R_alloc | apply Kd.R_drewN | apply Kd.R_drew)); exact Kd.R_mono HO_16.out (fun _ hk => by first | exact ⟨hk.2, hk.1⟩ | (simp only [ne_eq, hk, not_false_eq_true, and_self, true_and, and_true])))⟩; have n3_ : Aside0 (w72.heap[gb185]? = some (.cells #[.slice (some ad188) l0_0.length c0_0, .slice A0_1 l0_1.length c0_1, .int .i64 a0_2] 32 (0, 0))) := ⟨by rw [← hq_]; exact (by (with_reducible repeat (first | refine blk_drewN ?_ _ | refine blk_drew ?_ | refine blk_alloc ?_ _)); exact BK185.out)⟩; have n4_ : Aside0 (w72.heap[gb186]? = some (.cells #[.int .i64 0, .slice none 0 0, .slice none 0 0, .int .i64 0] 53 (0, 0))) := ⟨by rw [← hq_]; exact (by (with_reducible repeat (first | refine blk_drewN ?_ _ | refine blk_drew ?_ | refine blk_alloc ?_ _)); exact BK186.out)⟩; have n5_ : Aside0 (w72.heap[gb210]? = some (.cells #[.slice (some ⟨go56, 0, none⟩) t203.length co63, .slice Ao67 t206.length co67, .int .i64 t209] 32 (0, 0))) := ⟨by rw [← hq_]; exact (by (with_reducible repeat (first | refine blk_drewN ?_ _ | refine blk_drew ?_ | refine blk_alloc ?_ _)); exact BK210.out)⟩; have n6_ : Aside0 (Below w.heap.size w w72) := ⟨by rw [← hq_]; exact (by repeat (first | (with_reducible first | exact HB.out | apply below_alloc | apply pw_below_drewN | apply below_drew1 | refine below_set ?_ GE185.out | refine below_set ?_ GE186.out | refine below_set ?_ GE210.out) | exact HB.out))⟩; clear HO205 HO208 HO_16 BK185 BK186 BK210 HB hq_; have HO205 := n0_; have HO208 := n1_; have HO_16 := n2_; have BK185 := n3_; have BK186 := n4_; have BK210 := n5_; have HB := n6_; clear n0_ n1_ n2_ n3_ n4_ n5_ n6_)); have hcz74_0 : w72.cell? ⟨gb186, 0, none⟩ = some (.int .i64 0) := (blk_cell BK186.out 0).trans rfl; have hcz74_1 : w72.cell? ⟨gb186, 1, none⟩ = some (.slice none 0 0) := (blk_cell BK186.out 1).trans rfl; have hcz74_2 : w72.cell? ⟨gb186, 2, none⟩ = some (.slice none 0 0) := (blk_cell BK186.out 2).trans rfl; have hcz74_3 : w72.cell? ⟨gb186, 3, none⟩ = some (.int .i64 0) := (blk_cell BK186.out 3).trans rfl; have hcq_0 : w72.cell? ⟨gb210, 0, none⟩ = some (.slice (some ⟨go56, 0, none⟩) t203.length co63) := (blk_cell BK210.out 0).trans rfl; have hcq_1 : w72.cell? ⟨gb210, 1, none⟩ = some (.slice Ao67 t206.length co67) := (blk_cell BK210.out 1).trans rfl; have hcq_2 : w72.cell? ⟨gb210, 2, none⟩ = some (.int .i64 t209) := (blk_cell BK210.out 2).trans rfl; have hfz74_0 := blk_frozen BK186.out 0; have hfz74_1 := blk_frozen BK186.out 1; have hfz74_2 := blk_frozen BK186.out 2; have hfz74_3 := blk_frozen BK186.out 3))
                                  refine bodyPost_ret (results_cell_row rfl _ _ gb186 53 #[.int .i64 0, .slice (some ⟨go56, 0, none⟩) t203.length co63, .slice Ao67 t206.length co67, .int .i64 t209] (0, 0) _ rfl (by (with_reducible repeat (first | refine blk_drewN ?_ _ | refine blk_drew ?_ | refine blk_alloc ?_ _)); refine blk_put (cs := #[.int .i64 0, .slice (some ⟨go56, 0, none⟩) t203.length co63, .slice Ao67 t206.length co67, .int .i64 0]) ?_ 3 _ rfl; (with_reducible repeat (first | refine blk_drewN ?_ _ | refine blk_drew ?_ | refine blk_alloc ?_ _)); refine blk_put (cs := #[.int .i64 0, .slice (some ⟨go56, 0, none⟩) t203.length co63, .slice none 0 0, .int .i64 0]) ?_ 2 _ rfl; (with_reducible repeat (first | refine blk_drewN ?_ _ | refine blk_drew ?_ | refine blk_alloc ?_ _)); refine blk_put (cs := #[.int .i64 0, .slice none 0 0, .slice none 0 0, .int .i64 0]) ?_ 1 _ rfl; (with_reducible repeat (first | refine blk_drewN ?_ _ | refine blk_drew ?_ | refine blk_alloc ?_ _)); refine blk_put (cs := #[.int .i64 0, .slice none 0 0, .slice none 0 0, .int .i64 0]) ?_ 0 _ rfl; (with_reducible repeat (first | refine blk_drewN ?_ _ | refine blk_drew ?_ | refine blk_alloc ?_ _)); exact BK186.out) Try.underlying53 rfl (by kernel_rfl)) rfl ?_
                                  exact ⟨_, _, by first | rfl | (simp [errW_none, errW_some] <;> rfl) | (simp [*, errW_none, errW_some] <;> rfl), by (with_reducible repeat (first | apply Kd.R_alloc | apply Kd.R_drewN | apply Kd.R_drew)); exact Kd.R_mono (Kd.R_far (p := ⟨gb186, 3, none⟩) (Kd.R_far (p := ⟨gb186, 2, none⟩) (Kd.R_far (p := ⟨gb186, 1, none⟩) (Kd.R_far (p := ⟨gb186, 0, none⟩) (Kd.R_types HO205.out BK186.out (by decide)) (fun _ hk => by first | exact hk.2 | (simp only [ne_eq, hk, not_false_eq_true, and_self, true_and, and_true])) (.int .i64 0)) (fun _ hk => by first | exact hk.2 | (simp only [ne_eq, hk, not_false_eq_true, and_self, true_and, and_true])) (.slice (some ⟨go56, 0, none⟩) t203.length co63)) (fun _ hk => by first | exact hk.2 | (simp only [ne_eq, hk, not_false_eq_true, and_self, true_and, and_true])) (.slice Ao67 t206.length co67)) (fun _ hk => by first | exact hk.2 | (simp only [ne_eq, hk, not_false_eq_true, and_self, true_and, and_true])) (.int .i64 t209)) (fun _ hk => by first | exact hk.1.2 | (simp only [ne_eq, hk, not_false_eq_true, and_self, true_and, and_true])), by (with_reducible repeat (first | apply Kd.R_alloc | apply Kd.R_drewN | apply Kd.R_drew)); exact Kd.R_mono (Kd.R_far (p := ⟨gb186, 3, none⟩) (Kd.R_far (p := ⟨gb186, 2, none⟩) (Kd.R_far (p := ⟨gb186, 1, none⟩) (Kd.R_far (p := ⟨gb186, 0, none⟩) (Kd.R_types HO208.out BK186.out (by decide)) (fun _ hk => by first | exact hk.2 | (simp only [ne_eq, hk, not_false_eq_true, and_self, true_and, and_true])) (.int .i64 0)) (fun _ hk => by first | exact hk.2 | (simp only [ne_eq, hk, not_false_eq_true, and_self, true_and, and_true])) (.slice (some ⟨go56, 0, none⟩) t203.length co63)) (fun _ hk => by first | exact hk.2 | (simp only [ne_eq, hk, not_false_eq_true, and_self, true_and, and_true])) (.slice Ao67 t206.length co67)) (fun _ hk => by first | exact hk.2 | (simp only [ne_eq, hk, not_false_eq_true, and_self, true_and, and_true])) (.int .i64 t209)) (fun _ hk => by first | exact hk.1.2 | (simp only [ne_eq, hk, not_false_eq_true, and_self, true_and, and_true])), by repeat (first | (with_reducible first | exact HB.out | apply below_alloc | apply pw_below_drewN | apply below_drew1 | refine below_set ?_ GE185.out | refine below_set ?_ GE186.out | refine below_set ?_ GE210.out) | exact HB.out)⟩
                                · rw [if_neg c58] at H
                                  have c58b0 : (t212 == 0) = false := beq_eq_false_iff_ne.mpr c58
                                  have c58b1 : (t212 != 0) = true := bne_iff_ne.mpr c58
                                  by_cases c75 : 0 < (x16_37.length : Int)
                                  · rw [if_pos c75] at H
                                    have c75b0 : decide (0 < (x16_37.length : Int)) = true := decide_eq_true c75
                                    have c75b1 : decide (0 < x16_37.length) = true := decide_eq_true (by omega)
                                    clear c75
                                    by_cases c76 : a1 < (l0_1.length : Int)
                                    · rw [if_pos c76] at H
                                      have c76b0 : decide (a1 < (l0_1.length : Int)) = true := decide_eq_true c76
                                      clear c76
                                      by_cases c77 : (x16_37.length : Int) > 1
                                      · rw [if_pos c77] at H
                                        have c77b0 : decide (1 < (x16_37.length : Int)) = true := decide_eq_true c77
                                        have c77b1 : decide (1 < x16_37.length) = true := decide_eq_true (by omega)
                                        clear c77
                                        by_cases c78 : a1 < (t206.length : Int)
                                        · rw [if_pos c78] at H
                                          have c78b0 : decide (a1 < (t206.length : Int)) = true := decide_eq_true c78
                                          clear c78
                                          obtain ⟨y216, hy216⟩ : ∃ y_ : List Int, y_ = (t206.set (a1 : Int).toNat (wrap64 (a4 * (rd l0_1 a1)))) := ⟨_, rfl⟩
                                          replace H : (some (0, y211, y216, wrap64 (a0_2 + (wrap64 ((rd x16_37 0) * (rd l0_1 a1)))))) = some (r1, r2, r3, r4) := by first | (rw [hy216]; with_reducible exact H) | (have H2_ := (Option.bind_some _ _).symm.trans H; rw [hy216]; with_reducible exact H2_) | (have H2_ := (Option.bind_some _ _).symm.trans H; with_reducible exact H2_) | with_reducible exact H | (rw [hy216]; exact H) | exact H
                                          have Ny216 := Aside0.mk hy216
                                          clear hy216
                                          simp only [Option.some.injEq, Prod.mk.injEq] at H
                                          obtain ⟨rfl, rfl, rfl, rfl⟩ := H
                                          have hnb80 := NB185_186.out
                                          have hnc80 := NB186_185.out
                                          have hcz81_0 : wc.cell? ⟨gb185, 0, none⟩ = some (.slice (some ad188) l0_0.length c0_0) := (blk_cell BK185.out 0).trans rfl
                                          have hcz81_1 : wc.cell? ⟨gb185, 1, none⟩ = some (.slice A0_1 l0_1.length c0_1) := (blk_cell BK185.out 1).trans rfl
                                          have hcz81_2 : wc.cell? ⟨gb185, 2, none⟩ = some (.int .i64 a0_2) := (blk_cell BK185.out 2).trans rfl
                                          have hfz81_0 := blk_frozen BK185.out 0
                                          have hfz81_1 := blk_frozen BK185.out 1
                                          have hfz81_2 := blk_frozen BK185.out 2
                                          try go_wp2_with (first | ((with_reducible refine gate_callee (f := 101) rfl ?_); refine goesL_ (some 106) rfl rfl Try.func101 (by kernel_rfl) rfl #[.agg #[.slice (some ad188) l0_0.length c0_0, .slice A0_1 l0_1.length c0_1, .int .i64 a0_2]] rfl (by (try simp only [List.map_toArray, List.map_cons, List.map_nil]); first | done | rfl | (simp only [List.length_drop, List.length_take]; rfl)) ?_; (with_reducible refine (spec_l2CopyView.calls kj37 _ _ l0_0 _ _ l0_1 a0_2 t203 t206 t209 _ ?side1 ?side2 ?side3 ?side4 A53.out).mono ?_); (case side1 => repeat (first | exact (Kd.C_below HR0_0.out HB.out) | (with_reducible refine Kd.C_alloc ?_ _) | (with_reducible refine Kd.C_drewN ?_ _) | (with_reducible refine Kd.C_drew ?_))); (case side2 => exact HC0_0.out); (case side3 => repeat (first | exact (Kd.C_below HR0_1.out HB.out) | (with_reducible refine Kd.C_alloc ?_ _) | (with_reducible refine Kd.C_drewN ?_ _) | (with_reducible refine Kd.C_drew ?_))); (case side4 => exact HC0_1.out); rintro e w82 ⟨v204, v207, rfl, ho0, ho1, hb⟩; refine ⟨_, rfl, ?_⟩; have n0_ := Aside0.mk (Kd.R_mono (Kd.R_told (Kd.R_told (Kd.R_old (by (with_reducible repeat (first | apply Kd.R_alloc | apply Kd.R_drewN | apply Kd.R_drew)); exact HO_16.out) hb) (Kd.R_base ho0)) (Kd.R_base ho1)) (fun _ h_ => h_.1)); have n1_ := Aside0.mk (Kd.R_lower (Kd.R_new' ho0 (Kd.R_lt (by (with_reducible repeat (first | apply Kd.R_alloc | apply Kd.R_drewN | apply Kd.R_drew)); exact HO_16.out))) (below_size (by repeat (first | (with_reducible first | exact HB.out | apply below_alloc | apply pw_below_drewN | apply below_drew1 | refine below_set ?_ GE185.out | refine below_set ?_ GE186.out) | exact HB.out)))); have n2_ := Aside0.mk (Kd.R_lower (Kd.R_new' ho1 (Kd.R_lt (by (with_reducible repeat (first | apply Kd.R_alloc | apply Kd.R_drewN | apply Kd.R_drew)); exact HO_16.out))) (below_size (by repeat (first | (with_reducible first | exact HB.out | apply below_alloc | apply pw_below_drewN | apply below_drew1 | refine below_set ?_ GE185.out | refine below_set ?_ GE186.out) | exact HB.out)))); have n3_ := Aside0.mk (blk_below (g := gb185) (o := .cells #[.slice (some ad188) l0_0.length c0_0, .slice A0_1 l0_1.length c0_1, .int .i64 a0_2] 32 (0, 0)) (by (with_reducible repeat (first | refine blk_drewN ?_ _ | refine blk_drew ?_ | refine blk_alloc ?_ _)); exact BK185.out) hb); have n4_ := Aside0.mk (blk_below (g := gb186) (o := .cells #[.int .i64 0, .slice none 0 0, .slice none 0 0, .int .i64 0] 53 (0, 0)) (by (with_reducible repeat (first | refine blk_drewN ?_ _ | refine blk_drew ?_ | refine blk_alloc ?_ _)); exact BK186.out) hb); have n5_ := Aside0.mk (below_step (by repeat (first | (with_reducible first | exact HB.out | apply below_alloc | apply pw_below_drewN | apply below_drew1 | refine below_set ?_ GE185.out | refine below_set ?_ GE186.out) | exact HB.out)) hb); clear HO_16; clear BK185; clear BK186; clear HB; have HO_16 := n0_; have HO205 := n1_; have HO208 := n2_; have BK185 := n3_; have BK186 := n4_; have HB := n5_; clear n0_ n1_ n2_ n3_ n4_ n5_; (try clear hb); (try clear hb2); (try clear hk); (try clear hi); (try clear ho0); (try clear ho1)) | ((with_reducible refine gate_dst (N := 18) rfl ?_); (try (refine gate_guard (by rfl) ?_; dsimp only)); refine box_event ?hg (N := 18) ?hd (cs := #[.slice none 0 0, .slice none 0 0, .int .i64 0]) (t := 32) ?hr ?_; (case hd => rfl); (case hg => rfl); (case hr => first | (go_simp; done) | (go_simp; rfl)); intro gb210 hg w83 hbox hb; have n0_ := Aside0.mk (Kd.R_below (by (with_reducible repeat (first | apply Kd.R_alloc | apply Kd.R_drewN | apply Kd.R_drew)); exact HO_16.out) hb); have n1_ := Aside0.mk (Kd.R_below (by (with_reducible repeat (first | apply Kd.R_alloc | apply Kd.R_drewN | apply Kd.R_drew)); exact HO205.out) hb); have n2_ := Aside0.mk (Kd.R_below (by (with_reducible repeat (first | apply Kd.R_alloc | apply Kd.R_drewN | apply Kd.R_drew)); exact HO208.out) hb); have n3_ := Aside0.mk (blk_below (g := gb185) (o := .cells #[.slice (some ad188) l0_0.length c0_0, .slice A0_1 l0_1.length c0_1, .int .i64 a0_2] 32 (0, 0)) (by (with_reducible repeat (first | refine blk_drewN ?_ _ | refine blk_drew ?_ | refine blk_alloc ?_ _)); exact BK185.out) hb); have n4_ := Aside0.mk (blk_below (g := gb186) (o := .cells #[.int .i64 0, .slice none 0 0, .slice none 0 0, .int .i64 0] 53 (0, 0)) (by (with_reducible repeat (first | refine blk_drewN ?_ _ | refine blk_drew ?_ | refine blk_alloc ?_ _)); exact BK186.out) hb); have n5_ := Aside0.mk (below_step (by repeat (first | (with_reducible first | exact HB.out | apply below_alloc | apply pw_below_drewN | apply below_drew1 | refine below_set ?_ GE185.out | refine below_set ?_ GE186.out) | exact HB.out)) hb); have n6_ := Aside0.mk (hbox); have n7_ := Aside0.mk ((by rw [hg]; exact (below_size (by repeat (first | (with_reducible first | exact HB.out | apply below_alloc | apply pw_below_drewN | apply below_drew1 | refine below_set ?_ GE185.out | refine below_set ?_ GE186.out) | exact HB.out))) : w.heap.size ≤ gb210)); have n8_ := Aside0.mk ((by rw [hg]; exact (below_size (by repeat (first | (with_reducible first | exact HB.out | apply below_alloc | apply pw_below_drewN | apply below_drew1 | refine below_set ?_ GE185.out | refine below_set ?_ GE186.out) | exact HB.out))) : w.heap.size ≤ gb210)); have n9_ := Aside0.mk ((by rw [hg]; exact Nat.ne_of_lt (blk_lt (g := gb185) (o := .cells #[.slice (some ad188) l0_0.length c0_0, .slice A0_1 l0_1.length c0_1, .int .i64 a0_2] 32 (0, 0)) (by (with_reducible repeat (first | refine blk_drewN ?_ _ | refine blk_drew ?_ | refine blk_alloc ?_ _)); exact BK185.out)) : gb185 ≠ gb210)); have n10_ := Aside0.mk ((by rw [hg]; exact Nat.ne_of_gt (blk_lt (g := gb185) (o := .cells #[.slice (some ad188) l0_0.length c0_0, .slice A0_1 l0_1.length c0_1, .int .i64 a0_2] 32 (0, 0)) (by (with_reducible repeat (first | refine blk_drewN ?_ _ | refine blk_drew ?_ | refine blk_alloc ?_ _)); exact BK185.out)) : gb210 ≠ gb185)); have n11_ := Aside0.mk ((by rw [hg]; exact Nat.ne_of_lt (blk_lt (g := gb186) (o := .cells #[.int .i64 0, .slice none 0 0, .slice none 0 0, .int .i64 0] 53 (0, 0)) (by (with_reducible repeat (first | refine blk_drewN ?_ _ | refine blk_drew ?_ | refine blk_alloc ?_ _)); exact BK186.out)) : gb186 ≠ gb210)); have n12_ := Aside0.mk ((by rw [hg]; exact Nat.ne_of_gt (blk_lt (g := gb186) (o := .cells #[.int .i64 0, .slice none 0 0, .slice none 0 0, .int .i64 0] 53 (0, 0)) (by (with_reducible repeat (first | refine blk_drewN ?_ _ | refine blk_drew ?_ | refine blk_alloc ?_ _)); exact BK186.out)) : gb210 ≠ gb186)); clear HO_16; clear HO205; clear HO208; clear BK185; clear BK186; clear HB; have HO_16 := n0_; have HO205 := n1_; have HO208 := n2_; have BK185 := n3_; have BK186 := n4_; have HB := n5_; have BK210 := n6_; have GW210 := n7_; have GE210 := n8_; have NB185_210 := n9_; have NB210_185 := n10_; have NB186_210 := n11_; have NB210_186 := n12_; clear n0_ n1_ n2_ n3_ n4_ n5_ n6_ n7_ n8_ n9_ n10_ n11_ n12_; clear hb hbox hg; obtain ⟨Ao84, co84, eo84⟩ := Kd.R_slice HO205.out; subst eo84; have hnb85 := NB210_185.out; have hnc85 := NB185_210.out; have hnb86 := NB210_186.out; have hnc86 := NB186_210.out; have hcz87_0 : w83.cell? ⟨gb210, 0, none⟩ = some (.slice none 0 0) := (blk_cell BK210.out 0).trans rfl; have hcz87_1 : w83.cell? ⟨gb210, 1, none⟩ = some (.slice none 0 0) := (blk_cell BK210.out 1).trans rfl; have hcz87_2 : w83.cell? ⟨gb210, 2, none⟩ = some (.int .i64 0) := (blk_cell BK210.out 2).trans rfl; have hfz87_0 := blk_frozen BK210.out 0; have hfz87_1 := blk_frozen BK210.out 1; have hfz87_2 := blk_frozen BK210.out 2; obtain ⟨Ao88, co88, eo88⟩ := Kd.R_slice HO208.out; subst eo88) | ((with_reducible refine gate_store (t := 32) (p := 18) rfl ?_); refine store_event (t := 32) (p := 18) (v := ?vo_w89) (w1 := (((w83.setCell ⟨gb210, 0, none⟩ (.slice Ao84 t203.length co84)).setCell ⟨gb210, 1, none⟩ (.slice Ao88 t206.length co88)).setCell ⟨gb210, 2, none⟩ (.int .i64 t209))) ?hg ?ho ?hn ?hr ?_; (case ho => rfl); (case hg => rfl); (case hn => rfl); (case hr => first | (go_simp; done) | (go_simp; rfl)); intro w89 hw; have n0_ : Aside0 (Kd.R (Kd.int .i64) 2 w89 w.heap.size (fun k_ => some k_ ≠ (.slice Ao84 t203.length co84 : Value).ownBlock ∧ some k_ ≠ (.slice Ao88 t206.length co88 : Value).ownBlock) u16 x16_37) := ⟨(by rw [hw]; exact (by (with_reducible repeat (first | apply Kd.R_alloc | apply Kd.R_drewN | apply Kd.R_drew)); exact Kd.R_mono (Kd.R_far (p := ⟨gb210, 2, none⟩) (Kd.R_far (p := ⟨gb210, 1, none⟩) (Kd.R_far (p := ⟨gb210, 0, none⟩) (Kd.R_types HO_16.out BK210.out (by decide)) (fun _ hk => by first | exact hk.2 | (simp only [ne_eq, hk, not_false_eq_true, and_self, true_and, and_true])) (.slice Ao84 t203.length co84)) (fun _ hk => by first | exact hk.2 | (simp only [ne_eq, hk, not_false_eq_true, and_self, true_and, and_true])) (.slice Ao88 t206.length co88)) (fun _ hk => by first | exact hk.2 | (simp only [ne_eq, hk, not_false_eq_true, and_self, true_and, and_true])) (.int .i64 t209)) (fun _ hk => by first | exact ⟨hk.1.1.2, hk.1.2⟩ | (simp only [ne_eq, hk, not_false_eq_true, and_self, true_and, and_true]))))⟩; have n1_ : Aside0 (Kd.R (Kd.int .i64) 2 w89 w.heap.size (fun k_ => some k_ ≠ (u16 : Value).ownBlock ∧ some k_ ≠ (.slice Ao88 t206.length co88 : Value).ownBlock) (.slice Ao84 t203.length co84) t203) := ⟨(by rw [hw]; exact (by (with_reducible repeat (first | apply Kd.R_alloc | apply Kd.R_drewN | apply Kd.R_drew)); exact Kd.R_mono (Kd.R_far (p := ⟨gb210, 2, none⟩) (Kd.R_far (p := ⟨gb210, 1, none⟩) (Kd.R_far (p := ⟨gb210, 0, none⟩) (Kd.R_types HO205.out BK210.out (by decide)) (fun _ hk => by first | exact hk.2 | (simp only [ne_eq, hk, not_false_eq_true, and_self, true_and, and_true])) (.slice Ao84 t203.length co84)) (fun _ hk => by first | exact hk.2 | (simp only [ne_eq, hk, not_false_eq_true, and_self, true_and, and_true])) (.slice Ao88 t206.length co88)) (fun _ hk => by first | exact hk.2 | (simp only [ne_eq, hk, not_false_eq_true, and_self, true_and, and_true])) (.int .i64 t209)) (fun _ hk => by first | exact ⟨hk.1.2, hk.1.1⟩ | (simp only [ne_eq, hk, not_false_eq_true, and_self, true_and, and_true]))))⟩; have n2_ : Aside0 (Kd.R (Kd.int .i64) 2 w89 w.heap.size (fun k_ => some k_ ≠ (u16 : Value).ownBlock ∧ some k_ ≠ (.slice Ao84 t203.length co84 : Value).ownBlock) (.slice Ao88 t206.length co88) t206) := ⟨(by rw [hw]; exact (by (with_reducible repeat (first | apply Kd.R_alloc | apply Kd.R_drewN | apply Kd.R_drew)); exact Kd.R_mono (Kd.R_far (p := ⟨gb210, 2, none⟩) (Kd.R_far (p := ⟨gb210, 1, none⟩) (Kd.R_far (p := ⟨gb210, 0, none⟩) (Kd.R_types HO208.out BK210.out (by decide)) (fun _ hk => by first | exact hk.2 | (simp only [ne_eq, hk, not_false_eq_true, and_self, true_and, and_true])) (.slice Ao84 t203.length co84)) (fun _ hk => by first | exact hk.2 | (simp only [ne_eq, hk, not_false_eq_true, and_self, true_and, and_true])) (.slice Ao88 t206.length co88)) (fun _ hk => by first | exact hk.2 | (simp only [ne_eq, hk, not_false_eq_true, and_self, true_and, and_true])) (.int .i64 t209)) (fun _ hk => by first | exact ⟨hk.1.2, hk.1.1⟩ | (simp only [ne_eq, hk, not_false_eq_true, and_self, true_and, and_true]))))⟩; have n3_ : Aside0 (w89.heap[gb185]? = some (.cells #[.slice (some ad188) l0_0.length c0_0, .slice A0_1 l0_1.length c0_1, .int .i64 a0_2] 32 (0, 0))) := ⟨(by rw [hw]; exact (by (with_reducible repeat (first | refine blk_drewN ?_ _ | refine blk_drew ?_ | refine blk_alloc ?_ _)); refine blk_far ?_ NB185_210.out _; (with_reducible repeat (first | refine blk_drewN ?_ _ | refine blk_drew ?_ | refine blk_alloc ?_ _)); refine blk_far ?_ NB185_210.out _; (with_reducible repeat (first | refine blk_drewN ?_ _ | refine blk_drew ?_ | refine blk_alloc ?_ _)); refine blk_far ?_ NB185_210.out _; (with_reducible repeat (first | refine blk_drewN ?_ _ | refine blk_drew ?_ | refine blk_alloc ?_ _)); exact BK185.out))⟩; have n4_ : Aside0 (w89.heap[gb186]? = some (.cells #[.int .i64 0, .slice none 0 0, .slice none 0 0, .int .i64 0] 53 (0, 0))) := ⟨(by rw [hw]; exact (by (with_reducible repeat (first | refine blk_drewN ?_ _ | refine blk_drew ?_ | refine blk_alloc ?_ _)); refine blk_far ?_ NB186_210.out _; (with_reducible repeat (first | refine blk_drewN ?_ _ | refine blk_drew ?_ | refine blk_alloc ?_ _)); refine blk_far ?_ NB186_210.out _; (with_reducible repeat (first | refine blk_drewN ?_ _ | refine blk_drew ?_ | refine blk_alloc ?_ _)); refine blk_far ?_ NB186_210.out _; (with_reducible repeat (first | refine blk_drewN ?_ _ | refine blk_drew ?_ | refine blk_alloc ?_ _)); exact BK186.out))⟩; have n5_ : Aside0 (w89.heap[gb210]? = some (.cells #[.slice Ao84 t203.length co84, .slice Ao88 t206.length co88, .int .i64 t209] 32 (0, 0))) := ⟨(by rw [hw]; exact (by (with_reducible repeat (first | refine blk_drewN ?_ _ | refine blk_drew ?_ | refine blk_alloc ?_ _)); refine blk_put (cs := #[.slice Ao84 t203.length co84, .slice Ao88 t206.length co88, .int .i64 0]) ?_ 2 _ rfl; (with_reducible repeat (first | refine blk_drewN ?_ _ | refine blk_drew ?_ | refine blk_alloc ?_ _)); refine blk_put (cs := #[.slice Ao84 t203.length co84, .slice none 0 0, .int .i64 0]) ?_ 1 _ rfl; (with_reducible repeat (first | refine blk_drewN ?_ _ | refine blk_drew ?_ | refine blk_alloc ?_ _)); refine blk_put (cs := #[.slice none 0 0, .slice none 0 0, .int .i64 0]) ?_ 0 _ rfl; (with_reducible repeat (first | refine blk_drewN ?_ _ | refine blk_drew ?_ | refine blk_alloc ?_ _)); exact BK210.out))⟩; have n6_ : Aside0 (Below w.heap.size w w89) := ⟨(by rw [hw]; exact (by repeat (first | (with_reducible first | exact HB.out | apply below_alloc | apply pw_below_drewN | apply below_drew1 | refine below_set ?_ GE185.out | refine below_set ?_ GE186.out | refine below_set ?_ GE210.out) | exact HB.out)))⟩; clear hw; clear HO_16; clear HO205; clear HO208; clear BK185; clear BK186; clear BK210; clear HB; have HO_16 := n0_; have HO205 := n1_; have HO208 := n2_; have BK185 := n3_; have BK186 := n4_; have BK210 := n5_; have HB := n6_; clear n0_ n1_ n2_ n3_ n4_ n5_ n6_; have hcz90_0 : w89.cell? ⟨gb210, 0, none⟩ = some (.slice Ao84 t203.length co84) := (blk_cell BK210.out 0).trans rfl; have hcz90_1 : w89.cell? ⟨gb210, 1, none⟩ = some (.slice Ao88 t206.length co88) := (blk_cell BK210.out 1).trans rfl; have hcz90_2 : w89.cell? ⟨gb210, 2, none⟩ = some (.int .i64 t209) := (blk_cell BK210.out 2).trans rfl; have hfz90_0 := blk_frozen BK210.out 0; have hfz90_1 := blk_frozen BK210.out 1; have hfz90_2 := blk_frozen BK210.out 2; obtain ⟨Ao91, co91, eo91⟩ := Kd.R_slice HO_16.out; subst eo91; have p56 : 0 ≤ (a1 : Int) := of_decide_eq_true (by first | (with_reducible assumption) | assumption); have q56 : (a1 : Int) < ((t203.length : Int) : Int) := of_decide_eq_true (by first | (with_reducible assumption) | assumption); obtain ⟨go56, co56, eo56, gb56, gl56, cl56, HG56⟩ := Kd.R_form HO205.out (by omega); (first | cases eo56 | (injection eo56 with ea_ en_ ec_; (first | subst ea_ | (injection ea_ with ea_; subst ea_)); subst ec_; clear en_)); have GB56 := Aside0.mk gb56; have GG56 := Aside0.mk HG56; clear gb56 gl56 HG56; obtain ⟨hx56_0, hf56_0⟩ := Kd.R_celln 0 HO205.out (a1 : Int) p56 q56; replace p56 := eq_true p56; replace q56 := eq_true q56; obtain ⟨hy92_, hz92_⟩ := Kd.R_celln 0 HO205.out (a1 : Int) (of_decide_eq_true (by first | (with_reducible assumption) | assumption)) (of_decide_eq_true (by first | (with_reducible assumption) | assumption)); have HP92 := Kd.R_putg HO205.out (a1 : Int) (x16_37.length : Int)) | ((with_reducible refine gate_store (t := 2) (p := 112) rfl ?_); refine store_event (t := 2) (p := 112) (v := ?vo_w93) (w1 := (w89.setCell ⟨go56, (a1 : Int).toNat, none⟩ (.int .i64 (x16_37.length : Int)))) ?hg ?ho ?hn ?hr ?_; (case ho => rfl); (case hg => rfl); (case hn => rfl); (case hr => first | (go_simp; done) | (go_simp; rfl)); intro w93 hw; have hg : w89.grownBy w93 (some go56) := (by rw [hw]; exact HP92.2); have hp_ : Kd.R (Kd.int .i64) 2 w93 w.heap.size (fun k_ => some k_ ≠ (.slice Ao91 x16_37.length co91 : Value).ownBlock ∧ some k_ ≠ (.slice Ao88 t206.length co88 : Value).ownBlock) (.slice (some ⟨go56, 0, none⟩) t203.length co84) y211 := (by rw [hw, Ny211.out]; exact HP92.1); clear HP92; have n0_ := Aside0.mk (Kd.R_after (v := (.slice (some ⟨go56, 0, none⟩) t203.length co84)) (v1 := (.slice (some ⟨go56, 0, none⟩) t203.length co84)) (ok := (fun k_ => some k_ ≠ (.slice Ao88 t206.length co88 : Value).ownBlock)) (by (with_reducible repeat (first | apply Kd.R_alloc | apply Kd.R_drewN | apply Kd.R_drew)); exact Kd.R_mono HO_16.out (fun _ hk => by first | exact ⟨hk.2, hk.1⟩ | (simp only [ne_eq, hk, not_false_eq_true, and_self, true_and, and_true]))) hg (.inl rfl)); have n1_ := Aside0.mk (blk_grown (g := gb185) (o := .cells #[.slice (some ad188) l0_0.length c0_0, .slice A0_1 l0_1.length c0_1, .int .i64 a0_2] 32 (0, 0)) (by (with_reducible repeat (first | refine blk_drewN ?_ _ | refine blk_drew ?_ | refine blk_alloc ?_ _)); exact BK185.out) hg (Kd.R_ne HO205.out BK185.out (by decide))); have n2_ := Aside0.mk (blk_grown (g := gb186) (o := .cells #[.int .i64 0, .slice none 0 0, .slice none 0 0, .int .i64 0] 53 (0, 0)) (by (with_reducible repeat (first | refine blk_drewN ?_ _ | refine blk_drew ?_ | refine blk_alloc ?_ _)); exact BK186.out) hg (Kd.R_ne HO205.out BK186.out (by decide))); have n3_ := Aside0.mk (hp_); have n4_ := Aside0.mk (Kd.R_after (v := (.slice (some ⟨go56, 0, none⟩) t203.length co84)) (v1 := (.slice (some ⟨go56, 0, none⟩) t203.length co84)) (ok := (fun k_ => some k_ ≠ (.slice Ao91 x16_37.length co91 : Value).ownBlock)) (by (with_reducible repeat (first | apply Kd.R_alloc | apply Kd.R_drewN | apply Kd.R_drew)); exact HO208.out) hg (.inl rfl)); have n5_ := Aside0.mk (blk_grown (g := gb210) (o := .cells #[.slice (some ⟨go56, 0, none⟩) t203.length co84, .slice Ao88 t206.length co88, .int .i64 t209] 32 (0, 0)) (by (with_reducible repeat (first | refine blk_drewN ?_ _ | refine blk_drew ?_ | refine blk_alloc ?_ _)); exact BK210.out) hg (Kd.R_ne HO205.out BK210.out (by decide))); have n6_ := Aside0.mk ((by rw [hw]; exact below_set (HB.out) GB56.out : Below w.heap.size w w93)); clear HO_16; clear BK185; clear BK186; clear HO205; clear HO208; clear BK210; clear HB; have HO_16 := n0_; have BK185 := n1_; have BK186 := n2_; have HO205 := n3_; have HO208 := n4_; have BK210 := n5_; have HB := n6_; clear n0_ n1_ n2_ n3_ n4_ n5_ n6_; clear hg hw hp_; have hcz94_0 : w93.cell? ⟨gb210, 0, none⟩ = some (.slice (some ⟨go56, 0, none⟩) t203.length co84) := (blk_cell BK210.out 0).trans rfl; have hcz94_1 : w93.cell? ⟨gb210, 1, none⟩ = some (.slice Ao88 t206.length co88) := (blk_cell BK210.out 1).trans rfl; have hcz94_2 : w93.cell? ⟨gb210, 2, none⟩ = some (.int .i64 t209) := (blk_cell BK210.out 2).trans rfl; have hfz94_0 := blk_frozen BK210.out 0; have hfz94_1 := blk_frozen BK210.out 1; have hfz94_2 := blk_frozen BK210.out 2) | ((with_reducible refine gate_callee (f := 78) rfl ?_); refine goesL_ (some 115) rfl rfl Try.func78 (by kernel_rfl) rfl #[.slice (some ⟨go56, 0, none⟩) y211.length co84] rfl (by (try simp only [List.map_toArray, List.map_cons, List.map_nil]); first | done | (rw [show y211.length = t203.length from (Kd.R_reads' HO205.out).1.symm] <;> rfl) | rfl | (simp only [List.length_drop, List.length_take]; rfl)) ?_; (with_reducible refine (spec_l2Count.calls kj37 _ _ y211 t212 _ ?side1 ?side2 A57.out).mono ?_); (case side1 => repeat (first | exact (Kd.R_reads' HO205.out).2.2 | (with_reducible refine Kd.C_alloc ?_ _) | (with_reducible refine Kd.C_drewN ?_ _) | (with_reducible refine Kd.C_drew ?_))); (case side2 => rw [show y211.length = t203.length from (Kd.R_reads' HO205.out).1.symm]; exact (Kd.R_reads' HO205.out).2.1); rintro e w' ⟨rfl, ⟨nd, rfl⟩⟩; refine ⟨_, rfl, ?_⟩; (try (rw [drewN_self w93]; generalize hq_ : World.drewN w93 _ = w93; have n0_ : Aside0 (Kd.R (Kd.int .i64) 2 w93 w.heap.size (fun k_ => some k_ ≠ (.slice Ao88 t206.length co88 : Value).ownBlock ∧ some k_ ≠ (.slice Ao91 x16_37.length co91 : Value).ownBlock) (.slice (some ⟨go56, 0, none⟩) t203.length co84) y211) := ⟨by rw [← hq_]; exact (by (with_reducible repeat (first | apply Kd.R_alloc | apply Kd.R_drewN | apply Kd.R_drew)); exact Kd.R_mono HO205.out (fun _ hk => by first | exact ⟨hk.2, hk.1⟩ | (simp only [ne_eq, hk, not_false_eq_true, and_self, true_and, and_true])))⟩; have n1_ : Aside0 (Kd.R (Kd.int .i64) 2 w93 w.heap.size (fun k_ => some k_ ≠ (.slice (some ⟨go56, 0, none⟩) t203.length co84 : Value).ownBlock ∧ some k_ ≠ (.slice Ao91 x16_37.length co91 : Value).ownBlock) (.slice Ao88 t206.length co88) t206) := ⟨by rw [← hq_]; exact (by (with_reducible repeat (first | apply Kd.R_alloc | apply Kd.R_drewN | apply Kd.R_drew)); exact Kd.R_mono HO208.out (fun _ hk => by first | exact ⟨hk.2, hk.1⟩ | (simp only [ne_eq, hk, not_false_eq_true, and_self, true_and, and_true])))⟩; have n2_ : Aside0 (Kd.R (Kd.int .i64) 2 w93 w.heap.size (fun k_ => some k_ ≠ (.slice (some ⟨go56, 0, none⟩) t203.length co84 : Value).ownBlock ∧ some k_ ≠ (.slice Ao88 t206.length co88 : Value).ownBlock) (.slice Ao91 x16_37.length co91) x16_37) := ⟨by rw [← hq_]; exact (by (with_reducible repeat (first | apply Kd.R_alloc | apply Kd.R_drewN | apply Kd.R_drew)); exact Kd.R_mono HO_16.out (fun _ hk => by first | exact ⟨hk.2, hk.1⟩ | (simp only [ne_eq, hk, not_false_eq_true, and_self, true_and, and_true])))⟩; have n3_ : Aside0 (w93.heap[gb185]? = some (.cells #[.slice (some ad188) l0_0.length c0_0, .slice A0_1 l0_1.length c0_1, .int .i64 a0_2] 32 (0, 0))) := ⟨by rw [← hq_]; exact (by (with_reducible repeat (first | refine blk_drewN ?_ _ | refine blk_drew ?_ | refine blk_alloc ?_ _)); exact BK185.out)⟩; have n4_ : Aside0 (w93.heap[gb186]? = some (.cells #[.int .i64 0, .slice none 0 0, .slice none 0 0, .int .i64 0] 53 (0, 0))) := ⟨by rw [← hq_]; exact (by (with_reducible repeat (first | refine blk_drewN ?_ _ | refine blk_drew ?_ | refine blk_alloc ?_ _)); exact BK186.out)⟩; have n5_ : Aside0 (w93.heap[gb210]? = some (.cells #[.slice (some ⟨go56, 0, none⟩) t203.length co84, .slice Ao88 t206.length co88, .int .i64 t209] 32 (0, 0))) := ⟨by rw [← hq_]; exact (by (with_reducible repeat (first | refine blk_drewN ?_ _ | refine blk_drew ?_ | refine blk_alloc ?_ _)); exact BK210.out)⟩; have n6_ : Aside0 (Below w.heap.size w w93) := ⟨by rw [← hq_]; exact (by repeat (first | (with_reducible first | exact HB.out | apply below_alloc | apply pw_below_drewN | apply below_drew1 | refine below_set ?_ GE185.out | refine below_set ?_ GE186.out | refine below_set ?_ GE210.out) | exact HB.out))⟩; clear HO205 HO208 HO_16 BK185 BK186 BK210 HB hq_; have HO205 := n0_; have HO208 := n1_; have HO_16 := n2_; have BK185 := n3_; have BK186 := n4_; have BK210 := n5_; have HB := n6_; clear n0_ n1_ n2_ n3_ n4_ n5_ n6_; have hcq_0 : w93.cell? ⟨gb210, 0, none⟩ = some (.slice (some ⟨go56, 0, none⟩) t203.length co84) := (blk_cell BK210.out 0).trans rfl; have hcq_1 : w93.cell? ⟨gb210, 1, none⟩ = some (.slice Ao88 t206.length co88) := (blk_cell BK210.out 1).trans rfl; have hcq_2 : w93.cell? ⟨gb210, 2, none⟩ = some (.int .i64 t209) := (blk_cell BK210.out 2).trans rfl))))
                                          have n0_ := Aside0.mk (Kd.R_drew HO_16.out)
                                          have n1_ := Aside0.mk (Kd.R_drew HO205.out)
                                          have n2_ := Aside0.mk (Kd.R_drew HO208.out)
                                          have n3_ := Aside0.mk (blk_drew BK185.out)
                                          have n4_ := Aside0.mk (blk_drew BK186.out)
                                          have n5_ := Aside0.mk (blk_drew BK210.out)
                                          have n6_ := Aside0.mk (below_drew1 HB.out)
                                          clear HO_16
                                          clear HO205
                                          clear HO208
                                          clear BK185
                                          clear BK186
                                          clear BK210
                                          clear HB
                                          have HO_16 := n0_
                                          have HO205 := n1_
                                          have HO208 := n2_
                                          have BK185 := n3_
                                          have BK186 := n4_
                                          have BK210 := n5_
                                          have HB := n6_
                                          clear n0_ n1_ n2_ n3_ n4_ n5_ n6_
                                          have p213 : 0 ≤ (0 : Int) := (by omega)
                                          have q213 : 0 < (x16_37.length : Int) := of_decide_eq_true (by first | (with_reducible assumption) | assumption)
                                          obtain ⟨ad213, e213, hx213_0⟩ := Kd.at_int (Kd.R_reads' HO_16.out).2.2 0 p213 q213
                                          cases e213
                                          have qi213 : (0 < x16_37.length) = True := eq_true (by omega)
                                          (try rw [show ((0 : Int)).toNat = 0 from rfl] at hx213_0)
                                          (try rw [Addr.add_zero'] at hx213_0)
                                          replace p213 := eq_true p213
                                          replace q213 := eq_true q213
                                          have p214 : 0 ≤ (a1 : Int) := of_decide_eq_true (by first | (with_reducible assumption) | assumption)
                                          have q214 : a1 < (l0_1.length : Int) := of_decide_eq_true (by first | (with_reducible assumption) | assumption)
                                          obtain ⟨ad214, e214, hx214_0⟩ := Kd.at_int HR0_1.out a1 p214 q214
                                          have hw214_0 := hx214_0
                                          cases e214
                                          replace hx214_0 := (HB.out.cell (World.block_lt_of_cell? w _ hx214_0)).trans hx214_0
                                          replace p214 := eq_true p214
                                          replace q214 := eq_true q214
                                          refine start_ (n := 14) (S := fun w' => w'.cell? ⟨gb185, 0, none⟩ = some (.slice (some ad188) l0_0.length c0_0) ∧ w'.cell? ⟨gb185, 1, none⟩ = some (.slice (some ad214) l0_1.length c0_1) ∧ w'.cell? ⟨gb185, 2, none⟩ = some (.int .i64 a0_2) ∧ w'.cell? ad213 = some (.int .i64 (rd x16_37 0)) ∧ w'.cell? (ad214.add (a1).toNat) = some (.int .i64 (rd l0_1 a1))) (ds := []) #[false, false, false, false, false, false, false, false, false, false, false, false, false, false] (by kernel_rfl) rfl rfl ⟨(blk_cell BK185.out 0).trans rfl, (blk_cell BK185.out 1).trans rfl, (blk_cell BK185.out 2).trans rfl, hx213_0, ((HB.out.cell (World.block_lt_of_cell? w _ hw214_0)).trans hw214_0)⟩ (fun hHeld => ?_); refine with_tabW spec_Slice.tab23 spec_Slice.bits23 (fun HT_ HW_ => ?_)
                                          generalize w93.drew = w95 at HO_16 HO205 HO208 BK185 BK186 BK210 HB hx213_0 hx214_0 hHeld ⊢
                                          refine pure_ (i := 0) (N := some 117) (v := ?_) (a' := ?_) #[true, false, false, false, false, false, false, false, false, false, false, false, false, false] rfl rfl (any_of HT_.out (by kernel_rfl)) (fun _ _ _ h => h) (Or.inl ⟨by rfl, ?_⟩) ?_ ?_
                                          rotate_left
                                          · intro w'
                                            go_simp
                                            with_reducible rfl
                                          rotate_left
                                          · simp only [Act.put, List.setIfInBounds_toArray, List.set_cons_zero, List.set_cons_succ, i64_w, i32_w]
                                            rfl
                                          refine pure_ (i := 2) (N := some 119) (v := ?_) (a' := ?_) #[true, false, true, false, false, false, false, false, false, false, false, false, false, false] rfl rfl (any_of HT_.out (by kernel_rfl)) (fun _ _ _ h => h) (Or.inl ⟨by rfl, ?_⟩) ?_ ?_
                                          rotate_left
                                          · intro w'
                                            go_simp
                                            with_reducible rfl
                                          rotate_left
                                          · simp only [Act.put, List.setIfInBounds_toArray, List.set_cons_zero, List.set_cons_succ, i64_w, i32_w]
                                            rfl
                                          refine pure_ (i := 3) (N := some 120) (v := ?_) (a' := ?_) #[true, false, true, true, false, false, false, false, false, false, false, false, false, false] rfl rfl (any_of HT_.out (by kernel_rfl)) (fun _ _ _ h => h) (Or.inl ⟨by rfl, ?_⟩) ?_ ?_
                                          rotate_left
                                          · intro w'
                                            go_simp
                                            with_reducible rfl
                                          rotate_left
                                          · simp only [Act.put, List.setIfInBounds_toArray, List.set_cons_zero, List.set_cons_succ, i64_w, i32_w]
                                            rfl
                                          refine pure_ (i := 5) (N := some 122) (v := ?_) (a' := ?_) #[true, false, true, true, false, true, false, false, false, false, false, false, false, false] rfl rfl (any_of HT_.out (by kernel_rfl)) (fun _ _ _ h => h) (Or.inl ⟨by rfl, ?_⟩) ?_ ?_
                                          rotate_left
                                          · intro w'
                                            go_simp
                                            with_reducible rfl
                                          rotate_left
                                          · simp only [Act.put, List.setIfInBounds_toArray, List.set_cons_zero, List.set_cons_succ, i64_w, i32_w]
                                            rfl
                                          refine pure_ (i := 7) (N := some 124) (v := ?_) (a' := ?_) #[true, false, true, true, false, true, false, true, false, false, false, false, false, false] rfl rfl (any_of HT_.out (by kernel_rfl)) (fun _ _ _ h => h) (Or.inl ⟨by rfl, ?_⟩) ?_ ?_
                                          rotate_left
                                          · intro w'
                                            go_simp
                                            with_reducible rfl
                                          rotate_left
                                          · simp only [Act.put, List.setIfInBounds_toArray, List.set_cons_zero, List.set_cons_succ, i64_w, i32_w]
                                            rfl
                                          refine take_ (i := 1) (N := some 118) (v := ?_) (a' := ?_) #[true, true, true, true, false, true, false, true, false, false, false, false, false, false] rfl rfl (take_ofW HT_.out HW_.out (by kernel_rfl)) (fun _ _ _ h => h) (Or.inl ⟨by rfl, ?_⟩) hHeld ?_ ?_
                                          rotate_left
                                          · rintro w' ⟨s0, s1, s2, s3, s4⟩
                                            go_simp
                                            with_reducible rfl
                                          rotate_left
                                          · simp only [Act.put, List.setIfInBounds_toArray, List.set_cons_zero, List.set_cons_succ, i64_w, i32_w]
                                            rfl
                                          refine take_ (i := 4) (N := some 121) (v := ?_) (a' := ?_) #[true, true, true, true, true, true, false, true, false, false, false, false, false, false] rfl rfl (take_ofW HT_.out HW_.out (by kernel_rfl)) (fun _ _ _ h => h) (Or.inl ⟨by rfl, ?_⟩) hHeld ?_ ?_
                                          rotate_left
                                          · rintro w' ⟨s0, s1, s2, s3, s4⟩
                                            go_simp
                                            with_reducible rfl
                                          rotate_left
                                          · simp only [Act.put, List.setIfInBounds_toArray, List.set_cons_zero, List.set_cons_succ, i64_w, i32_w]
                                            rfl
                                          refine take_ (i := 6) (N := some 123) (v := ?_) (a' := ?_) #[true, true, true, true, true, true, true, true, false, false, false, false, false, false] rfl rfl (take_ofW HT_.out HW_.out (by kernel_rfl)) (fun _ _ _ h => h) (Or.inl ⟨by rfl, ?_⟩) hHeld ?_ ?_
                                          rotate_left
                                          · rintro w' ⟨s0, s1, s2, s3, s4⟩
                                            go_simp
                                            with_reducible rfl
                                          rotate_left
                                          · simp only [Act.put, List.setIfInBounds_toArray, List.set_cons_zero, List.set_cons_succ, i64_w, i32_w]
                                            rfl
                                          refine pure_ (i := 8) (N := some 125) (v := ?_) (a' := ?_) #[true, true, true, true, true, true, true, true, true, false, false, false, false, false] rfl rfl (any_of HT_.out (by kernel_rfl)) (fun _ _ _ h => h) (Or.inl ⟨by rfl, ?_⟩) ?_ ?_
                                          rotate_left
                                          · intro w'
                                            go_simp
                                            with_reducible rfl
                                          rotate_left
                                          · simp only [Act.put, List.setIfInBounds_toArray, List.set_cons_zero, List.set_cons_succ, i64_w, i32_w]
                                            rfl
                                          refine take_ (i := 9) (N := some 126) (v := ?_) (a' := ?_) #[true, true, true, true, true, true, true, true, true, true, false, false, false, false] rfl rfl (take_ofW HT_.out HW_.out (by kernel_rfl)) (fun _ _ _ h => h) (Or.inl ⟨by rfl, ?_⟩) hHeld ?_ ?_
                                          rotate_left
                                          · rintro w' ⟨s0, s1, s2, s3, s4⟩
                                            go_simp
                                            with_reducible rfl
                                          rotate_left
                                          · simp only [Act.put, List.setIfInBounds_toArray, List.set_cons_zero, List.set_cons_succ, i64_w, i32_w]
                                            rfl
                                          refine pure_ (i := 10) (N := some 127) (v := ?_) (a' := ?_) #[true, true, true, true, true, true, true, true, true, true, true, false, false, false] rfl rfl (any_of HT_.out (by kernel_rfl)) (fun _ _ _ h => h) (Or.inl ⟨by rfl, ?_⟩) ?_ ?_
                                          rotate_left
                                          · intro w'
                                            go_simp
                                            with_reducible rfl
                                          rotate_left
                                          · simp only [Act.put, List.setIfInBounds_toArray, List.set_cons_zero, List.set_cons_succ, i64_w, i32_w]
                                            rfl
                                          refine pure_ (i := 11) (N := some 128) (v := ?_) (a' := ?_) #[true, true, true, true, true, true, true, true, true, true, true, true, false, false] rfl rfl (any_of HT_.out (by kernel_rfl)) (fun _ _ _ h => h) (Or.inl ⟨by rfl, ?_⟩) ?_ ?_
                                          rotate_left
                                          · intro w'
                                            go_simp
                                            with_reducible rfl
                                          rotate_left
                                          · simp only [Act.put, List.setIfInBounds_toArray, List.set_cons_zero, List.set_cons_succ, i64_w, i32_w]
                                            rfl
                                          refine pure_ (i := 12) (N := some 129) (v := ?_) (a' := ?_) #[true, true, true, true, true, true, true, true, true, true, true, true, true, false] rfl rfl (any_of HT_.out (by kernel_rfl)) (fun _ _ _ h => h) (Or.inl ⟨by rfl, ?_⟩) ?_ ?_
                                          rotate_left
                                          · intro w'
                                            go_simp
                                            with_reducible rfl
                                          rotate_left
                                          · simp only [Act.put, List.setIfInBounds_toArray, List.set_cons_zero, List.set_cons_succ, i64_w, i32_w]
                                            rfl
                                          refine one_ (i := 13) (N := none) #[true, true, true, true, true, true, true, true, true, true, true, true, true, true] rfl rfl (one_of HT_.out (by kernel_rfl)) (by decide) (fun K hK => ?_)
                                          have hs96 : w95.cell? ⟨gb210, 2, none⟩ = some (.int .i64 t209) := (blk_cell BK210.out 2).trans rfl
                                          have hfs96 := blk_frozen BK210.out 2
                                          have hns96_0 := NB185_210.out
                                          have hns96_1 := NB186_210.out
                                          have hms96_0 := NB210_185.out
                                          have hms96_1 := NB210_186.out
                                          refine skip_ (w1 := ?_) (by rfl) rfl ?_ ?_
                                          rotate_left
                                          · go_simp
                                            rfl
                                          refine hK.out _ _ ⟨((cell_far (p := ⟨gb210, _, none⟩) NB185_210.out _).trans (hHeld.1)), ((cell_far (p := ⟨gb210, _, none⟩) NB185_210.out _).trans (hHeld.2.1)), ((cell_far (p := ⟨gb210, _, none⟩) NB185_210.out _).trans (hHeld.2.2.1)), ((cell_far (p := ⟨gb210, _, none⟩) (by first | exact Kd.own_blk (Kd.R_ne HO_16.out BK210.out (by decide)) | (rw [add_block]; exact Kd.own_blk (Kd.R_ne HO_16.out BK210.out (by decide))) | (show (Addr.add _ _).block ≠ _; rw [add_block]; exact Kd.own_blk (Kd.R_ne HO_16.out BK210.out (by decide))) | (dsimp only; exact Kd.own_blk (Kd.R_ne HO_16.out BK210.out (by decide)))) _).trans (hHeld.2.2.2.1)), ((cell_far (p := ⟨gb210, _, none⟩) (by first | exact Nat.ne_of_lt (Nat.lt_of_lt_of_le (by have := World.block_lt_of_cell? _ _ hw214_0; first | rwa [add_block] at this | exact this) GW210.out) | (rw [add_block]; exact Nat.ne_of_lt (Nat.lt_of_lt_of_le (by have := World.block_lt_of_cell? _ _ hw214_0; first | rwa [add_block] at this | exact this) GW210.out)) | (show (Addr.add _ _).block ≠ _; rw [add_block]; exact Nat.ne_of_lt (Nat.lt_of_lt_of_le (by have := World.block_lt_of_cell? _ _ hw214_0; first | rwa [add_block] at this | exact this) GW210.out)) | (dsimp only; exact Nat.ne_of_lt (Nat.lt_of_lt_of_le (by have := World.block_lt_of_cell? _ _ hw214_0; first | rwa [add_block] at this | exact this) GW210.out))) _).trans (hHeld.2.2.2.2))⟩ (fun hHeld => ?_)
                                          clear hK K
                                          refine done_ (done_of HT_.out (by kernel_rfl)) ?_
                                          try go_wp2
                                          have n0_ : Aside0 (Kd.R (Kd.int .i64) 2 (w95.setCell ⟨gb210, 2, none⟩ (.int .i64 (wrap64 (a0_2 + (wrap64 ((rd x16_37 0) * (rd l0_1 a1))))))) w.heap.size (fun k_ => some k_ ≠ (.slice (some ⟨go56, 0, none⟩) t203.length co84 : Value).ownBlock ∧ some k_ ≠ (.slice Ao88 t206.length co88 : Value).ownBlock) (.slice (some ad213) x16_37.length co91) x16_37) := ⟨by (with_reducible repeat (first | apply Kd.R_alloc | apply Kd.R_drewN | apply Kd.R_drew)); exact Kd.R_mono (Kd.R_far (p := ⟨gb210, 2, none⟩) (Kd.R_types HO_16.out BK210.out (by decide)) (fun _ hk => by first | exact hk.2 | (simp only [ne_eq, hk, not_false_eq_true, and_self, true_and, and_true])) (.int .i64 (wrap64 (a0_2 + (wrap64 ((rd x16_37 0) * (rd l0_1 a1))))))) (fun _ hk => by first | exact ⟨hk.1.2, hk.1.1⟩ | (simp only [ne_eq, hk, not_false_eq_true, and_self, true_and, and_true]))⟩
                                          have n1_ : Aside0 (Kd.R (Kd.int .i64) 2 (w95.setCell ⟨gb210, 2, none⟩ (.int .i64 (wrap64 (a0_2 + (wrap64 ((rd x16_37 0) * (rd l0_1 a1))))))) w.heap.size (fun k_ => some k_ ≠ (.slice (some ad213) x16_37.length co91 : Value).ownBlock ∧ some k_ ≠ (.slice Ao88 t206.length co88 : Value).ownBlock) (.slice (some ⟨go56, 0, none⟩) t203.length co84) y211) := ⟨by (with_reducible repeat (first | apply Kd.R_alloc | apply Kd.R_drewN | apply Kd.R_drew)); exact Kd.R_mono (Kd.R_far (p := ⟨gb210, 2, none⟩) (Kd.R_types HO205.out BK210.out (by decide)) (fun _ hk => by first | exact hk.2 | (simp only [ne_eq, hk, not_false_eq_true, and_self, true_and, and_true])) (.int .i64 (wrap64 (a0_2 + (wrap64 ((rd x16_37 0) * (rd l0_1 a1))))))) (fun _ hk => by first | exact ⟨hk.1.1, hk.1.2⟩ | (simp only [ne_eq, hk, not_false_eq_true, and_self, true_and, and_true]))⟩
                                          have n2_ : Aside0 (Kd.R (Kd.int .i64) 2 (w95.setCell ⟨gb210, 2, none⟩ (.int .i64 (wrap64 (a0_2 + (wrap64 ((rd x16_37 0) * (rd l0_1 a1))))))) w.heap.size (fun k_ => some k_ ≠ (.slice (some ad213) x16_37.length co91 : Value).ownBlock ∧ some k_ ≠ (.slice (some ⟨go56, 0, none⟩) t203.length co84 : Value).ownBlock) (.slice Ao88 t206.length co88) t206) := ⟨by (with_reducible repeat (first | apply Kd.R_alloc | apply Kd.R_drewN | apply Kd.R_drew)); exact Kd.R_mono (Kd.R_far (p := ⟨gb210, 2, none⟩) (Kd.R_types HO208.out BK210.out (by decide)) (fun _ hk => by first | exact hk.2 | (simp only [ne_eq, hk, not_false_eq_true, and_self, true_and, and_true])) (.int .i64 (wrap64 (a0_2 + (wrap64 ((rd x16_37 0) * (rd l0_1 a1))))))) (fun _ hk => by first | exact ⟨hk.1.1, hk.1.2⟩ | (simp only [ne_eq, hk, not_false_eq_true, and_self, true_and, and_true]))⟩
                                          have n3_ : Aside0 ((w95.setCell ⟨gb210, 2, none⟩ (.int .i64 (wrap64 (a0_2 + (wrap64 ((rd x16_37 0) * (rd l0_1 a1))))))).heap[gb185]? = some (.cells #[.slice (some ad188) l0_0.length c0_0, .slice (some ad214) l0_1.length c0_1, .int .i64 a0_2] 32 (0, 0))) := ⟨by (with_reducible repeat (first | refine blk_drewN ?_ _ | refine blk_drew ?_ | refine blk_alloc ?_ _)); refine blk_far ?_ NB185_210.out _; (with_reducible repeat (first | refine blk_drewN ?_ _ | refine blk_drew ?_ | refine blk_alloc ?_ _)); exact BK185.out⟩
                                          have n4_ : Aside0 ((w95.setCell ⟨gb210, 2, none⟩ (.int .i64 (wrap64 (a0_2 + (wrap64 ((rd x16_37 0) * (rd l0_1 a1))))))).heap[gb186]? = some (.cells #[.int .i64 0, .slice none 0 0, .slice none 0 0, .int .i64 0] 53 (0, 0))) := ⟨by (with_reducible repeat (first | refine blk_drewN ?_ _ | refine blk_drew ?_ | refine blk_alloc ?_ _)); refine blk_far ?_ NB186_210.out _; (with_reducible repeat (first | refine blk_drewN ?_ _ | refine blk_drew ?_ | refine blk_alloc ?_ _)); exact BK186.out⟩
                                          have n5_ : Aside0 ((w95.setCell ⟨gb210, 2, none⟩ (.int .i64 (wrap64 (a0_2 + (wrap64 ((rd x16_37 0) * (rd l0_1 a1))))))).heap[gb210]? = some (.cells #[.slice (some ⟨go56, 0, none⟩) t203.length co84, .slice Ao88 t206.length co88, .int .i64 (wrap64 (a0_2 + (wrap64 ((rd x16_37 0) * (rd l0_1 a1)))))] 32 (0, 0))) := ⟨by (with_reducible repeat (first | refine blk_drewN ?_ _ | refine blk_drew ?_ | refine blk_alloc ?_ _)); refine blk_put (cs := #[.slice (some ⟨go56, 0, none⟩) t203.length co84, .slice Ao88 t206.length co88, .int .i64 t209]) ?_ 2 _ rfl; (with_reducible repeat (first | refine blk_drewN ?_ _ | refine blk_drew ?_ | refine blk_alloc ?_ _)); exact BK210.out⟩
                                          have n6_ : Aside0 (Below w.heap.size w (w95.setCell ⟨gb210, 2, none⟩ (.int .i64 (wrap64 (a0_2 + (wrap64 ((rd x16_37 0) * (rd l0_1 a1)))))))) := ⟨by repeat (first | (with_reducible first | exact HB.out | apply below_alloc | apply pw_below_drewN | apply below_drew1 | refine below_set ?_ GE185.out | refine below_set ?_ GE186.out | refine below_set ?_ GE210.out) | exact HB.out)⟩
                                          (try clear HO_16)
                                          (try clear HO205)
                                          (try clear HO208)
                                          (try clear BK185)
                                          (try clear BK186)
                                          (try clear BK210)
                                          (try clear HB)
                                          generalize (w95.setCell ⟨gb210, 2, none⟩ (.int .i64 (wrap64 (a0_2 + (wrap64 ((rd x16_37 0) * (rd l0_1 a1))))))) = w97 at n0_ n1_ n2_ n3_ n4_ n5_ n6_ ⊢
                                          have HO_16 := n0_
                                          have HO205 := n1_
                                          have HO208 := n2_
                                          have BK185 := n3_
                                          have BK186 := n4_
                                          have BK210 := n5_
                                          have HB := n6_
                                          clear n0_ n1_ n2_ n3_ n4_ n5_ n6_
                                          have n0_ := Aside0.mk (Kd.R_drew HO_16.out)
                                          have n1_ := Aside0.mk (Kd.R_drew HO205.out)
                                          have n2_ := Aside0.mk (Kd.R_drew HO208.out)
                                          have n3_ := Aside0.mk (blk_drew BK185.out)
                                          have n4_ := Aside0.mk (blk_drew BK186.out)
                                          have n5_ := Aside0.mk (blk_drew BK210.out)
                                          have n6_ := Aside0.mk (below_drew1 HB.out)
                                          clear HO_16
                                          clear HO205
                                          clear HO208
                                          clear BK185
                                          clear BK186
                                          clear BK210
                                          clear HB
                                          have HO_16 := n0_
                                          have HO205 := n1_
                                          have HO208 := n2_
                                          have BK185 := n3_
                                          have BK186 := n4_
                                          have BK210 := n5_
                                          have HB := n6_
                                          clear n0_ n1_ n2_ n3_ n4_ n5_ n6_
                                          have p215 : 0 ≤ (a1 : Int) := of_decide_eq_true (by first | (with_reducible assumption) | assumption)
                                          have q215 : a1 < (l0_1.length : Int) := of_decide_eq_true (by first | (with_reducible assumption) | assumption)
                                          obtain ⟨ad215, e215, hx215_0⟩ := Kd.at_int HR0_1.out a1 p215 q215
                                          have hw215_0 := hx215_0
                                          obtain rfl : ad214 = ad215 := (by injection e215)
                                          replace hx215_0 := (HB.out.cell (World.block_lt_of_cell? w _ hx215_0)).trans hx215_0
                                          replace p215 := eq_true p215
                                          replace q215 := eq_true q215
                                          have p79 : 0 ≤ (a1 : Int) := of_decide_eq_true (by first | (with_reducible assumption) | assumption)
                                          have q79 : (a1 : Int) < ((t206.length : Int) : Int) := of_decide_eq_true (by first | (with_reducible assumption) | assumption)
                                          obtain ⟨go79, co79, eo79, gb79, gl79, cl79, HG79⟩ := Kd.R_form HO208.out (by omega)
                                          (first | cases eo79 | (injection eo79 with ea_ en_ ec_; (first | subst ea_ | (injection ea_ with ea_; subst ea_)); subst ec_; clear en_))
                                          have GB79 := Aside0.mk gb79
                                          have GG79 := Aside0.mk HG79
                                          clear gb79 gl79 HG79
                                          obtain ⟨hx79_0, hf79_0⟩ := Kd.R_celln 0 HO208.out (a1 : Int) p79 q79
                                          replace p79 := eq_true p79
                                          replace q79 := eq_true q79
                                          have HP99 := Kd.R_putn HO208.out (a1 : Int) (wrap64 (a4 * (rd l0_1 a1)))
                                          rw [← Ny216.out] at HP99
                                          have HQ99 := Aside0.mk HP99
                                          clear HP99
                                          refine start_ (n := 12) (S := fun w' => w'.cell? ⟨gb210, 0, none⟩ = some (.slice (some ⟨go56, 0, none⟩) t203.length co84) ∧ w'.cell? ⟨gb210, 1, none⟩ = some (.slice (some ⟨go79, 0, none⟩) t206.length co88) ∧ w'.cell? ⟨gb210, 2, none⟩ = some (.int .i64 (wrap64 (a0_2 + (wrap64 ((rd x16_37 0) * (rd l0_1 a1)))))) ∧ w'.cell? ⟨gb185, 0, none⟩ = some (.slice (some ad188) l0_0.length c0_0) ∧ w'.cell? ⟨gb185, 1, none⟩ = some (.slice (some ad214) l0_1.length c0_1) ∧ w'.cell? ⟨gb185, 2, none⟩ = some (.int .i64 a0_2) ∧ w'.cell? (ad214.add (a1).toNat) = some (.int .i64 (rd l0_1 a1))) (ds := [11]) #[false, false, false, false, false, false, false, false, false, false, false, false] (by kernel_rfl) rfl rfl ⟨(blk_cell BK210.out 0).trans rfl, (blk_cell BK210.out 1).trans rfl, (blk_cell BK210.out 2).trans rfl, (blk_cell BK185.out 0).trans rfl, (blk_cell BK185.out 1).trans rfl, (blk_cell BK185.out 2).trans rfl, ((HB.out.cell (World.block_lt_of_cell? w _ hw215_0)).trans hw215_0)⟩ (fun hHeld => ?_); refine with_tabW spec_Slice.tab25 spec_Slice.bits25 (fun HT_ HW_ => ?_)
                                          generalize w97.drew = w98 at HO_16 HO205 HO208 BK185 BK186 BK210 HB GG79 HQ99 hf79_0 hx215_0 hx79_0 hHeld ⊢
                                          refine pure_ (i := 0) (N := some 133) (v := ?_) (a' := ?_) #[true, false, false, false, false, false, false, false, false, false, false, false] rfl rfl (any_of HT_.out (by kernel_rfl)) (fun _ _ _ h => h) (Or.inl ⟨by rfl, ?_⟩) ?_ ?_
                                          rotate_left
                                          · intro w'
                                            go_simp
                                            with_reducible rfl
                                          rotate_left
                                          · simp only [Act.put, List.setIfInBounds_toArray, List.set_cons_zero, List.set_cons_succ, i64_w, i32_w]
                                            rfl
                                          refine pure_ (i := 2) (N := some 135) (v := ?_) (a' := ?_) #[true, false, true, false, false, false, false, false, false, false, false, false] rfl rfl (any_of HT_.out (by kernel_rfl)) (fun _ _ _ h => h) (Or.inl ⟨by rfl, ?_⟩) ?_ ?_
                                          rotate_left
                                          · intro w'
                                            go_simp
                                            with_reducible rfl
                                          rotate_left
                                          · simp only [Act.put, List.setIfInBounds_toArray, List.set_cons_zero, List.set_cons_succ, i64_w, i32_w]
                                            rfl
                                          refine pure_ (i := 3) (N := some 136) (v := ?_) (a' := ?_) #[true, false, true, true, false, false, false, false, false, false, false, false] rfl rfl (any_of HT_.out (by kernel_rfl)) (fun _ _ _ h => h) (Or.inl ⟨by rfl, ?_⟩) ?_ ?_
                                          rotate_left
                                          · intro w'
                                            go_simp
                                            with_reducible rfl
                                          rotate_left
                                          · simp only [Act.put, List.setIfInBounds_toArray, List.set_cons_zero, List.set_cons_succ, i64_w, i32_w]
                                            rfl
                                          refine pure_ (i := 4) (N := some 137) (v := ?_) (a' := ?_) #[true, false, true, true, true, false, false, false, false, false, false, false] rfl rfl (any_of HT_.out (by kernel_rfl)) (fun _ _ _ h => h) (Or.inl ⟨by rfl, ?_⟩) ?_ ?_
                                          rotate_left
                                          · intro w'
                                            go_simp
                                            with_reducible rfl
                                          rotate_left
                                          · simp only [Act.put, List.setIfInBounds_toArray, List.set_cons_zero, List.set_cons_succ, i64_w, i32_w]
                                            rfl
                                          refine pure_ (i := 6) (N := some 139) (v := ?_) (a' := ?_) #[true, false, true, true, true, false, true, false, false, false, false, false] rfl rfl (any_of HT_.out (by kernel_rfl)) (fun _ _ _ h => h) (Or.inl ⟨by rfl, ?_⟩) ?_ ?_
                                          rotate_left
                                          · intro w'
                                            go_simp
                                            with_reducible rfl
                                          rotate_left
                                          · simp only [Act.put, List.setIfInBounds_toArray, List.set_cons_zero, List.set_cons_succ, i64_w, i32_w]
                                            rfl
                                          refine take_ (i := 1) (N := some 134) (v := ?_) (a' := ?_) #[true, true, true, true, true, false, true, false, false, false, false, false] rfl rfl (take_ofW HT_.out HW_.out (by kernel_rfl)) (fun _ _ _ h => h) (Or.inl ⟨by rfl, ?_⟩) hHeld ?_ ?_
                                          rotate_left
                                          · rintro w' ⟨s0, s1, s2, s3, s4, s5, s6⟩
                                            go_simp
                                            with_reducible rfl
                                          rotate_left
                                          · simp only [Act.put, List.setIfInBounds_toArray, List.set_cons_zero, List.set_cons_succ, i64_w, i32_w]
                                            rfl
                                          refine take_ (i := 5) (N := some 138) (v := ?_) (a' := ?_) #[true, true, true, true, true, true, true, false, false, false, false, false] rfl rfl (take_ofW HT_.out HW_.out (by kernel_rfl)) (fun _ _ _ h => h) (Or.inl ⟨by rfl, ?_⟩) hHeld ?_ ?_
                                          rotate_left
                                          · rintro w' ⟨s0, s1, s2, s3, s4, s5, s6⟩
                                            go_simp
                                            with_reducible rfl
                                          rotate_left
                                          · simp only [Act.put, List.setIfInBounds_toArray, List.set_cons_zero, List.set_cons_succ, i64_w, i32_w]
                                            rfl
                                          refine pure_ (i := 7) (N := some 140) (v := ?_) (a' := ?_) #[true, true, true, true, true, true, true, true, false, false, false, false] rfl rfl (any_of HT_.out (by kernel_rfl)) (fun _ _ _ h => h) (Or.inl ⟨by rfl, ?_⟩) ?_ ?_
                                          rotate_left
                                          · intro w'
                                            go_simp
                                            with_reducible rfl
                                          rotate_left
                                          · simp only [Act.put, List.setIfInBounds_toArray, List.set_cons_zero, List.set_cons_succ, i64_w, i32_w]
                                            rfl
                                          refine take_ (i := 8) (N := some 141) (v := ?_) (a' := ?_) #[true, true, true, true, true, true, true, true, true, false, false, false] rfl rfl (take_ofW HT_.out HW_.out (by kernel_rfl)) (fun _ _ _ h => h) (Or.inl ⟨by rfl, ?_⟩) hHeld ?_ ?_
                                          rotate_left
                                          · rintro w' ⟨s0, s1, s2, s3, s4, s5, s6⟩
                                            go_simp
                                            with_reducible rfl
                                          rotate_left
                                          · simp only [Act.put, List.setIfInBounds_toArray, List.set_cons_zero, List.set_cons_succ, i64_w, i32_w]
                                            rfl
                                          refine pure_ (i := 9) (N := some 142) (v := ?_) (a' := ?_) #[true, true, true, true, true, true, true, true, true, true, false, false] rfl rfl (any_of HT_.out (by kernel_rfl)) (fun _ _ _ h => h) (Or.inl ⟨by rfl, ?_⟩) ?_ ?_
                                          rotate_left
                                          · intro w'
                                            go_simp
                                            with_reducible rfl
                                          rotate_left
                                          · simp only [Act.put, List.setIfInBounds_toArray, List.set_cons_zero, List.set_cons_succ, i64_w, i32_w]
                                            rfl
                                          refine pure_ (i := 10) (N := some 143) (v := ?_) (a' := ?_) #[true, true, true, true, true, true, true, true, true, true, true, false] rfl rfl (any_of HT_.out (by kernel_rfl)) (fun _ _ _ h => h) (Or.inl ⟨by rfl, ?_⟩) ?_ ?_
                                          rotate_left
                                          · intro w'
                                            go_simp
                                            with_reducible rfl
                                          rotate_left
                                          · simp only [Act.put, List.setIfInBounds_toArray, List.set_cons_zero, List.set_cons_succ, i64_w, i32_w]
                                            rfl
                                          refine last_ (i := 11) (N := none) #[true, true, true, true, true, true, true, true, true, true, true, true] rfl rfl (one_of HT_.out (by kernel_rfl)) (by decide) (fun K hK => ?_)
                                          refine skip_ (w1 := ?_) (by rfl) rfl ?_ ?_
                                          rotate_left
                                          · go_simp
                                            rfl
                                          refine hK.out _ _ ?_
                                          clear hK K
                                          refine done_ (done_of HT_.out (by kernel_rfl)) ?_
                                          have n0_ : Aside0 (Kd.R (Kd.int .i64) 2 (w98.setCell ⟨go79, (a1 : Int).toNat, none⟩ (.int .i64 (wrap64 (a4 * (rd l0_1 a1))))) w.heap.size (fun k_ => some k_ ≠ (.slice (some ⟨go56, 0, none⟩) t203.length co84 : Value).ownBlock ∧ some k_ ≠ (.slice (some ⟨go79, 0, none⟩) t206.length co88 : Value).ownBlock) (.slice (some ad213) x16_37.length co91) x16_37) := ⟨by (with_reducible repeat (first | apply Kd.R_alloc | apply Kd.R_drewN | apply Kd.R_drew)); exact Kd.R_mono (Kd.R_far (p := ⟨go79, (a1 : Int).toNat, none⟩) (Kd.R_mono HO_16.out (fun k_ hk => (⟨hk, fun e_ => hk.2 (by rw [e_]; rfl)⟩ : _ ∧ k_ ≠ go79))) (fun _ hk => by first | exact hk.2 | (simp only [ne_eq, hk, not_false_eq_true, and_self, true_and, and_true])) (.int .i64 (wrap64 (a4 * (rd l0_1 a1))))) (fun _ hk => by first | exact ⟨hk.1.1, hk.1.2⟩ | (simp only [ne_eq, hk, not_false_eq_true, and_self, true_and, and_true]))⟩
                                          have n1_ : Aside0 (Kd.R (Kd.int .i64) 2 (w98.setCell ⟨go79, (a1 : Int).toNat, none⟩ (.int .i64 (wrap64 (a4 * (rd l0_1 a1))))) w.heap.size (fun k_ => some k_ ≠ (.slice (some ad213) x16_37.length co91 : Value).ownBlock ∧ some k_ ≠ (.slice (some ⟨go79, 0, none⟩) t206.length co88 : Value).ownBlock) (.slice (some ⟨go56, 0, none⟩) t203.length co84) y211) := ⟨by (with_reducible repeat (first | apply Kd.R_alloc | apply Kd.R_drewN | apply Kd.R_drew)); exact Kd.R_mono (Kd.R_far (p := ⟨go79, (a1 : Int).toNat, none⟩) (Kd.R_mono HO205.out (fun k_ hk => (⟨hk, fun e_ => hk.2 (by rw [e_]; rfl)⟩ : _ ∧ k_ ≠ go79))) (fun _ hk => by first | exact hk.2 | (simp only [ne_eq, hk, not_false_eq_true, and_self, true_and, and_true])) (.int .i64 (wrap64 (a4 * (rd l0_1 a1))))) (fun _ hk => by first | exact ⟨hk.1.1, hk.1.2⟩ | (simp only [ne_eq, hk, not_false_eq_true, and_self, true_and, and_true]))⟩
                                          have n2_ : Aside0 (Kd.R (Kd.int .i64) 2 (w98.setCell ⟨go79, (a1 : Int).toNat, none⟩ (.int .i64 (wrap64 (a4 * (rd l0_1 a1))))) w.heap.size (fun k_ => some k_ ≠ (.slice (some ad213) x16_37.length co91 : Value).ownBlock ∧ some k_ ≠ (.slice (some ⟨go56, 0, none⟩) t203.length co84 : Value).ownBlock) (.slice (some ⟨go79, 0, none⟩) t206.length co88) y216) := ⟨by (with_reducible repeat (first | apply Kd.R_alloc | apply Kd.R_drewN | apply Kd.R_drew)); exact HQ99.out⟩
                                          have n3_ : Aside0 ((w98.setCell ⟨go79, (a1 : Int).toNat, none⟩ (.int .i64 (wrap64 (a4 * (rd l0_1 a1))))).heap[gb185]? = some (.cells #[.slice (some ad188) l0_0.length c0_0, .slice (some ad214) l0_1.length c0_1, .int .i64 a0_2] 32 (0, 0))) := ⟨by (with_reducible repeat (first | refine blk_drewN ?_ _ | refine blk_drew ?_ | refine blk_alloc ?_ _)); refine blk_far ?_ (by have h_ := Kd.R_ne HO208.out BK185.out (by decide); intro e_; exact h_ (by rw [e_]; rfl)) _; (with_reducible repeat (first | refine blk_drewN ?_ _ | refine blk_drew ?_ | refine blk_alloc ?_ _)); exact BK185.out⟩
                                          have n4_ : Aside0 ((w98.setCell ⟨go79, (a1 : Int).toNat, none⟩ (.int .i64 (wrap64 (a4 * (rd l0_1 a1))))).heap[gb186]? = some (.cells #[.int .i64 0, .slice none 0 0, .slice none 0 0, .int .i64 0] 53 (0, 0))) := ⟨by (with_reducible repeat (first | refine blk_drewN ?_ _ | refine blk_drew ?_ | refine blk_alloc ?_ _)); refine blk_far ?_ (by have h_ := Kd.R_ne HO208.out BK186.out (by decide); intro e_; exact h_ (by rw [e_]; rfl)) _; (with_reducible repeat (first | refine blk_drewN ?_ _ | refine blk_drew ?_ | refine blk_alloc ?_ _)); exact BK186.out⟩
                                          have n5_ : Aside0 ((w98.setCell ⟨go79, (a1 : Int).toNat, none⟩ (.int .i64 (wrap64 (a4 * (rd l0_1 a1))))).heap[gb210]? = some (.cells #[.slice (some ⟨go56, 0, none⟩) t203.length co84, .slice (some ⟨go79, 0, none⟩) t206.length co88, .int .i64 (wrap64 (a0_2 + (wrap64 ((rd x16_37 0) * (rd l0_1 a1)))))] 32 (0, 0))) := ⟨by (with_reducible repeat (first | refine blk_drewN ?_ _ | refine blk_drew ?_ | refine blk_alloc ?_ _)); refine blk_far ?_ (by have h_ := Kd.R_ne HO208.out BK210.out (by decide); intro e_; exact h_ (by rw [e_]; rfl)) _; (with_reducible repeat (first | refine blk_drewN ?_ _ | refine blk_drew ?_ | refine blk_alloc ?_ _)); exact BK210.out⟩
                                          have n6_ : Aside0 (Below w.heap.size w (w98.setCell ⟨go79, (a1 : Int).toNat, none⟩ (.int .i64 (wrap64 (a4 * (rd l0_1 a1)))))) := ⟨by repeat (first | (with_reducible first | exact HB.out | apply below_alloc | apply pw_below_drewN | apply below_drew1 | refine below_set ?_ GB79.out | refine below_set ?_ GE185.out | refine below_set ?_ GE186.out | refine below_set ?_ GE210.out) | exact HB.out)⟩
                                          (try clear HO_16)
                                          (try clear HO205)
                                          (try clear HO208)
                                          (try clear BK185)
                                          (try clear BK186)
                                          (try clear BK210)
                                          (try clear HB)
                                          generalize (w98.setCell ⟨go79, (a1 : Int).toNat, none⟩ (.int .i64 (wrap64 (a4 * (rd l0_1 a1))))) = w100 at n0_ n1_ n2_ n3_ n4_ n5_ n6_ ⊢
                                          have HO_16 := n0_
                                          have HO205 := n1_
                                          have HO208 := n2_
                                          have BK185 := n3_
                                          have BK186 := n4_
                                          have BK210 := n5_
                                          have HB := n6_
                                          clear n0_ n1_ n2_ n3_ n4_ n5_ n6_
                                          have hcz101_0 : w100.cell? ⟨gb210, 0, none⟩ = some (.slice (some ⟨go56, 0, none⟩) t203.length co84) := (blk_cell BK210.out 0).trans rfl
                                          have hcz101_1 : w100.cell? ⟨gb210, 1, none⟩ = some (.slice (some ⟨go79, 0, none⟩) t206.length co88) := (blk_cell BK210.out 1).trans rfl
                                          have hcz101_2 : w100.cell? ⟨gb210, 2, none⟩ = some (.int .i64 (wrap64 (a0_2 + (wrap64 ((rd x16_37 0) * (rd l0_1 a1)))))) := (blk_cell BK210.out 2).trans rfl
                                          have hfz101_0 := blk_frozen BK210.out 0
                                          have hfz101_1 := blk_frozen BK210.out 1
                                          have hfz101_2 := blk_frozen BK210.out 2
                                          have hcz102_0 : w100.cell? ⟨gb186, 0, none⟩ = some (.int .i64 0) := (blk_cell BK186.out 0).trans rfl
                                          have hcz102_1 : w100.cell? ⟨gb186, 1, none⟩ = some (.slice none 0 0) := (blk_cell BK186.out 1).trans rfl
                                          have hcz102_2 : w100.cell? ⟨gb186, 2, none⟩ = some (.slice none 0 0) := (blk_cell BK186.out 2).trans rfl
                                          have hcz102_3 : w100.cell? ⟨gb186, 3, none⟩ = some (.int .i64 0) := (blk_cell BK186.out 3).trans rfl
                                          have hfz102_0 := blk_frozen BK186.out 0
                                          have hfz102_1 := blk_frozen BK186.out 1
                                          have hfz102_2 := blk_frozen BK186.out 2
                                          have hfz102_3 := blk_frozen BK186.out 3
                                          try go_wp2
                                          refine bodyPost_ret (results_cell_row rfl _ _ gb186 53 #[.int .i64 0, .slice (some ⟨go56, 0, none⟩) t203.length co84, .slice (some ⟨go79, 0, none⟩) t206.length co88, .int .i64 (wrap64 (a0_2 + (wrap64 ((rd x16_37 0) * (rd l0_1 a1)))))] (0, 0) _ rfl (by (with_reducible repeat (first | refine blk_drewN ?_ _ | refine blk_drew ?_ | refine blk_alloc ?_ _)); refine blk_put (cs := #[.int .i64 0, .slice (some ⟨go56, 0, none⟩) t203.length co84, .slice (some ⟨go79, 0, none⟩) t206.length co88, .int .i64 0]) ?_ 3 _ rfl; (with_reducible repeat (first | refine blk_drewN ?_ _ | refine blk_drew ?_ | refine blk_alloc ?_ _)); refine blk_put (cs := #[.int .i64 0, .slice (some ⟨go56, 0, none⟩) t203.length co84, .slice none 0 0, .int .i64 0]) ?_ 2 _ rfl; (with_reducible repeat (first | refine blk_drewN ?_ _ | refine blk_drew ?_ | refine blk_alloc ?_ _)); refine blk_put (cs := #[.int .i64 0, .slice none 0 0, .slice none 0 0, .int .i64 0]) ?_ 1 _ rfl; (with_reducible repeat (first | refine blk_drewN ?_ _ | refine blk_drew ?_ | refine blk_alloc ?_ _)); refine blk_put (cs := #[.int .i64 0, .slice none 0 0, .slice none 0 0, .int .i64 0]) ?_ 0 _ rfl; (with_reducible repeat (first | refine blk_drewN ?_ _ | refine blk_drew ?_ | refine blk_alloc ?_ _)); exact BK186.out) Try.underlying53 rfl (by kernel_rfl)) rfl ?_
                                          exact ⟨_, _, by first | rfl | (simp [errW_none, errW_some] <;> rfl) | (simp [*, errW_none, errW_some] <;> rfl), by (with_reducible repeat (first | apply Kd.R_alloc | apply Kd.R_drewN | apply Kd.R_drew)); exact Kd.R_mono (Kd.R_far (p := ⟨gb186, 3, none⟩) (Kd.R_far (p := ⟨gb186, 2, none⟩) (Kd.R_far (p := ⟨gb186, 1, none⟩) (Kd.R_far (p := ⟨gb186, 0, none⟩) (Kd.R_types HO205.out BK186.out (by decide)) (fun _ hk => by first | exact hk.2 | (simp only [ne_eq, hk, not_false_eq_true, and_self, true_and, and_true])) (.int .i64 0)) (fun _ hk => by first | exact hk.2 | (simp only [ne_eq, hk, not_false_eq_true, and_self, true_and, and_true])) (.slice (some ⟨go56, 0, none⟩) t203.length co84)) (fun _ hk => by first | exact hk.2 | (simp only [ne_eq, hk, not_false_eq_true, and_self, true_and, and_true])) (.slice (some ⟨go79, 0, none⟩) t206.length co88)) (fun _ hk => by first | exact hk.2 | (simp only [ne_eq, hk, not_false_eq_true, and_self, true_and, and_true])) (.int .i64 (wrap64 (a0_2 + (wrap64 ((rd x16_37 0) * (rd l0_1 a1))))))) (fun _ hk => by first | exact hk.1.2 | (simp only [ne_eq, hk, not_false_eq_true, and_self, true_and, and_true])), by (with_reducible repeat (first | apply Kd.R_alloc | apply Kd.R_drewN | apply Kd.R_drew)); exact Kd.R_mono (Kd.R_far (p := ⟨gb186, 3, none⟩) (Kd.R_far (p := ⟨gb186, 2, none⟩) (Kd.R_far (p := ⟨gb186, 1, none⟩) (Kd.R_far (p := ⟨gb186, 0, none⟩) (Kd.R_types HO208.out BK186.out (by decide)) (fun _ hk => by first | exact hk.2 | (simp only [ne_eq, hk, not_false_eq_true, and_self, true_and, and_true])) (.int .i64 0)) (fun _ hk => by first | exact hk.2 | (simp only [ne_eq, hk, not_false_eq_true, and_self, true_and, and_true])) (.slice (some ⟨go56, 0, none⟩) t203.length co84)) (fun _ hk => by first | exact hk.2 | (simp only [ne_eq, hk, not_false_eq_true, and_self, true_and, and_true])) (.slice (some ⟨go79, 0, none⟩) t206.length co88)) (fun _ hk => by first | exact hk.2 | (simp only [ne_eq, hk, not_false_eq_true, and_self, true_and, and_true])) (.int .i64 (wrap64 (a0_2 + (wrap64 ((rd x16_37 0) * (rd l0_1 a1))))))) (fun _ hk => by first | exact hk.1.2 | (simp only [ne_eq, hk, not_false_eq_true, and_self, true_and, and_true])), by repeat (first | (with_reducible first | exact HB.out | apply below_alloc | apply pw_below_drewN | apply below_drew1 | refine below_set ?_ GE185.out | refine below_set ?_ GE186.out | refine below_set ?_ GE210.out) | exact HB.out)⟩
                                        · rw [if_neg c78] at H
                                          exact absurd H (by simp)
                                      · rw [if_neg c77] at H
                                        have c77b0 : decide (1 < (x16_37.length : Int)) = false := decide_eq_false c77
                                        have c77b1 : decide (1 < x16_37.length) = false := decide_eq_false (by omega)
                                        clear c77
                                        simp only [Option.some.injEq, Prod.mk.injEq] at H
                                        obtain ⟨rfl, rfl, rfl, rfl⟩ := H
                                        have hnb103 := NB185_186.out
                                        have hnc103 := NB186_185.out
                                        have hcz104_0 : wc.cell? ⟨gb185, 0, none⟩ = some (.slice (some ad188) l0_0.length c0_0) := (blk_cell BK185.out 0).trans rfl
                                        have hcz104_1 : wc.cell? ⟨gb185, 1, none⟩ = some (.slice A0_1 l0_1.length c0_1) := (blk_cell BK185.out 1).trans rfl
                                        have hcz104_2 : wc.cell? ⟨gb185, 2, none⟩ = some (.int .i64 a0_2) := (blk_cell BK185.out 2).trans rfl
                                        have hfz104_0 := blk_frozen BK185.out 0
                                        have hfz104_1 := blk_frozen BK185.out 1
                                        have hfz104_2 := blk_frozen BK185.out 2
                                        try go_wp2_with (first | ((with_reducible refine gate_callee (f := 101) rfl ?_); refine goesL_ (some 106) rfl rfl Try.func101 (by kernel_rfl) rfl #[.agg #[.slice (some ad188) l0_0.length c0_0, .slice A0_1 l0_1.length c0_1, .int .i64 a0_2]] rfl (by (try simp only [List.map_toArray, List.map_cons, List.map_nil]); first | done | rfl | (simp only [List.length_drop, List.length_take]; rfl)) ?_; (with_reducible refine (spec_l2CopyView.calls kj37 _ _ l0_0 _ _ l0_1 a0_2 t203 t206 t209 _ ?side1 ?side2 ?side3 ?side4 A53.out).mono ?_); (case side1 => repeat (first | exact (Kd.C_below HR0_0.out HB.out) | (with_reducible refine Kd.C_alloc ?_ _) | (with_reducible refine Kd.C_drewN ?_ _) | (with_reducible refine Kd.C_drew ?_))); (case side2 => exact HC0_0.out); (case side3 => repeat (first | exact (Kd.C_below HR0_1.out HB.out) | (with_reducible refine Kd.C_alloc ?_ _) | (with_reducible refine Kd.C_drewN ?_ _) | (with_reducible refine Kd.C_drew ?_))); (case side4 => exact HC0_1.out); rintro e w105 ⟨v204, v207, rfl, ho0, ho1, hb⟩; refine ⟨_, rfl, ?_⟩; have n0_ := Aside0.mk (Kd.R_mono (Kd.R_told (Kd.R_told (Kd.R_old (by (with_reducible repeat (first | apply Kd.R_alloc | apply Kd.R_drewN | apply Kd.R_drew)); exact HO_16.out) hb) (Kd.R_base ho0)) (Kd.R_base ho1)) (fun _ h_ => h_.1)); have n1_ := Aside0.mk (Kd.R_lower (Kd.R_new' ho0 (Kd.R_lt (by (with_reducible repeat (first | apply Kd.R_alloc | apply Kd.R_drewN | apply Kd.R_drew)); exact HO_16.out))) (below_size (by repeat (first | (with_reducible first | exact HB.out | apply below_alloc | apply pw_below_drewN | apply below_drew1 | refine below_set ?_ GE185.out | refine below_set ?_ GE186.out) | exact HB.out)))); have n2_ := Aside0.mk (Kd.R_lower (Kd.R_new' ho1 (Kd.R_lt (by (with_reducible repeat (first | apply Kd.R_alloc | apply Kd.R_drewN | apply Kd.R_drew)); exact HO_16.out))) (below_size (by repeat (first | (with_reducible first | exact HB.out | apply below_alloc | apply pw_below_drewN | apply below_drew1 | refine below_set ?_ GE185.out | refine below_set ?_ GE186.out) | exact HB.out)))); have n3_ := Aside0.mk (blk_below (g := gb185) (o := .cells #[.slice (some ad188) l0_0.length c0_0, .slice A0_1 l0_1.length c0_1, .int .i64 a0_2] 32 (0, 0)) (by (with_reducible repeat (first | refine blk_drewN ?_ _ | refine blk_drew ?_ | refine blk_alloc ?_ _)); exact BK185.out) hb); have n4_ := Aside0.mk (blk_below (g := gb186) (o := .cells #[.int .i64 0, .slice none 0 0, .slice none 0 0, .int .i64 0] 53 (0, 0)) (by (with_reducible repeat (first | refine blk_drewN ?_ _ | refine blk_drew ?_ | refine blk_alloc ?_ _)); exact BK186.out) hb); have n5_ := Aside0.mk (below_step (by repeat (first | (with_reducible first | exact HB.out | apply below_alloc | apply pw_below_drewN | apply below_drew1 | refine below_set ?_ GE185.out | refine below_set ?_ GE186.out) | exact HB.out)) hb); clear HO_16; clear BK185; clear BK186; clear HB; have HO_16 := n0_; have HO205 := n1_; have HO208 := n2_; have BK185 := n3_; have BK186 := n4_; have HB := n5_; clear n0_ n1_ n2_ n3_ n4_ n5_; (try clear hb); (try clear hb2); (try clear hk); (try clear hi); (try clear ho0); (try clear ho1)) | ((with_reducible refine gate_dst (N := 18) rfl ?_); (try (refine gate_guard (by rfl) ?_; dsimp only)); refine box_event ?hg (N := 18) ?hd (cs := #[.slice none 0 0, .slice none 0 0, .int .i64 0]) (t := 32) ?hr ?_; (case hd => rfl); (case hg => rfl); (case hr => first | (go_simp; done) | (go_simp; rfl)); intro gb210 hg w106 hbox hb; have n0_ := Aside0.mk (Kd.R_below (by (with_reducible repeat (first | apply Kd.R_alloc | apply Kd.R_drewN | apply Kd.R_drew)); exact HO_16.out) hb); have n1_ := Aside0.mk (Kd.R_below (by (with_reducible repeat (first | apply Kd.R_alloc | apply Kd.R_drewN | apply Kd.R_drew)); exact HO205.out) hb); have n2_ := Aside0.mk (Kd.R_below (by (with_reducible repeat (first | apply Kd.R_alloc | apply Kd.R_drewN | apply Kd.R_drew)); exact HO208.out) hb); have n3_ := Aside0.mk (blk_below (g := gb185) (o := .cells #[.slice (some ad188) l0_0.length c0_0, .slice A0_1 l0_1.length c0_1, .int .i64 a0_2] 32 (0, 0)) (by (with_reducible repeat (first | refine blk_drewN ?_ _ | refine blk_drew ?_ | refine blk_alloc ?_ _)); exact BK185.out) hb); have n4_ := Aside0.mk (blk_below (g := gb186) (o := .cells #[.int .i64 0, .slice none 0 0, .slice none 0 0, .int .i64 0] 53 (0, 0)) (by (with_reducible repeat (first | refine blk_drewN ?_ _ | refine blk_drew ?_ | refine blk_alloc ?_ _)); exact BK186.out) hb); have n5_ := Aside0.mk (below_step (by repeat (first | (with_reducible first | exact HB.out | apply below_alloc | apply pw_below_drewN | apply below_drew1 | refine below_set ?_ GE185.out | refine below_set ?_ GE186.out) | exact HB.out)) hb); have n6_ := Aside0.mk (hbox); have n7_ := Aside0.mk ((by rw [hg]; exact (below_size (by repeat (first | (with_reducible first | exact HB.out | apply below_alloc | apply pw_below_drewN | apply below_drew1 | refine below_set ?_ GE185.out | refine below_set ?_ GE186.out) | exact HB.out))) : w.heap.size ≤ gb210)); have n8_ := Aside0.mk ((by rw [hg]; exact (below_size (by repeat (first | (with_reducible first | exact HB.out | apply below_alloc | apply pw_below_drewN | apply below_drew1 | refine below_set ?_ GE185.out | refine below_set ?_ GE186.out) | exact HB.out))) : w.heap.size ≤ gb210)); have n9_ := Aside0.mk ((by rw [hg]; exact Nat.ne_of_lt (blk_lt (g := gb185) (o := .cells #[.slice (some ad188) l0_0.length c0_0, .slice A0_1 l0_1.length c0_1, .int .i64 a0_2] 32 (0, 0)) (by (with_reducible repeat (first | refine blk_drewN ?_ _ | refine blk_drew ?_ | refine blk_alloc ?_ _)); exact BK185.out)) : gb185 ≠ gb210)); have n10_ := Aside0.mk ((by rw [hg]; exact Nat.ne_of_gt (blk_lt (g := gb185) (o := .cells #[.slice (some ad188) l0_0.length c0_0, .slice A0_1 l0_1.length c0_1, .int .i64 a0_2] 32 (0, 0)) (by (with_reducible repeat (first | refine blk_drewN ?_ _ | refine blk_drew ?_ | refine blk_alloc ?_ _)); exact BK185.out)) : gb210 ≠ gb185)); have n11_ := Aside0.mk ((by rw [hg]; exact Nat.ne_of_lt (blk_lt (g := gb186) (o := .cells #[.int .i64 0, .slice none 0 0, .slice none 0 0, .int .i64 0] 53 (0, 0)) (by (with_reducible repeat (first | refine blk_drewN ?_ _ | refine blk_drew ?_ | refine blk_alloc ?_ _)); exact BK186.out)) : gb186 ≠ gb210)); have n12_ := Aside0.mk ((by rw [hg]; exact Nat.ne_of_gt (blk_lt (g := gb186) (o := .cells #[.int .i64 0, .slice none 0 0, .slice none 0 0, .int .i64 0] 53 (0, 0)) (by (with_reducible repeat (first | refine blk_drewN ?_ _ | refine blk_drew ?_ | refine blk_alloc ?_ _)); exact BK186.out)) : gb210 ≠ gb186)); clear HO_16; clear HO205; clear HO208; clear BK185; clear BK186; clear HB; have HO_16 := n0_; have HO205 := n1_; have HO208 := n2_; have BK185 := n3_; have BK186 := n4_; have HB := n5_; have BK210 := n6_; have GW210 := n7_; have GE210 := n8_; have NB185_210 := n9_; have NB210_185 := n10_; have NB186_210 := n11_; have NB210_186 := n12_; clear n0_ n1_ n2_ n3_ n4_ n5_ n6_ n7_ n8_ n9_ n10_ n11_ n12_; clear hb hbox hg; obtain ⟨Ao107, co107, eo107⟩ := Kd.R_slice HO205.out; subst eo107; have hnb108 := NB210_185.out; have hnc108 := NB185_210.out; have hnb109 := NB210_186.out; have hnc109 := NB186_210.out; have hcz110_0 : w106.cell? ⟨gb210, 0, none⟩ = some (.slice none 0 0) := (blk_cell BK210.out 0).trans rfl; have hcz110_1 : w106.cell? ⟨gb210, 1, none⟩ = some (.slice none 0 0) := (blk_cell BK210.out 1).trans rfl; have hcz110_2 : w106.cell? ⟨gb210, 2, none⟩ = some (.int .i64 0) := (blk_cell BK210.out 2).trans rfl; have hfz110_0 := blk_frozen BK210.out 0; have hfz110_1 := blk_frozen BK210.out 1; have hfz110_2 := blk_frozen BK210.out 2; obtain ⟨Ao111, co111, eo111⟩ := Kd.R_slice HO208.out; subst eo111) | ((with_reducible refine gate_store (t := 32) (p := 18) rfl ?_); refine store_event (t := 32) (p := 18) (v := ?vo_w112) (w1 := (((w106.setCell ⟨gb210, 0, none⟩ (.slice Ao107 t203.length co107)).setCell ⟨gb210, 1, none⟩ (.slice Ao111 t206.length co111)).setCell ⟨gb210, 2, none⟩ (.int .i64 t209))) ?hg ?ho ?hn ?hr ?_; (case ho => rfl); (case hg => rfl); (case hn => rfl); (case hr => first | (go_simp; done) | (go_simp; rfl)); intro w112 hw; have n0_ : Aside0 (Kd.R (Kd.int .i64) 2 w112 w.heap.size (fun k_ => some k_ ≠ (.slice Ao107 t203.length co107 : Value).ownBlock ∧ some k_ ≠ (.slice Ao111 t206.length co111 : Value).ownBlock) u16 x16_37) := ⟨(by rw [hw]; exact (by (with_reducible repeat (first | apply Kd.R_alloc | apply Kd.R_drewN | apply Kd.R_drew)); exact Kd.R_mono (Kd.R_far (p := ⟨gb210, 2, none⟩) (Kd.R_far (p := ⟨gb210, 1, none⟩) (Kd.R_far (p := ⟨gb210, 0, none⟩) (Kd.R_types HO_16.out BK210.out (by decide)) (fun _ hk => by first | exact hk.2 | (simp only [ne_eq, hk, not_false_eq_true, and_self, true_and, and_true])) (.slice Ao107 t203.length co107)) (fun _ hk => by first | exact hk.2 | (simp only [ne_eq, hk, not_false_eq_true, and_self, true_and, and_true])) (.slice Ao111 t206.length co111)) (fun _ hk => by first | exact hk.2 | (simp only [ne_eq, hk, not_false_eq_true, and_self, true_and, and_true])) (.int .i64 t209)) (fun _ hk => by first | exact ⟨hk.1.1.2, hk.1.2⟩ | (simp only [ne_eq, hk, not_false_eq_true, and_self, true_and, and_true]))))⟩; have n1_ : Aside0 (Kd.R (Kd.int .i64) 2 w112 w.heap.size (fun k_ => some k_ ≠ (u16 : Value).ownBlock ∧ some k_ ≠ (.slice Ao111 t206.length co111 : Value).ownBlock) (.slice Ao107 t203.length co107) t203) := ⟨(by rw [hw]; exact (by (with_reducible repeat (first | apply Kd.R_alloc | apply Kd.R_drewN | apply Kd.R_drew)); exact Kd.R_mono (Kd.R_far (p := ⟨gb210, 2, none⟩) (Kd.R_far (p := ⟨gb210, 1, none⟩) (Kd.R_far (p := ⟨gb210, 0, none⟩) (Kd.R_types HO205.out BK210.out (by decide)) (fun _ hk => by first | exact hk.2 | (simp only [ne_eq, hk, not_false_eq_true, and_self, true_and, and_true])) (.slice Ao107 t203.length co107)) (fun _ hk => by first | exact hk.2 | (simp only [ne_eq, hk, not_false_eq_true, and_self, true_and, and_true])) (.slice Ao111 t206.length co111)) (fun _ hk => by first | exact hk.2 | (simp only [ne_eq, hk, not_false_eq_true, and_self, true_and, and_true])) (.int .i64 t209)) (fun _ hk => by first | exact ⟨hk.1.2, hk.1.1⟩ | (simp only [ne_eq, hk, not_false_eq_true, and_self, true_and, and_true]))))⟩; have n2_ : Aside0 (Kd.R (Kd.int .i64) 2 w112 w.heap.size (fun k_ => some k_ ≠ (u16 : Value).ownBlock ∧ some k_ ≠ (.slice Ao107 t203.length co107 : Value).ownBlock) (.slice Ao111 t206.length co111) t206) := ⟨(by rw [hw]; exact (by (with_reducible repeat (first | apply Kd.R_alloc | apply Kd.R_drewN | apply Kd.R_drew)); exact Kd.R_mono (Kd.R_far (p := ⟨gb210, 2, none⟩) (Kd.R_far (p := ⟨gb210, 1, none⟩) (Kd.R_far (p := ⟨gb210, 0, none⟩) (Kd.R_types HO208.out BK210.out (by decide)) (fun _ hk => by first | exact hk.2 | (simp only [ne_eq, hk, not_false_eq_true, and_self, true_and, and_true])) (.slice Ao107 t203.length co107)) (fun _ hk => by first | exact hk.2 | (simp only [ne_eq, hk, not_false_eq_true, and_self, true_and, and_true])) (.slice Ao111 t206.length co111)) (fun _ hk => by first | exact hk.2 | (simp only [ne_eq, hk, not_false_eq_true, and_self, true_and, and_true])) (.int .i64 t209)) (fun _ hk => by first | exact ⟨hk.1.2, hk.1.1⟩ | (simp only [ne_eq, hk, not_false_eq_true, and_self, true_and, and_true]))))⟩; have n3_ : Aside0 (w112.heap[gb185]? = some (.cells #[.slice (some ad188) l0_0.length c0_0, .slice A0_1 l0_1.length c0_1, .int .i64 a0_2] 32 (0, 0))) := ⟨(by rw [hw]; exact (by (with_reducible repeat (first | refine blk_drewN ?_ _ | refine blk_drew ?_ | refine blk_alloc ?_ _)); refine blk_far ?_ NB185_210.out _; (with_reducible repeat (first | refine blk_drewN ?_ _ | refine blk_drew ?_ | refine blk_alloc ?_ _)); refine blk_far ?_ NB185_210.out _; (with_reducible repeat (first | refine blk_drewN ?_ _ | refine blk_drew ?_ | refine blk_alloc ?_ _)); refine blk_far ?_ NB185_210.out _; (with_reducible repeat (first | refine blk_drewN ?_ _ | refine blk_drew ?_ | refine blk_alloc ?_ _)); exact BK185.out))⟩; have n4_ : Aside0 (w112.heap[gb186]? = some (.cells #[.int .i64 0, .slice none 0 0, .slice none 0 0, .int .i64 0] 53 (0, 0))) := ⟨(by rw [hw]; exact (by (with_reducible repeat (first | refine blk_drewN ?_ _ | refine blk_drew ?_ | refine blk_alloc ?_ _)); refine blk_far ?_ NB186_210.out _; (with_reducible repeat (first | refine blk_drewN ?_ _ | refine blk_drew ?_ | refine blk_alloc ?_ _)); refine blk_far ?_ NB186_210.out _; (with_reducible repeat (first | refine blk_drewN ?_ _ | refine blk_drew ?_ | refine blk_alloc ?_ _)); refine blk_far ?_ NB186_210.out _; (with_reducible repeat (first | refine blk_drewN ?_ _ | refine blk_drew ?_ | refine blk_alloc ?_ _)); exact BK186.out))⟩; have n5_ : Aside0 (w112.heap[gb210]? = some (.cells #[.slice Ao107 t203.length co107, .slice Ao111 t206.length co111, .int .i64 t209] 32 (0, 0))) := ⟨(by rw [hw]; exact (by (with_reducible repeat (first | refine blk_drewN ?_ _ | refine blk_drew ?_ | refine blk_alloc ?_ _)); refine blk_put (cs := #[.slice Ao107 t203.length co107, .slice Ao111 t206.length co111, .int .i64 0]) ?_ 2 _ rfl; (with_reducible repeat (first | refine blk_drewN ?_ _ | refine blk_drew ?_ | refine blk_alloc ?_ _)); refine blk_put (cs := #[.slice Ao107 t203.length co107, .slice none 0 0, .int .i64 0]) ?_ 1 _ rfl; (with_reducible repeat (first | refine blk_drewN ?_ _ | refine blk_drew ?_ | refine blk_alloc ?_ _)); refine blk_put (cs := #[.slice none 0 0, .slice none 0 0, .int .i64 0]) ?_ 0 _ rfl; (with_reducible repeat (first | refine blk_drewN ?_ _ | refine blk_drew ?_ | refine blk_alloc ?_ _)); exact BK210.out))⟩; have n6_ : Aside0 (Below w.heap.size w w112) := ⟨(by rw [hw]; exact (by repeat (first | (with_reducible first | exact HB.out | apply below_alloc | apply pw_below_drewN | apply below_drew1 | refine below_set ?_ GE185.out | refine below_set ?_ GE186.out | refine below_set ?_ GE210.out) | exact HB.out)))⟩; clear hw; clear HO_16; clear HO205; clear HO208; clear BK185; clear BK186; clear BK210; clear HB; have HO_16 := n0_; have HO205 := n1_; have HO208 := n2_; have BK185 := n3_; have BK186 := n4_; have BK210 := n5_; have HB := n6_; clear n0_ n1_ n2_ n3_ n4_ n5_ n6_; have hcz113_0 : w112.cell? ⟨gb210, 0, none⟩ = some (.slice Ao107 t203.length co107) := (blk_cell BK210.out 0).trans rfl; have hcz113_1 : w112.cell? ⟨gb210, 1, none⟩ = some (.slice Ao111 t206.length co111) := (blk_cell BK210.out 1).trans rfl; have hcz113_2 : w112.cell? ⟨gb210, 2, none⟩ = some (.int .i64 t209) := (blk_cell BK210.out 2).trans rfl; have hfz113_0 := blk_frozen BK210.out 0; have hfz113_1 := blk_frozen BK210.out 1; have hfz113_2 := blk_frozen BK210.out 2; obtain ⟨Ao114, co114, eo114⟩ := Kd.R_slice HO_16.out; subst eo114; have p56 : 0 ≤ (a1 : Int) := of_decide_eq_true (by first | (with_reducible assumption) | assumption); have q56 : (a1 : Int) < ((t203.length : Int) : Int) := of_decide_eq_true (by first | (with_reducible assumption) | assumption); obtain ⟨go56, co56, eo56, gb56, gl56, cl56, HG56⟩ := Kd.R_form HO205.out (by omega); (first | cases eo56 | (injection eo56 with ea_ en_ ec_; (first | subst ea_ | (injection ea_ with ea_; subst ea_)); subst ec_; clear en_)); have GB56 := Aside0.mk gb56; have GG56 := Aside0.mk HG56; clear gb56 gl56 HG56; obtain ⟨hx56_0, hf56_0⟩ := Kd.R_celln 0 HO205.out (a1 : Int) p56 q56; replace p56 := eq_true p56; replace q56 := eq_true q56; obtain ⟨hy115_, hz115_⟩ := Kd.R_celln 0 HO205.out (a1 : Int) (of_decide_eq_true (by first | (with_reducible assumption) | assumption)) (of_decide_eq_true (by first | (with_reducible assumption) | assumption)); have HP115 := Kd.R_putg HO205.out (a1 : Int) (x16_37.length : Int)) | ((with_reducible refine gate_store (t := 2) (p := 112) rfl ?_); refine store_event (t := 2) (p := 112) (v := ?vo_w116) (w1 := (w112.setCell ⟨go56, (a1 : Int).toNat, none⟩ (.int .i64 (x16_37.length : Int)))) ?hg ?ho ?hn ?hr ?_; (case ho => rfl); (case hg => rfl); (case hn => rfl); (case hr => first | (go_simp; done) | (go_simp; rfl)); intro w116 hw; have hg : w112.grownBy w116 (some go56) := (by rw [hw]; exact HP115.2); have hp_ : Kd.R (Kd.int .i64) 2 w116 w.heap.size (fun k_ => some k_ ≠ (.slice Ao114 x16_37.length co114 : Value).ownBlock ∧ some k_ ≠ (.slice Ao111 t206.length co111 : Value).ownBlock) (.slice (some ⟨go56, 0, none⟩) t203.length co107) y211 := (by rw [hw, Ny211.out]; exact HP115.1); clear HP115; have n0_ := Aside0.mk (Kd.R_after (v := (.slice (some ⟨go56, 0, none⟩) t203.length co107)) (v1 := (.slice (some ⟨go56, 0, none⟩) t203.length co107)) (ok := (fun k_ => some k_ ≠ (.slice Ao111 t206.length co111 : Value).ownBlock)) (by (with_reducible repeat (first | apply Kd.R_alloc | apply Kd.R_drewN | apply Kd.R_drew)); exact Kd.R_mono HO_16.out (fun _ hk => by first | exact ⟨hk.2, hk.1⟩ | (simp only [ne_eq, hk, not_false_eq_true, and_self, true_and, and_true]))) hg (.inl rfl)); have n1_ := Aside0.mk (blk_grown (g := gb185) (o := .cells #[.slice (some ad188) l0_0.length c0_0, .slice A0_1 l0_1.length c0_1, .int .i64 a0_2] 32 (0, 0)) (by (with_reducible repeat (first | refine blk_drewN ?_ _ | refine blk_drew ?_ | refine blk_alloc ?_ _)); exact BK185.out) hg (Kd.R_ne HO205.out BK185.out (by decide))); have n2_ := Aside0.mk (blk_grown (g := gb186) (o := .cells #[.int .i64 0, .slice none 0 0, .slice none 0 0, .int .i64 0] 53 (0, 0)) (by (with_reducible repeat (first | refine blk_drewN ?_ _ | refine blk_drew ?_ | refine blk_alloc ?_ _)); exact BK186.out) hg (Kd.R_ne HO205.out BK186.out (by decide))); have n3_ := Aside0.mk (hp_); have n4_ := Aside0.mk (Kd.R_after (v := (.slice (some ⟨go56, 0, none⟩) t203.length co107)) (v1 := (.slice (some ⟨go56, 0, none⟩) t203.length co107)) (ok := (fun k_ => some k_ ≠ (.slice Ao114 x16_37.length co114 : Value).ownBlock)) (by (with_reducible repeat (first | apply Kd.R_alloc | apply Kd.R_drewN | apply Kd.R_drew)); exact HO208.out) hg (.inl rfl)); have n5_ := Aside0.mk (blk_grown (g := gb210) (o := .cells #[.slice (some ⟨go56, 0, none⟩) t203.length co107, .slice Ao111 t206.length co111, .int .i64 t209] 32 (0, 0)) (by (with_reducible repeat (first | refine blk_drewN ?_ _ | refine blk_drew ?_ | refine blk_alloc ?_ _)); exact BK210.out) hg (Kd.R_ne HO205.out BK210.out (by decide))); have n6_ := Aside0.mk ((by rw [hw]; exact below_set (HB.out) GB56.out : Below w.heap.size w w116)); clear HO_16; clear BK185; clear BK186; clear HO205; clear HO208; clear BK210; clear HB; have HO_16 := n0_; have BK185 := n1_; have BK186 := n2_; have HO205 := n3_; have HO208 := n4_; have BK210 := n5_; have HB := n6_; clear n0_ n1_ n2_ n3_ n4_ n5_ n6_; clear hg hw hp_; have hcz117_0 : w116.cell? ⟨gb210, 0, none⟩ = some (.slice (some ⟨go56, 0, none⟩) t203.length co107) := (blk_cell BK210.out 0).trans rfl; have hcz117_1 : w116.cell? ⟨gb210, 1, none⟩ = some (.slice Ao111 t206.length co111) := (blk_cell BK210.out 1).trans rfl; have hcz117_2 : w116.cell? ⟨gb210, 2, none⟩ = some (.int .i64 t209) := (blk_cell BK210.out 2).trans rfl; have hfz117_0 := blk_frozen BK210.out 0; have hfz117_1 := blk_frozen BK210.out 1; have hfz117_2 := blk_frozen BK210.out 2) | ((with_reducible refine gate_callee (f := 78) rfl ?_); refine goesL_ (some 115) rfl rfl Try.func78 (by kernel_rfl) rfl #[.slice (some ⟨go56, 0, none⟩) y211.length co107] rfl (by (try simp only [List.map_toArray, List.map_cons, List.map_nil]); first | done | (rw [show y211.length = t203.length from (Kd.R_reads' HO205.out).1.symm] <;> rfl) | rfl | (simp only [List.length_drop, List.length_take]; rfl)) ?_; (with_reducible refine (spec_l2Count.calls kj37 _ _ y211 t212 _ ?side1 ?side2 A57.out).mono ?_); (case side1 => repeat (first | exact (Kd.R_reads' HO205.out).2.2 | (with_reducible refine Kd.C_alloc ?_ _) | (with_reducible refine Kd.C_drewN ?_ _) | (with_reducible refine Kd.C_drew ?_))); (case side2 => rw [show y211.length = t203.length from (Kd.R_reads' HO205.out).1.symm]; exact (Kd.R_reads' HO205.out).2.1); rintro e w' ⟨rfl, ⟨nd, rfl⟩⟩; refine ⟨_, rfl, ?_⟩; (try (rw [drewN_self w116]; generalize hq_ : World.drewN w116 _ = w116; have n0_ : Aside0 (Kd.R (Kd.int .i64) 2 w116 w.heap.size (fun k_ => some k_ ≠ (.slice Ao111 t206.length co111 : Value).ownBlock ∧ some k_ ≠ (.slice Ao114 x16_37.length co114 : Value).ownBlock) (.slice (some ⟨go56, 0, none⟩) t203.length co107) y211) := ⟨by rw [← hq_]; exact (by (with_reducible repeat (first | apply Kd.R_alloc | apply Kd.R_drewN | apply Kd.R_drew)); exact Kd.R_mono HO205.out (fun _ hk => by first | exact ⟨hk.2, hk.1⟩ | (simp only [ne_eq, hk, not_false_eq_true, and_self, true_and, and_true])))⟩; have n1_ : Aside0 (Kd.R (Kd.int .i64) 2 w116 w.heap.size (fun k_ => some k_ ≠ (.slice (some ⟨go56, 0, none⟩) t203.length co107 : Value).ownBlock ∧ some k_ ≠ (.slice Ao114 x16_37.length co114 : Value).ownBlock) (.slice Ao111 t206.length co111) t206) := ⟨by rw [← hq_]; exact (by (with_reducible repeat (first | apply Kd.R_alloc | apply Kd.R_drewN | apply Kd.R_drew)); exact Kd.R_mono HO208.out (fun _ hk => by first | exact ⟨hk.2, hk.1⟩ | (simp only [ne_eq, hk, not_false_eq_true, and_self, true_and, and_true])))⟩; have n2_ : Aside0 (Kd.R (Kd.int .i64) 2 w116 w.heap.size (fun k_ => some k_ ≠ (.slice (some ⟨go56, 0, none⟩) t203.length co107 : Value).ownBlock ∧ some k_ ≠ (.slice Ao111 t206.length co111 : Value).ownBlock) (.slice Ao114 x16_37.length co114) x16_37) := ⟨by rw [← hq_]; exact (by (with_reducible repeat (first | apply Kd.R_alloc | apply Kd.R_drewN | apply Kd.R_drew)); exact Kd.R_mono HO_16.out (fun _ hk => by first | exact ⟨hk.2, hk.1⟩ | (simp only [ne_eq, hk, not_false_eq_true, and_self, true_and, and_true])))⟩; have n3_ : Aside0 (w116.heap[gb185]? = some (.cells #[.slice (some ad188) l0_0.length c0_0, .slice A0_1 l0_1.length c0_1, .int .i64 a0_2] 32 (0, 0))) := ⟨by rw [← hq_]; exact (by (with_reducible repeat (first | refine blk_drewN ?_ _ | refine blk_drew ?_ | refine blk_alloc ?_ _)); exact BK185.out)⟩; have n4_ : Aside0 (w116.heap[gb186]? = some (.cells #[.int .i64 0, .slice none 0 0, .slice none 0 0, .int .i64 0] 53 (0, 0))) := ⟨by rw [← hq_]; exact (by (with_reducible repeat (first | refine blk_drewN ?_ _ | refine blk_drew ?_ | refine blk_alloc ?_ _)); exact BK186.out)⟩; have n5_ : Aside0 (w116.heap[gb210]? = some (.cells #[.slice (some ⟨go56, 0, none⟩) t203.length co107, .slice Ao111 t206.length co111, .int .i64 t209] 32 (0, 0))) := ⟨by rw [← hq_]; exact (by (with_reducible repeat (first | refine blk_drewN ?_ _ | refine blk_drew ?_ | refine blk_alloc ?_ _)); exact BK210.out)⟩; have n6_ : Aside0 (Below w.heap.size w w116) := ⟨by rw [← hq_]; exact (by repeat (first | (with_reducible first | exact HB.out | apply below_alloc | apply pw_below_drewN | apply below_drew1 | refine below_set ?_ GE185.out | refine below_set ?_ GE186.out | refine below_set ?_ GE210.out) | exact HB.out))⟩; clear HO205 HO208 HO_16 BK185 BK186 BK210 HB hq_; have HO205 := n0_; have HO208 := n1_; have HO_16 := n2_; have BK185 := n3_; have BK186 := n4_; have BK210 := n5_; have HB := n6_; clear n0_ n1_ n2_ n3_ n4_ n5_ n6_; have hcq_0 : w116.cell? ⟨gb210, 0, none⟩ = some (.slice (some ⟨go56, 0, none⟩) t203.length co107) := (blk_cell BK210.out 0).trans rfl; have hcq_1 : w116.cell? ⟨gb210, 1, none⟩ = some (.slice Ao111 t206.length co111) := (blk_cell BK210.out 1).trans rfl; have hcq_2 : w116.cell? ⟨gb210, 2, none⟩ = some (.int .i64 t209) := (blk_cell BK210.out 2).trans rfl))))
                                        have n0_ := Aside0.mk (Kd.R_drew HO_16.out)
                                        have n1_ := Aside0.mk (Kd.R_drew HO205.out)
                                        have n2_ := Aside0.mk (Kd.R_drew HO208.out)
                                        have n3_ := Aside0.mk (blk_drew BK185.out)
                                        have n4_ := Aside0.mk (blk_drew BK186.out)
                                        have n5_ := Aside0.mk (blk_drew BK210.out)
                                        have n6_ := Aside0.mk (below_drew1 HB.out)
                                        clear HO_16
                                        clear HO205
                                        clear HO208
                                        clear BK185
                                        clear BK186
                                        clear BK210
                                        clear HB
                                        have HO_16 := n0_
                                        have HO205 := n1_
                                        have HO208 := n2_
                                        have BK185 := n3_
                                        have BK186 := n4_
                                        have BK210 := n5_
                                        have HB := n6_
                                        clear n0_ n1_ n2_ n3_ n4_ n5_ n6_
                                        have p213 : 0 ≤ (0 : Int) := (by omega)
                                        have q213 : 0 < (x16_37.length : Int) := of_decide_eq_true (by first | (with_reducible assumption) | assumption)
                                        obtain ⟨ad213, e213, hx213_0⟩ := Kd.at_int (Kd.R_reads' HO_16.out).2.2 0 p213 q213
                                        cases e213
                                        have qi213 : (0 < x16_37.length) = True := eq_true (by omega)
                                        (try rw [show ((0 : Int)).toNat = 0 from rfl] at hx213_0)
                                        (try rw [Addr.add_zero'] at hx213_0)
                                        replace p213 := eq_true p213
                                        replace q213 := eq_true q213
                                        have p214 : 0 ≤ (a1 : Int) := of_decide_eq_true (by first | (with_reducible assumption) | assumption)
                                        have q214 : a1 < (l0_1.length : Int) := of_decide_eq_true (by first | (with_reducible assumption) | assumption)
                                        obtain ⟨ad214, e214, hx214_0⟩ := Kd.at_int HR0_1.out a1 p214 q214
                                        have hw214_0 := hx214_0
                                        cases e214
                                        replace hx214_0 := (HB.out.cell (World.block_lt_of_cell? w _ hx214_0)).trans hx214_0
                                        replace p214 := eq_true p214
                                        replace q214 := eq_true q214
                                        refine start_ (n := 14) (S := fun w' => w'.cell? ⟨gb185, 0, none⟩ = some (.slice (some ad188) l0_0.length c0_0) ∧ w'.cell? ⟨gb185, 1, none⟩ = some (.slice (some ad214) l0_1.length c0_1) ∧ w'.cell? ⟨gb185, 2, none⟩ = some (.int .i64 a0_2) ∧ w'.cell? ad213 = some (.int .i64 (rd x16_37 0)) ∧ w'.cell? (ad214.add (a1).toNat) = some (.int .i64 (rd l0_1 a1))) (ds := []) #[false, false, false, false, false, false, false, false, false, false, false, false, false, false] (by kernel_rfl) rfl rfl ⟨(blk_cell BK185.out 0).trans rfl, (blk_cell BK185.out 1).trans rfl, (blk_cell BK185.out 2).trans rfl, hx213_0, ((HB.out.cell (World.block_lt_of_cell? w _ hw214_0)).trans hw214_0)⟩ (fun hHeld => ?_); refine with_tabW spec_Slice.tab23 spec_Slice.bits23 (fun HT_ HW_ => ?_)
                                        generalize w116.drew = w118 at HO_16 HO205 HO208 BK185 BK186 BK210 HB hx213_0 hx214_0 hHeld ⊢
                                        refine pure_ (i := 0) (N := some 117) (v := ?_) (a' := ?_) #[true, false, false, false, false, false, false, false, false, false, false, false, false, false] rfl rfl (any_of HT_.out (by kernel_rfl)) (fun _ _ _ h => h) (Or.inl ⟨by rfl, ?_⟩) ?_ ?_
                                        rotate_left
                                        · intro w'
                                          go_simp
                                          with_reducible rfl
                                        rotate_left
                                        · simp only [Act.put, List.setIfInBounds_toArray, List.set_cons_zero, List.set_cons_succ, i64_w, i32_w]
                                          rfl
                                        refine pure_ (i := 2) (N := some 119) (v := ?_) (a' := ?_) #[true, false, true, false, false, false, false, false, false, false, false, false, false, false] rfl rfl (any_of HT_.out (by kernel_rfl)) (fun _ _ _ h => h) (Or.inl ⟨by rfl, ?_⟩) ?_ ?_
                                        rotate_left
                                        · intro w'
                                          go_simp
                                          with_reducible rfl
                                        rotate_left
                                        · simp only [Act.put, List.setIfInBounds_toArray, List.set_cons_zero, List.set_cons_succ, i64_w, i32_w]
                                          rfl
                                        refine pure_ (i := 3) (N := some 120) (v := ?_) (a' := ?_) #[true, false, true, true, false, false, false, false, false, false, false, false, false, false] rfl rfl (any_of HT_.out (by kernel_rfl)) (fun _ _ _ h => h) (Or.inl ⟨by rfl, ?_⟩) ?_ ?_
                                        rotate_left
                                        · intro w'
                                          go_simp
                                          with_reducible rfl
                                        rotate_left
                                        · simp only [Act.put, List.setIfInBounds_toArray, List.set_cons_zero, List.set_cons_succ, i64_w, i32_w]
                                          rfl
                                        refine pure_ (i := 5) (N := some 122) (v := ?_) (a' := ?_) #[true, false, true, true, false, true, false, false, false, false, false, false, false, false] rfl rfl (any_of HT_.out (by kernel_rfl)) (fun _ _ _ h => h) (Or.inl ⟨by rfl, ?_⟩) ?_ ?_
                                        rotate_left
                                        · intro w'
                                          go_simp
                                          with_reducible rfl
                                        rotate_left
                                        · simp only [Act.put, List.setIfInBounds_toArray, List.set_cons_zero, List.set_cons_succ, i64_w, i32_w]
                                          rfl
                                        refine pure_ (i := 7) (N := some 124) (v := ?_) (a' := ?_) #[true, false, true, true, false, true, false, true, false, false, false, false, false, false] rfl rfl (any_of HT_.out (by kernel_rfl)) (fun _ _ _ h => h) (Or.inl ⟨by rfl, ?_⟩) ?_ ?_
                                        rotate_left
                                        · intro w'
                                          go_simp
                                          with_reducible rfl
                                        rotate_left
                                        · simp only [Act.put, List.setIfInBounds_toArray, List.set_cons_zero, List.set_cons_succ, i64_w, i32_w]
                                          rfl
                                        refine take_ (i := 1) (N := some 118) (v := ?_) (a' := ?_) #[true, true, true, true, false, true, false, true, false, false, false, false, false, false] rfl rfl (take_ofW HT_.out HW_.out (by kernel_rfl)) (fun _ _ _ h => h) (Or.inl ⟨by rfl, ?_⟩) hHeld ?_ ?_
                                        rotate_left
                                        · rintro w' ⟨s0, s1, s2, s3, s4⟩
                                          go_simp
                                          with_reducible rfl
                                        rotate_left
                                        · simp only [Act.put, List.setIfInBounds_toArray, List.set_cons_zero, List.set_cons_succ, i64_w, i32_w]
                                          rfl
                                        refine take_ (i := 4) (N := some 121) (v := ?_) (a' := ?_) #[true, true, true, true, true, true, false, true, false, false, false, false, false, false] rfl rfl (take_ofW HT_.out HW_.out (by kernel_rfl)) (fun _ _ _ h => h) (Or.inl ⟨by rfl, ?_⟩) hHeld ?_ ?_
                                        rotate_left
                                        · rintro w' ⟨s0, s1, s2, s3, s4⟩
                                          go_simp
                                          with_reducible rfl
                                        rotate_left
                                        · simp only [Act.put, List.setIfInBounds_toArray, List.set_cons_zero, List.set_cons_succ, i64_w, i32_w]
                                          rfl
                                        refine take_ (i := 6) (N := some 123) (v := ?_) (a' := ?_) #[true, true, true, true, true, true, true, true, false, false, false, false, false, false] rfl rfl (take_ofW HT_.out HW_.out (by kernel_rfl)) (fun _ _ _ h => h) (Or.inl ⟨by rfl, ?_⟩) hHeld ?_ ?_
                                        rotate_left
                                        · rintro w' ⟨s0, s1, s2, s3, s4⟩
                                          go_simp
                                          with_reducible rfl
                                        rotate_left
                                        · simp only [Act.put, List.setIfInBounds_toArray, List.set_cons_zero, List.set_cons_succ, i64_w, i32_w]
                                          rfl
                                        refine pure_ (i := 8) (N := some 125) (v := ?_) (a' := ?_) #[true, true, true, true, true, true, true, true, true, false, false, false, false, false] rfl rfl (any_of HT_.out (by kernel_rfl)) (fun _ _ _ h => h) (Or.inl ⟨by rfl, ?_⟩) ?_ ?_
                                        rotate_left
                                        · intro w'
                                          go_simp
                                          with_reducible rfl
                                        rotate_left
                                        · simp only [Act.put, List.setIfInBounds_toArray, List.set_cons_zero, List.set_cons_succ, i64_w, i32_w]
                                          rfl
                                        refine take_ (i := 9) (N := some 126) (v := ?_) (a' := ?_) #[true, true, true, true, true, true, true, true, true, true, false, false, false, false] rfl rfl (take_ofW HT_.out HW_.out (by kernel_rfl)) (fun _ _ _ h => h) (Or.inl ⟨by rfl, ?_⟩) hHeld ?_ ?_
                                        rotate_left
                                        · rintro w' ⟨s0, s1, s2, s3, s4⟩
                                          go_simp
                                          with_reducible rfl
                                        rotate_left
                                        · simp only [Act.put, List.setIfInBounds_toArray, List.set_cons_zero, List.set_cons_succ, i64_w, i32_w]
                                          rfl
                                        refine pure_ (i := 10) (N := some 127) (v := ?_) (a' := ?_) #[true, true, true, true, true, true, true, true, true, true, true, false, false, false] rfl rfl (any_of HT_.out (by kernel_rfl)) (fun _ _ _ h => h) (Or.inl ⟨by rfl, ?_⟩) ?_ ?_
                                        rotate_left
                                        · intro w'
                                          go_simp
                                          with_reducible rfl
                                        rotate_left
                                        · simp only [Act.put, List.setIfInBounds_toArray, List.set_cons_zero, List.set_cons_succ, i64_w, i32_w]
                                          rfl
                                        refine pure_ (i := 11) (N := some 128) (v := ?_) (a' := ?_) #[true, true, true, true, true, true, true, true, true, true, true, true, false, false] rfl rfl (any_of HT_.out (by kernel_rfl)) (fun _ _ _ h => h) (Or.inl ⟨by rfl, ?_⟩) ?_ ?_
                                        rotate_left
                                        · intro w'
                                          go_simp
                                          with_reducible rfl
                                        rotate_left
                                        · simp only [Act.put, List.setIfInBounds_toArray, List.set_cons_zero, List.set_cons_succ, i64_w, i32_w]
                                          rfl
                                        refine pure_ (i := 12) (N := some 129) (v := ?_) (a' := ?_) #[true, true, true, true, true, true, true, true, true, true, true, true, true, false] rfl rfl (any_of HT_.out (by kernel_rfl)) (fun _ _ _ h => h) (Or.inl ⟨by rfl, ?_⟩) ?_ ?_
                                        rotate_left
                                        · intro w'
                                          go_simp
                                          with_reducible rfl
                                        rotate_left
                                        · simp only [Act.put, List.setIfInBounds_toArray, List.set_cons_zero, List.set_cons_succ, i64_w, i32_w]
                                          rfl
                                        refine one_ (i := 13) (N := none) #[true, true, true, true, true, true, true, true, true, true, true, true, true, true] rfl rfl (one_of HT_.out (by kernel_rfl)) (by decide) (fun K hK => ?_)
                                        have hs119 : w118.cell? ⟨gb210, 2, none⟩ = some (.int .i64 t209) := (blk_cell BK210.out 2).trans rfl
                                        have hfs119 := blk_frozen BK210.out 2
                                        have hns119_0 := NB185_210.out
                                        have hns119_1 := NB186_210.out
                                        have hms119_0 := NB210_185.out
                                        have hms119_1 := NB210_186.out
                                        refine skip_ (w1 := ?_) (by rfl) rfl ?_ ?_
                                        rotate_left
                                        · go_simp
                                          rfl
                                        refine hK.out _ _ ⟨((cell_far (p := ⟨gb210, _, none⟩) NB185_210.out _).trans (hHeld.1)), ((cell_far (p := ⟨gb210, _, none⟩) NB185_210.out _).trans (hHeld.2.1)), ((cell_far (p := ⟨gb210, _, none⟩) NB185_210.out _).trans (hHeld.2.2.1)), ((cell_far (p := ⟨gb210, _, none⟩) (by first | exact Kd.own_blk (Kd.R_ne HO_16.out BK210.out (by decide)) | (rw [add_block]; exact Kd.own_blk (Kd.R_ne HO_16.out BK210.out (by decide))) | (show (Addr.add _ _).block ≠ _; rw [add_block]; exact Kd.own_blk (Kd.R_ne HO_16.out BK210.out (by decide))) | (dsimp only; exact Kd.own_blk (Kd.R_ne HO_16.out BK210.out (by decide)))) _).trans (hHeld.2.2.2.1)), ((cell_far (p := ⟨gb210, _, none⟩) (by first | exact Nat.ne_of_lt (Nat.lt_of_lt_of_le (by have := World.block_lt_of_cell? _ _ hw214_0; first | rwa [add_block] at this | exact this) GW210.out) | (rw [add_block]; exact Nat.ne_of_lt (Nat.lt_of_lt_of_le (by have := World.block_lt_of_cell? _ _ hw214_0; first | rwa [add_block] at this | exact this) GW210.out)) | (show (Addr.add _ _).block ≠ _; rw [add_block]; exact Nat.ne_of_lt (Nat.lt_of_lt_of_le (by have := World.block_lt_of_cell? _ _ hw214_0; first | rwa [add_block] at this | exact this) GW210.out)) | (dsimp only; exact Nat.ne_of_lt (Nat.lt_of_lt_of_le (by have := World.block_lt_of_cell? _ _ hw214_0; first | rwa [add_block] at this | exact this) GW210.out))) _).trans (hHeld.2.2.2.2))⟩ (fun hHeld => ?_)
                                        clear hK K
                                        refine done_ (done_of HT_.out (by kernel_rfl)) ?_
                                        have hcz120_0 : w118.cell? ⟨gb210, 0, none⟩ = some (.slice (some ⟨go56, 0, none⟩) t203.length co107) := (blk_cell BK210.out 0).trans rfl
                                        have hcz120_1 : w118.cell? ⟨gb210, 1, none⟩ = some (.slice Ao111 t206.length co111) := (blk_cell BK210.out 1).trans rfl
                                        have hcz120_2 : w118.cell? ⟨gb210, 2, none⟩ = some (.int .i64 t209) := (blk_cell BK210.out 2).trans rfl
                                        have hfz120_0 := blk_frozen BK210.out 0
                                        have hfz120_1 := blk_frozen BK210.out 1
                                        have hfz120_2 := blk_frozen BK210.out 2
                                        have hcz121_0 : w118.cell? ⟨gb186, 0, none⟩ = some (.int .i64 0) := (blk_cell BK186.out 0).trans rfl
                                        have hcz121_1 : w118.cell? ⟨gb186, 1, none⟩ = some (.slice none 0 0) := (blk_cell BK186.out 1).trans rfl
                                        have hcz121_2 : w118.cell? ⟨gb186, 2, none⟩ = some (.slice none 0 0) := (blk_cell BK186.out 2).trans rfl
                                        have hcz121_3 : w118.cell? ⟨gb186, 3, none⟩ = some (.int .i64 0) := (blk_cell BK186.out 3).trans rfl
                                        have hfz121_0 := blk_frozen BK186.out 0
                                        have hfz121_1 := blk_frozen BK186.out 1
                                        have hfz121_2 := blk_frozen BK186.out 2
                                        have hfz121_3 := blk_frozen BK186.out 3
                                        try go_wp2
                                        refine bodyPost_ret (results_cell_row rfl _ _ gb186 53 #[.int .i64 0, .slice (some ⟨go56, 0, none⟩) t203.length co107, .slice Ao111 t206.length co111, .int .i64 (wrap64 (a0_2 + (wrap64 ((rd x16_37 0) * (rd l0_1 a1)))))] (0, 0) _ rfl (by (with_reducible repeat (first | refine blk_drewN ?_ _ | refine blk_drew ?_ | refine blk_alloc ?_ _)); refine blk_put (cs := #[.int .i64 0, .slice (some ⟨go56, 0, none⟩) t203.length co107, .slice Ao111 t206.length co111, .int .i64 0]) ?_ 3 _ rfl; (with_reducible repeat (first | refine blk_drewN ?_ _ | refine blk_drew ?_ | refine blk_alloc ?_ _)); refine blk_put (cs := #[.int .i64 0, .slice (some ⟨go56, 0, none⟩) t203.length co107, .slice none 0 0, .int .i64 0]) ?_ 2 _ rfl; (with_reducible repeat (first | refine blk_drewN ?_ _ | refine blk_drew ?_ | refine blk_alloc ?_ _)); refine blk_put (cs := #[.int .i64 0, .slice none 0 0, .slice none 0 0, .int .i64 0]) ?_ 1 _ rfl; (with_reducible repeat (first | refine blk_drewN ?_ _ | refine blk_drew ?_ | refine blk_alloc ?_ _)); refine blk_put (cs := #[.int .i64 0, .slice none 0 0, .slice none 0 0, .int .i64 0]) ?_ 0 _ rfl; (with_reducible repeat (first | refine blk_drewN ?_ _ | refine blk_drew ?_ | refine blk_alloc ?_ _)); refine blk_far ?_ NB186_210.out _; (with_reducible repeat (first | refine blk_drewN ?_ _ | refine blk_drew ?_ | refine blk_alloc ?_ _)); exact BK186.out) Try.underlying53 rfl (by kernel_rfl)) rfl ?_
                                        exact ⟨_, _, by first | rfl | (simp [errW_none, errW_some] <;> rfl) | (simp [*, errW_none, errW_some] <;> rfl), by (with_reducible repeat (first | apply Kd.R_alloc | apply Kd.R_drewN | apply Kd.R_drew)); exact Kd.R_mono (Kd.R_far (p := ⟨gb186, 3, none⟩) (Kd.R_far (p := ⟨gb186, 2, none⟩) (Kd.R_far (p := ⟨gb186, 1, none⟩) (Kd.R_far (p := ⟨gb186, 0, none⟩) (Kd.R_far (p := ⟨gb210, 2, none⟩) (Kd.R_types (Kd.R_types HO205.out BK210.out (by decide)) BK186.out (by decide)) (fun _ hk => by first | exact hk.1.2 | (simp only [ne_eq, hk, not_false_eq_true, and_self, true_and, and_true])) (.int .i64 (wrap64 (a0_2 + (wrap64 ((rd x16_37 0) * (rd l0_1 a1))))))) (fun _ hk => by first | exact hk.2 | (simp only [ne_eq, hk, not_false_eq_true, and_self, true_and, and_true])) (.int .i64 0)) (fun _ hk => by first | exact hk.2 | (simp only [ne_eq, hk, not_false_eq_true, and_self, true_and, and_true])) (.slice (some ⟨go56, 0, none⟩) t203.length co107)) (fun _ hk => by first | exact hk.2 | (simp only [ne_eq, hk, not_false_eq_true, and_self, true_and, and_true])) (.slice Ao111 t206.length co111)) (fun _ hk => by first | exact hk.2 | (simp only [ne_eq, hk, not_false_eq_true, and_self, true_and, and_true])) (.int .i64 (wrap64 (a0_2 + (wrap64 ((rd x16_37 0) * (rd l0_1 a1))))))) (fun _ hk => by first | exact hk.1.1.2 | (simp only [ne_eq, hk, not_false_eq_true, and_self, true_and, and_true])), by (with_reducible repeat (first | apply Kd.R_alloc | apply Kd.R_drewN | apply Kd.R_drew)); exact Kd.R_mono (Kd.R_far (p := ⟨gb186, 3, none⟩) (Kd.R_far (p := ⟨gb186, 2, none⟩) (Kd.R_far (p := ⟨gb186, 1, none⟩) (Kd.R_far (p := ⟨gb186, 0, none⟩) (Kd.R_far (p := ⟨gb210, 2, none⟩) (Kd.R_types (Kd.R_types HO208.out BK210.out (by decide)) BK186.out (by decide)) (fun _ hk => by first | exact hk.1.2 | (simp only [ne_eq, hk, not_false_eq_true, and_self, true_and, and_true])) (.int .i64 (wrap64 (a0_2 + (wrap64 ((rd x16_37 0) * (rd l0_1 a1))))))) (fun _ hk => by first | exact hk.2 | (simp only [ne_eq, hk, not_false_eq_true, and_self, true_and, and_true])) (.int .i64 0)) (fun _ hk => by first | exact hk.2 | (simp only [ne_eq, hk, not_false_eq_true, and_self, true_and, and_true])) (.slice (some ⟨go56, 0, none⟩) t203.length co107)) (fun _ hk => by first | exact hk.2 | (simp only [ne_eq, hk, not_false_eq_true, and_self, true_and, and_true])) (.slice Ao111 t206.length co111)) (fun _ hk => by first | exact hk.2 | (simp only [ne_eq, hk, not_false_eq_true, and_self, true_and, and_true])) (.int .i64 (wrap64 (a0_2 + (wrap64 ((rd x16_37 0) * (rd l0_1 a1))))))) (fun _ hk => by first | exact hk.1.1.2 | (simp only [ne_eq, hk, not_false_eq_true, and_self, true_and, and_true])), by repeat (first | (with_reducible first | exact HB.out | apply below_alloc | apply pw_below_drewN | apply below_drew1 | refine below_set ?_ GE185.out | refine below_set ?_ GE186.out | refine below_set ?_ GE210.out) | exact HB.out)⟩
                                    · rw [if_neg c76] at H
                                      exact absurd H (by simp)
                                  · rw [if_neg c75] at H
                                    exact absurd H (by simp)
                              · rw [if_neg c55] at H
                                exact absurd H (by simp)
                            · rw [if_neg c54] at H
                              exact absurd H (by simp)
                  · rw [if_neg c31] at H
                    exact absurd H (by simp)
                · rw [if_neg c30] at H
                  exact absurd H (by simp)
  · replace c7 := Bool.eq_false_iff.mpr c7
    subst c7
    have H1 : (some (12, ([] : List Int), ([] : List Int), 0)) = some (r1, r2, r3, r4) := by rw [if_neg (show ¬ (false = true) by decide)] at H; exact H
    clear H
    have H := H1
    clear H1
    simp only [Option.some.injEq, Prod.mk.injEq] at H
    obtain ⟨rfl, rfl, rfl, rfl⟩ := H
    go_enter Try.func59, Try.ntmps59
    go_wp2_with (first | ((with_reducible refine gate_dst (N := 5) rfl ?_); (try (refine gate_guard (by rfl) ?_; dsimp only)); refine box_event ?hg (N := 5) ?hd (cs := #[.slice A0_0 l0_0.length c0_0, .slice A0_1 l0_1.length c0_1, .int .i64 a0_2]) (t := 32) ?hr ?_; (case hd => rfl); (case hg => rfl); (case hr => first | (go_simp; done) | (go_simp; rfl)); intro gb185 hg w122 hbox hb; have n0_ := Aside0.mk (below_step (by repeat (first | (with_reducible first | exact HB.out | apply below_alloc | apply pw_below_drewN | apply below_drew1) | exact HB.out)) hb); have n1_ := Aside0.mk (hbox); have n2_ := Aside0.mk ((by rw [hg]; exact (below_size (by repeat (first | (with_reducible first | exact HB.out | apply below_alloc | apply pw_below_drewN | apply below_drew1) | exact HB.out))) : w.heap.size ≤ gb185)); have n3_ := Aside0.mk ((by rw [hg]; exact (below_size (by repeat (first | (with_reducible first | exact HB.out | apply below_alloc | apply pw_below_drewN | apply below_drew1) | exact HB.out))) : w.heap.size ≤ gb185)); clear HB; have HB := n0_; have BK185 := n1_; have GW185 := n2_; have GE185 := n3_; clear n0_ n1_ n2_ n3_; clear hb hbox hg) | ((with_reducible refine gate_dst (N := 10) rfl ?_); (try (refine gate_guard (by rfl) ?_; dsimp only)); refine box_event ?hg (N := 10) ?hd (cs := #[.int .i64 0, .slice none 0 0, .slice none 0 0, .int .i64 0]) (t := 53) ?hr ?_; (case hd => rfl); (case hg => rfl); (case hr => first | (go_simp; done) | (go_simp; rfl)); intro gb186 hg w123 hbox hb; have n0_ := Aside0.mk (blk_below (g := gb185) (o := .cells #[.slice A0_0 l0_0.length c0_0, .slice A0_1 l0_1.length c0_1, .int .i64 a0_2] 32 (0, 0)) (by (with_reducible repeat (first | refine blk_drewN ?_ _ | refine blk_drew ?_ | refine blk_alloc ?_ _)); exact BK185.out) hb); have n1_ := Aside0.mk (below_step (by repeat (first | (with_reducible first | exact HB.out | apply below_alloc | apply pw_below_drewN | apply below_drew1 | refine below_set ?_ GE185.out) | exact HB.out)) hb); have n2_ := Aside0.mk (hbox); have n3_ := Aside0.mk ((by rw [hg]; exact (below_size (by repeat (first | (with_reducible first | exact HB.out | apply below_alloc | apply pw_below_drewN | apply below_drew1 | refine below_set ?_ GE185.out) | exact HB.out))) : w.heap.size ≤ gb186)); have n4_ := Aside0.mk ((by rw [hg]; exact (below_size (by repeat (first | (with_reducible first | exact HB.out | apply below_alloc | apply pw_below_drewN | apply below_drew1 | refine below_set ?_ GE185.out) | exact HB.out))) : w.heap.size ≤ gb186)); have n5_ := Aside0.mk ((by rw [hg]; exact Nat.ne_of_lt (blk_lt (g := gb185) (o := .cells #[.slice A0_0 l0_0.length c0_0, .slice A0_1 l0_1.length c0_1, .int .i64 a0_2] 32 (0, 0)) (by (with_reducible repeat (first | refine blk_drewN ?_ _ | refine blk_drew ?_ | refine blk_alloc ?_ _)); exact BK185.out)) : gb185 ≠ gb186)); have n6_ := Aside0.mk ((by rw [hg]; exact Nat.ne_of_gt (blk_lt (g := gb185) (o := .cells #[.slice A0_0 l0_0.length c0_0, .slice A0_1 l0_1.length c0_1, .int .i64 a0_2] 32 (0, 0)) (by (with_reducible repeat (first | refine blk_drewN ?_ _ | refine blk_drew ?_ | refine blk_alloc ?_ _)); exact BK185.out)) : gb186 ≠ gb185)); clear BK185; clear HB; have BK185 := n0_; have HB := n1_; have BK186 := n2_; have GW186 := n3_; have GE186 := n4_; have NB185_186 := n5_; have NB186_185 := n6_; clear n0_ n1_ n2_ n3_ n4_ n5_ n6_; clear hb hbox hg; have hnb124 := NB185_186.out; have hnc124 := NB186_185.out; have hcz125_0 : w123.cell? ⟨gb185, 0, none⟩ = some (.slice A0_0 l0_0.length c0_0) := (blk_cell BK185.out 0).trans rfl; have hcz125_1 : w123.cell? ⟨gb185, 1, none⟩ = some (.slice A0_1 l0_1.length c0_1) := (blk_cell BK185.out 1).trans rfl; have hcz125_2 : w123.cell? ⟨gb185, 2, none⟩ = some (.int .i64 a0_2) := (blk_cell BK185.out 2).trans rfl; have hfz125_0 := blk_frozen BK185.out 0; have hfz125_1 := blk_frozen BK185.out 1; have hfz125_2 := blk_frozen BK185.out 2) | ((with_reducible refine gate_callee (f := 24) rfl ?_); refine goesL_ (some 20) rfl rfl Try.func24 (by kernel_rfl) rfl #[.agg #[.slice A0_0 l0_0.length c0_0, .slice A0_1 l0_1.length c0_1, .int .i64 a0_2]] rfl (by (try simp only [List.map_toArray, List.map_cons, List.map_nil]); first | done | rfl | (simp only [List.length_drop, List.length_take]; rfl)) ?_; (with_reducible refine (spec_ValidView.calls k _ _ l0_0 _ _ l0_1 a0_2 false _ ?side1 ?side2 ?side3 ?side4 A6.out).mono ?_); (case side1 => repeat (first | exact (Kd.C_below HR0_0.out HB.out) | (with_reducible refine Kd.C_alloc ?_ _) | (with_reducible refine Kd.C_drewN ?_ _) | (with_reducible refine Kd.C_drew ?_))); (case side2 => exact HC0_0.out); (case side3 => repeat (first | exact (Kd.C_below HR0_1.out HB.out) | (with_reducible refine Kd.C_alloc ?_ _) | (with_reducible refine Kd.C_drewN ?_ _) | (with_reducible refine Kd.C_drew ?_))); (case side4 => exact HC0_1.out); rintro e w126 ⟨rfl, hb⟩; refine ⟨_, rfl, ?_⟩; have n0_ := Aside0.mk (blk_below (g := gb185) (o := .cells #[.slice A0_0 l0_0.length c0_0, .slice A0_1 l0_1.length c0_1, .int .i64 a0_2] 32 (0, 0)) (by (with_reducible repeat (first | refine blk_drewN ?_ _ | refine blk_drew ?_ | refine blk_alloc ?_ _)); exact BK185.out) hb); have n1_ := Aside0.mk (blk_below (g := gb186) (o := .cells #[.int .i64 0, .slice none 0 0, .slice none 0 0, .int .i64 0] 53 (0, 0)) (by (with_reducible repeat (first | refine blk_drewN ?_ _ | refine blk_drew ?_ | refine blk_alloc ?_ _)); exact BK186.out) hb); have n2_ := Aside0.mk (below_step (by repeat (first | (with_reducible first | exact HB.out | apply below_alloc | apply pw_below_drewN | apply below_drew1 | refine below_set ?_ GE185.out | refine below_set ?_ GE186.out) | exact HB.out)) hb); clear BK185; clear BK186; clear HB; have BK185 := n0_; have BK186 := n1_; have HB := n2_; clear n0_ n1_ n2_; (try clear hb); (try clear hb2); (try clear hk); (try clear hi); have hcz127_0 : w126.cell? ⟨gb186, 0, none⟩ = some (.int .i64 0) := (blk_cell BK186.out 0).trans rfl; have hcz127_1 : w126.cell? ⟨gb186, 1, none⟩ = some (.slice none 0 0) := (blk_cell BK186.out 1).trans rfl; have hcz127_2 : w126.cell? ⟨gb186, 2, none⟩ = some (.slice none 0 0) := (blk_cell BK186.out 2).trans rfl; have hcz127_3 : w126.cell? ⟨gb186, 3, none⟩ = some (.int .i64 0) := (blk_cell BK186.out 3).trans rfl; have hfz127_0 := blk_frozen BK186.out 0; have hfz127_1 := blk_frozen BK186.out 1; have hfz127_2 := blk_frozen BK186.out 2; have hfz127_3 := blk_frozen BK186.out 3))
    refine bodyPost_ret (results_cell_row rfl _ _ gb186 53 #[.int .i64 12, .slice none 0 0, .slice none 0 0, .int .i64 0] (0, 0) _ rfl (by (with_reducible repeat (first | refine blk_drewN ?_ _ | refine blk_drew ?_ | refine blk_alloc ?_ _)); refine blk_put (cs := #[.int .i64 12, .slice none 0 0, .slice none 0 0, .int .i64 0]) ?_ 3 _ rfl; (with_reducible repeat (first | refine blk_drewN ?_ _ | refine blk_drew ?_ | refine blk_alloc ?_ _)); refine blk_put (cs := #[.int .i64 12, .slice none 0 0, .slice none 0 0, .int .i64 0]) ?_ 2 _ rfl; (with_reducible repeat (first | refine blk_drewN ?_ _ | refine blk_drew ?_ | refine blk_alloc ?_ _)); refine blk_put (cs := #[.int .i64 12, .slice none 0 0, .slice none 0 0, .int .i64 0]) ?_ 1 _ rfl; (with_reducible repeat (first | refine blk_drewN ?_ _ | refine blk_drew ?_ | refine blk_alloc ?_ _)); refine blk_put (cs := #[.int .i64 0, .slice none 0 0, .slice none 0 0, .int .i64 0]) ?_ 0 _ rfl; (with_reducible repeat (first | refine blk_drewN ?_ _ | refine blk_drew ?_ | refine blk_alloc ?_ _)); exact BK186.out) Try.underlying53 rfl (by kernel_rfl)) rfl ?_
    exact ⟨_, _, by first | rfl | (simp [errW_none, errW_some] <;> rfl) | (simp [*, errW_none, errW_some] <;> rfl), by first | exact Kd.R_nil _ _ _ _ _ | exact Kd.N_nil _ _ _ _ _ | exact Kd.V_nil _ _ _ _ _ | exact Kd.Q_nil _ _ _ _ _ | exact Kd.S_nil _ _ _ _ _, by first | exact Kd.R_nil _ _ _ _ _ | exact Kd.N_nil _ _ _ _ _ | exact Kd.V_nil _ _ _ _ _ | exact Kd.Q_nil _ _ _ _ _ | exact Kd.S_nil _ _ _ _ _, by repeat (first | (with_reducible first | exact HB.out | apply below_alloc | apply pw_below_drewN | apply below_drew1 | refine below_set ?_ GE185.out | refine below_set ?_ GE186.out) | exact HB.out)⟩

end Go.Proofs.Ytpmdgmnpkdoamaa.DFnExactSlice
