/- Proved here: what the functions answer that the law on  comes to (the lines were written by a program). Conditions: those that stand ahead in each theorem. -/
import Derived.Test.YtpmdgmnpkdoamaaViWSq
import Derived.Test.YtpmdgmnpkdoamaaViDFnViewsx0
import Derived.Test.YtpmdgmnpkdoamaaViDFnViewsx4
import Derived.Test.YtpmdgmnpkdoamaaViDFnViewsx7
namespace Go.Proofs.Ytpmdgmnpkdoamaa.DFnViews
open Go.RowKit Go.Proofs.YtpmdgmnpkdoamaaW.PrintWords Go.Proofs.YtpmdgmnpkdoamaaW.PrintLast Go.Proofs.YtpmdgmnpkdoamaaW.PrintMore
attribute [local go_sem] max2_int min2_int max_two min_two max_three min_three max_four min_four   -- for this text's walks alone
set_option linter.unusedVariables false
set_option linter.unusedSimpArgs false

mutual
def impl_Broadcast.j0 : Nat → List Int → Int → Bool → List Int → List Int → Int → Option (Int × List Int × List Int × Int)
 | 0, _, _, _, _, _, _ => none
 | k + 1, x1, x5, x25, x208000, x208001, x208002 => if x25 = true then (some (6, ([] : List Int), ([] : List Int), 0)) else ((slices_Clone_int64_int64.f k x1).bind fun t211 => (if 0 ≤ (x1.length : Int) then (if ((x1.length : Int) : Int).toNat ≤ 35184372088832 then (impl_Broadcast.l0 k x1 x5 x208000 (x208000.length : Int) 0 x208000 x208001 x208002 t211 (List.replicate ((x1.length : Int) : Int).toNat 0) x208002) else (none)) else (none)))
def impl_Broadcast.l0 : Nat → List Int → Int → List Int → Int → Int → List Int → List Int → Int → List Int → List Int → Int → Option (Int × List Int × List Int × Int)
 | 0, _, _, _, _, _, _, _, _, _, _, _ => none
 | k + 1, x1, x5, x36, x37, x38, x208000, x208001, x208002, x218000, x218001, x218002 => if x38 < x37 then (if 0 ≤ x38 then (if x38 < (x36.length : Int) then (if 0 ≤ (wrap64 (x38 + x5)) then (if (wrap64 (x38 + x5)) < (x1.length : Int) then (if (rd x36 x38) = (rd x1 (wrap64 (x38 + x5))) then (if x38 < (x208001.length : Int) then (if (wrap64 (x38 + x5)) < (x218001.length : Int) then (impl_Broadcast.l0 k x1 x5 x36 x37 (wrap64 (x38 + 1)) x208000 x208001 x208002 x218000 (x218001.set ((wrap64 (x38 + x5)) : Int).toNat (rd x208001 x38)) x218002) else (none)) else (none)) else (if (rd x36 x38) = 1 then (impl_Broadcast.l0 k x1 x5 x36 x37 (wrap64 (x38 + 1)) x208000 x208001 x208002 x218000 x218001 x218002) else (some (6, ([] : List Int), ([] : List Int), 0)))) else (none)) else (none)) else (none)) else (none)) else (some (0, x218000, x218001, x218002))
end
def impl_Broadcast.f (k : Nat) (l0_0 : List Int) (l0_1 : List Int) (a0_2 : Int) (l1 : List Int) : Option (Int × List Int × List Int × Int) := (zI.f k l0_0 l0_1 a0_2).bind fun t209 => (if t209 = true then ((zK.f k l1).bind fun t210 => (if t210 = true then (impl_Broadcast.j0 k l1 (wrap64 ((l1.length : Int) - (l0_0.length : Int))) (decide ((wrap64 ((l1.length : Int) - (l0_0.length : Int))) < 0)) l0_0 l0_1 a0_2) else (impl_Broadcast.j0 k l1 (wrap64 ((l1.length : Int) - (l0_0.length : Int))) true l0_0 l0_1 a0_2))) else (some (12, ([] : List Int), ([] : List Int), 0)))
theorem impl_Broadcast.mono_l : ∀ k, (∀ y0 y1 y2 y3 y4 y5, LeO (impl_Broadcast.j0 k y0 y1 y2 y3 y4 y5) (impl_Broadcast.j0 (k + 1) y0 y1 y2 y3 y4 y5)) ∧ (∀ y0 y1 y2 y3 y4 y5 y6 y7 y8 y9 y10, LeO (impl_Broadcast.l0 k y0 y1 y2 y3 y4 y5 y6 y7 y8 y9 y10) (impl_Broadcast.l0 (k + 1) y0 y1 y2 y3 y4 y5 y6 y7 y8 y9 y10))
 | 0 => ⟨fun _ _ _ _ _ _ r h => by simp [impl_Broadcast.j0] at h, fun _ _ _ _ _ _ _ _ _ _ _ r h => by simp [impl_Broadcast.l0] at h⟩
 | k + 1 => by
  obtain ⟨ih0, ih1⟩ := impl_Broadcast.mono_l k
  refine ⟨?_, ?_⟩
  ·intro y0 y1 y2 y3 y4 y5
   unfold impl_Broadcast.j0
   repeat' first
   | (with_reducible exact ih0 _ _ _ _ _ _)
   | (with_reducible exact ih1 _ _ _ _ _ _ _ _ _ _ _)
   | (with_reducible exact zI.mono _ _ _ _)
   | (with_reducible exact zK.mono _ _)
   | (with_reducible exact slices_Clone_int64_int64.mono _ _)
   | (with_reducible exact LeO.refl _)
   | (with_reducible exact LeO.none _)
   | (with_reducible refine LeO.ite ?_ ?_)
   | (with_reducible refine LeO.bind ?_ (fun _ => ?_))
   | exact ih0 _ _ _ _ _ _
   | exact ih1 _ _ _ _ _ _ _ _ _ _ _
   | exact zI.mono _ _ _ _
   | exact zK.mono _ _
   | exact slices_Clone_int64_int64.mono _ _
   | exact LeO.none _
   | refine LeO.ite ?_ ?_
   | refine LeO.bind ?_ (fun _ => ?_)
  ·intro y0 y1 y2 y3 y4 y5 y6 y7 y8 y9 y10
   unfold impl_Broadcast.l0
   repeat' first
   | (with_reducible exact ih0 _ _ _ _ _ _)
   | (with_reducible exact ih1 _ _ _ _ _ _ _ _ _ _ _)
   | (with_reducible exact zI.mono _ _ _ _)
   | (with_reducible exact zK.mono _ _)
   | (with_reducible exact slices_Clone_int64_int64.mono _ _)
   | (with_reducible exact LeO.refl _)
   | (with_reducible exact LeO.none _)
   | (with_reducible refine LeO.ite ?_ ?_)
   | (with_reducible refine LeO.bind ?_ (fun _ => ?_))
   | exact ih0 _ _ _ _ _ _
   | exact ih1 _ _ _ _ _ _ _ _ _ _ _
   | exact zI.mono _ _ _ _
   | exact zK.mono _ _
   | exact slices_Clone_int64_int64.mono _ _
   | exact LeO.none _
   | refine LeO.ite ?_ ?_
   | refine LeO.bind ?_ (fun _ => ?_)
theorem impl_Broadcast.mono : ∀ a0 a1 a2 a3 k, LeO (impl_Broadcast.f k a0 a1 a2 a3) (impl_Broadcast.f (k + 1) a0 a1 a2 a3) := by
 intro a0 a1 a2 a3 k
 obtain ⟨ih0, ih1⟩ := impl_Broadcast.mono_l k
 unfold impl_Broadcast.f
 repeat' first
   | (with_reducible exact ih0 _ _ _ _ _ _)
   | (with_reducible exact ih1 _ _ _ _ _ _ _ _ _ _ _)
   | (with_reducible exact zI.mono _ _ _ _)
   | (with_reducible exact zK.mono _ _)
   | (with_reducible exact slices_Clone_int64_int64.mono _ _)
   | (with_reducible exact LeO.refl _)
   | (with_reducible exact LeO.none _)
   | (with_reducible refine LeO.ite ?_ ?_)
   | (with_reducible refine LeO.bind ?_ (fun _ => ?_))
   | exact ih0 _ _ _ _ _ _
   | exact ih1 _ _ _ _ _ _ _ _ _ _ _
   | exact zI.mono _ _ _ _
   | exact zK.mono _ _
   | exact slices_Clone_int64_int64.mono _ _
   | exact LeO.none _
   | refine LeO.ite ?_ ?_
   | refine LeO.bind ?_ (fun _ => ?_)
def impl_Broadcast.T6 : Bool × List (List Nat × List Nat) := (true, [([], []), ([0], [0]), ([], []), ([2], [2]), ([3, 3], [3]), ([], []), ([5], [5]), ([1, 4, 6], [1, 4, 6]), ([], []), ([8, 7, 1, 0, 1, 2, 3, 4, 5, 6, 7, 8], [7, 8])])
def impl_Broadcast.B6 : List Nat := [0, 1, 0, 4, 12, 0, 32, 127, 0, 511]
theorem impl_Broadcast.tab6 : rtab .any (opsOf Try.f55 6) = impl_Broadcast.T6 := by kernel_rfl
theorem impl_Broadcast.bits6 : waitsOk impl_Broadcast.T6.2 impl_Broadcast.B6 = true := by kernel_rfl
def impl_Broadcast.T13 : Bool × List (List Nat × List Nat) := (true, [([], []), ([0], [0]), ([], []), ([], []), ([2, 3], [2, 3]), ([], []), ([5], [5]), ([], []), ([6, 7], [6, 7]), ([8], [8]), ([1, 4, 0, 1, 2, 3, 4, 5, 6, 7, 8, 9], [1, 4]), ([10, 9, 0, 1, 2, 3, 4, 5, 6, 7, 8, 9], [9, 10])])
def impl_Broadcast.B13 : List Nat := [0, 1, 0, 0, 12, 0, 32, 0, 224, 480, 1023, 2047]
theorem impl_Broadcast.tab13 : rtab .any (opsOf Try.f55 13) = impl_Broadcast.T13 := by kernel_rfl
theorem impl_Broadcast.bits13 : waitsOk impl_Broadcast.T13.2 impl_Broadcast.B13 = true := by kernel_rfl
set_option maxHeartbeats 8000000 in
set_option maxRecDepth 100000 in
theorem impl_Broadcast.calls (k : Nat) (A0_0 : Option Addr) (c0_0 : Nat) (l0_0 : List Int) (A0_1 : Option Addr) (c0_1 : Nat) (l0_1 : List Int) (a0_2 : Int) (A1 : Option Addr) (c1 : Nat) (l1 : List Int) (r1 : Int) (r2 : List Int) (r3 : List Int) (r4 : Int) (w : World) (hr0_0 : Kd.C (Kd.int .i64) w A0_0 l0_0.length l0_0) (hc0_0 : l0_0.length ≤ c0_0) (hr0_1 : Kd.C (Kd.int .i64) w A0_1 l0_1.length l0_1) (hc0_1 : l0_1.length ≤ c0_1) (hr1 : Kd.C (Kd.int .i64) w A1 l1.length l1) (hc1 : l1.length ≤ c1) (h : impl_Broadcast.f k l0_0 l0_1 a0_2 l1 = some (r1, r2, r3, r4)) :
  Calls Try.prog 55 #[.agg #[.slice A0_0 l0_0.length c0_0, .slice A0_1 l0_1.length c0_1, .int .i64 a0_2], .slice A1 l1.length c1] w fun e w' => ∃ v1_ v2_ : Value, e = .returned (.agg #[.int .i64 r1, v1_, v2_, .int .i64 r4]) ∧ Kd.R (Kd.int .i64) 2 w' w.heap.size (fun k_ => some k_ ≠ (v2_ : Value).ownBlock) v1_ r2 ∧ Kd.R (Kd.int .i64) 2 w' w.heap.size (fun k_ => some k_ ≠ (v1_ : Value).ownBlock) v2_ r3 ∧ Below w.heap.size w w' := by
 have hu32 := Try.underlying32
 have hu53 := Try.underlying53
 have HR0_0 := qS.mk hr0_0
 have HC0_0 := qS.mk hc0_0
 clear hr0_0 hc0_0
 have HR0_1 := qS.mk hr0_1
 have HC0_1 := qS.mk hc0_1
 clear hr0_1 hc0_1
 have HR1 := qS.mk hr1
 have HC1 := qS.mk hc1
 clear hr1 hc1
 have HB := qS.mk (Below.refl w.heap.size w)
 have H : ((zI.f k l0_0 l0_1 a0_2).bind fun t209 => (if t209 = true then ((zK.f k l1).bind fun t210 => (if t210 = true then (impl_Broadcast.j0 k l1 (wrap64 ((l1.length : Int) - (l0_0.length : Int))) (decide ((wrap64 ((l1.length : Int) - (l0_0.length : Int))) < 0)) l0_0 l0_1 a0_2) else (impl_Broadcast.j0 k l1 (wrap64 ((l1.length : Int) - (l0_0.length : Int))) true l0_0 l0_1 a0_2))) else (some (12, ([] : List Int), ([] : List Int), 0)))) = some (r1, r2, r3, r4) := h
 clear h
 replace H := Option.bind_eq_some_iff.mp H
 obtain ⟨t209, A30, H⟩ := H
 try dsimp only at H
 have A3 := qS.mk A30
 clear A30
 by_cases c4 : t209 = true
 ·subst c4
  rw [if_pos rfl] at H
  have HC5 := qS.mk H
  clear H
  go_enter Try.func55, Try.ntmps55
  go_upto_region 4 with (first | ((with_reducible refine gate_dst (N := 2) rfl ?_); refine bE #[.slice A0_0 l0_0.length c0_0, .slice A0_1 l0_1.length c0_1, .int .i64 a0_2] 32 ?_; intro gb207 hg w6 hbox hb; have BK207 := qS.mk (hbox); have GW207 := mG HB hg; have GE207 := mG HB hg; replace HB := mS HB hb; clear hb hbox hg) | ((with_reducible refine gate_dst (N := 4) rfl ?_); refine bE #[.int .i64 0, .slice none 0 0, .slice none 0 0, .int .i64 0] 53 ?_; intro gb208 hg w7 hbox hb; have BK208 := qS.mk (hbox); have GW208 := mG HB hg; have GE208 := mG HB hg; have NB207_208 := mN BK207 hg; have NB208_207 := mM BK207 hg; replace BK207 := mB BK207 hb; replace HB := mS HB hb; clear hb hbox hg; have hnb8 := NB207_208.out; have hnc8 := NB208_207.out; obtain ⟨hcz9_0, hcz9_1, hcz9_2, hfz9_0, hfz9_1, hfz9_2⟩ := bx3 BK207) | ((with_reducible refine gate_callee (f := 26) rfl ?_); refine gL (some 10) Try.func26 #[.agg #[.slice A0_0 l0_0.length c0_0, .slice A0_1 l0_1.length c0_1, .int .i64 a0_2]] ?_; (with_reducible refine (zI.calls k _ _ l0_0 _ _ l0_1 a0_2 true _ (cS (Kd.qW HR0_0.out HB.out)) HC0_0.out (cS (Kd.qW HR0_1.out HB.out)) HC0_1.out A3.out).mono ?_); rintro e w10 ⟨rfl, hb⟩; refine ⟨_, rfl, ?_⟩; replace BK207 := mB BK207 hb; replace BK208 := mB BK208 hb; replace HB := mS HB hb; (try clear hb); (try clear hb2); (try clear hk); (try clear hi); obtain ⟨hcz11_0, hcz11_1, hcz11_2, hfz11_0, hfz11_1, hfz11_2⟩ := bx3 BK207))
  (try simp only [Act.put, List.setIfInBounds_toArray, List.set_cons_zero, List.set_cons_succ])
  go_cut [25] (fun v25 wc => ∃ (kq : Nat) (x25_4 : Bool), v25 = .bool x25_4 ∧ qS (impl_Broadcast.j0 kq l1 (wrap64 ((l1.length : Int) - (l0_0.length : Int))) x25_4 l0_0 l0_1 a0_2 = some (r1, r2, r3, r4)) ∧ qS (kq ≤ k) ∧ qS (wc.heap[gb207]? = some (.cells #[(.slice A0_0 l0_0.length c0_0), (.slice A0_1 l0_1.length c0_1), .int .i64 a0_2] 32 (0, 0))) ∧ qS (wc.heap[gb208]? = some (.cells #[.int .i64 0, (.slice none 0 0), (.slice none 0 0), .int .i64 0] 53 (0, 0))) ∧ qS (Below w.heap.size w wc))
  case first =>
   have H := HC5.out
   clear HC5
   replace H := Option.bind_eq_some_iff.mp H
   obtain ⟨t210, A120, H⟩ := H
   try dsimp only at H
   have A12 := qS.mk A120
   clear A120
   by_cases c13 : t210 = true
   ·subst c13
    rw [if_pos rfl] at H
    have H' := qS.mk H
    clear H
    go_wp2_with (first | ((with_reducible refine gate_callee (f := 80) rfl ?_); refine gL (some 20) Try.func80 #[.slice A1 l1.length c1] ?_; (with_reducible refine (zK.calls k _ _ l1 true _ (cS (Kd.qW HR1.out HB.out)) HC1.out A12.out).mono ?_); rintro e w' ⟨rfl, ⟨nd, rfl⟩⟩; refine ⟨_, rfl, ?_⟩))
    go_meet
    case rel => exact ⟨_, (decide ((wrap64 ((l1.length : Int) - (l0_0.length : Int))) < 0)), rf, H', ⟨by first | omega | exact Nat.le_refl _⟩, ⟨bS BK207⟩, ⟨bS BK208⟩, ⟨lS HB⟩⟩
   ·replace c13 := Bool.eq_false_iff.mpr c13
    subst c13
    rw [if_neg (show ¬ (false = true) by decide)] at H
    have H' := qS.mk H
    clear H
    go_wp2_with (first | ((with_reducible refine gate_callee (f := 80) rfl ?_); refine gL (some 20) Try.func80 #[.slice A1 l1.length c1] ?_; (with_reducible refine (zK.calls k _ _ l1 false _ (cS (Kd.qW HR1.out HB.out)) HC1.out A12.out).mono ?_); rintro e w' ⟨rfl, ⟨nd, rfl⟩⟩; refine ⟨_, rfl, ?_⟩))
    go_meet
    case rel => exact ⟨_, (true), rf, H', ⟨by first | omega | exact Nat.le_refl _⟩, ⟨bS BK207⟩, ⟨bS BK208⟩, ⟨lS HB⟩⟩
  case rest =>
   clear HC5
   (try clear c1); (try clear c4); (try clear hcz11_0); (try clear hcz11_1); (try clear hcz11_2); (try clear hcz9_0); (try clear hcz9_1); (try clear hcz9_2); (try clear hfz11_0); (try clear hfz11_1); (try clear hfz11_2); (try clear hfz9_0); (try clear hfz9_1); (try clear hfz9_2)
   obtain ⟨kq, x25_4, rfl, HA, HJ4, BK207, BK208, HB⟩ := hcut
   cases kq with
   | zero => exact absurd HA.out (by simp [impl_Broadcast.j0])
   | succ kj4 =>
    have H := HA.out
    clear HA
    simp only [impl_Broadcast.j0] at H
    by_cases c14 : x25_4 = true
    ·subst c14
     rw [if_pos rfl] at H
     simp only [Option.some.injEq, Prod.mk.injEq] at H
     obtain ⟨rfl, rfl, rfl, rfl⟩ := H
     have hnb15 := NB208_207.out
     have hnc15 := NB207_208.out
     obtain ⟨hcz16_0, hcz16_1, hcz16_2, hcz16_3, hfz16_0, hfz16_1, hfz16_2, hfz16_3⟩ := bx4 BK208
     go_wp2
     refine bodyPost_ret (rC gb208 53 #[.int .i64 6, .slice none 0 0, .slice none 0 0, .int .i64 0] (bQ BK208) Try.underlying53) rfl ?_
     exact ⟨_, _, rg, rN, rN, lS HB⟩
    ·replace c14 := Bool.eq_false_iff.mpr c14
     subst c14
     rw [if_neg (show ¬ (false = true) by decide)] at H
     replace H := Option.bind_eq_some_iff.mp H
     obtain ⟨t211, A170, H⟩ := H
     try dsimp only at H
     have A17 := qS.mk A170
     clear A170
     replace H := gN H
     obtain ⟨c18, H⟩ := H
     have c18b0 := eq_true c18
     have c18b1 : decide (0 ≤ (l1.length : Int)) = true := decide_eq_true c18
     clear c18
     replace H := gN H
     obtain ⟨c19, H⟩ := H
     have c19b0 := eq_true c19
     have c19b1 : decide (((l1.length : Int) : Int).toNat ≤ 35184372088832) = true := decide_eq_true c19
     clear c19
     obtain ⟨y214, hy214⟩ : ∃ y_ : List Int, y_ = (List.replicate ((l1.length : Int) : Int).toNat 0) := ⟨_, rfl⟩
     replace H : (impl_Broadcast.l0 kj4 l1 (wrap64 ((l1.length : Int) - (l0_0.length : Int))) l0_0 (l0_0.length : Int) 0 l0_0 l0_1 a0_2 t211 y214 a0_2) = some (r1, r2, r3, r4) := by first | (rw [hy214]; with_reducible exact H) | (have H2_ := (Option.bind_some _ _).symm.trans H; rw [hy214]; with_reducible exact H2_) | (have H2_ := (Option.bind_some _ _).symm.trans H; with_reducible exact H2_) | with_reducible exact H | (rw [hy214]; exact H) | exact H
     have Ny214 := qS.mk hy214
     clear hy214
     have H' := qS.mk H
     clear H
     try go_wp2
     replace BK207 := bD BK207; replace BK208 := bD BK208; replace HB := lD HB
     refine start_ (n := 10) (S := fun w' => w'.cell? ⟨gb207, 0, none⟩ = some (.slice A0_0 l0_0.length c0_0) ∧ w'.cell? ⟨gb207, 1, none⟩ = some (.slice A0_1 l0_1.length c0_1) ∧ w'.cell? ⟨gb207, 2, none⟩ = some (.int .i64 a0_2)) (ds := []) (bs 10 0) (by kernel_rfl) rfl rfl ⟨(qJ BK207.out 0).trans rfl, (qJ BK207.out 1).trans rfl, (qJ BK207.out 2).trans rfl⟩ (fun hHeld => ?_); refine with_tabW impl_Broadcast.tab6 impl_Broadcast.bits6 (fun HT_ HW_ => ?_)
     generalize wc.drew = w20 at BK207 BK208 HB hHeld ⊢
     refine pS 0 27 (bs 10 1) HT_ ?_
     refine pS 2 29 (bs 10 5) HT_ ?_
     refine pS 3 30 (bs 10 13) HT_ ?_
     refine pS 5 32 (bs 10 45) HT_ ?_
     refine tS 6 33 (bs 10 109) HT_ HW_ hHeld ?_
     refine join_ (σ := Value × Value × Nat) 1 (bs 10 511) (fun s_ => [(28, s_.1), (31, s_.2.1), (6, .pointer (some ⟨s_.2.2, 0, none⟩)), (34, .agg #[s_.1, s_.2.1, .int .i64 a0_2])]) (fun s_ w' => (w'.cell? ⟨gb207, 0, none⟩ = some (.slice A0_0 l0_0.length c0_0) ∧ w'.cell? ⟨gb207, 1, none⟩ = some (.slice A0_1 l0_1.length c0_1) ∧ w'.cell? ⟨gb207, 2, none⟩ = some (.int .i64 a0_2)) ∧ (Kd.R (Kd.int .i64) 2 w' w.heap.size (fun k_ => some k_ ≠ (s_.2.1 : Value).ownBlock) s_.1 t211) ∧ (Kd.R (Kd.int .i64) 2 w' w.heap.size (fun k_ => some k_ ≠ (s_.1 : Value).ownBlock) s_.2.1 y214) ∧ (w'.heap[gb207]? = some (.cells #[.slice A0_0 l0_0.length c0_0, .slice A0_1 l0_1.length c0_1, .int .i64 a0_2] 32 (0, 0))) ∧ (w'.heap[gb208]? = some (.cells #[.int .i64 0, .slice none 0 0, .slice none 0 0, .int .i64 0] 53 (0, 0))) ∧ (w'.heap[s_.2.2]? = some (.cells #[.slice none 0 0, .slice none 0 0, .int .i64 0] 32 (0, 0))) ∧ (w.heap.size ≤ s_.2.2) ∧ (w.heap.size ≤ s_.2.2) ∧ (gb207 ≠ s_.2.2) ∧ (s_.2.2 ≠ gb207) ∧ (gb208 ≠ s_.2.2) ∧ (s_.2.2 ≠ gb208) ∧ (Below w.heap.size w w')) ?_ ?_
     rotate_left
     ·intro hJ1_4_8
      refine join_ (σ := Value × Value) 2 (bs 10 255) (fun s_ => [(28, s_.1), (31, s_.2), (34, .agg #[s_.1, s_.2, .int .i64 a0_2])]) (fun s_ w' => (w'.cell? ⟨gb207, 0, none⟩ = some (.slice A0_0 l0_0.length c0_0) ∧ w'.cell? ⟨gb207, 1, none⟩ = some (.slice A0_1 l0_1.length c0_1) ∧ w'.cell? ⟨gb207, 2, none⟩ = some (.int .i64 a0_2)) ∧ (Kd.R (Kd.int .i64) 2 w' w.heap.size (fun k_ => some k_ ≠ (s_.2 : Value).ownBlock) s_.1 t211) ∧ (Kd.R (Kd.int .i64) 2 w' w.heap.size (fun k_ => some k_ ≠ (s_.1 : Value).ownBlock) s_.2 y214) ∧ (w'.heap[gb207]? = some (.cells #[.slice A0_0 l0_0.length c0_0, .slice A0_1 l0_1.length c0_1, .int .i64 a0_2] 32 (0, 0))) ∧ (w'.heap[gb208]? = some (.cells #[.int .i64 0, .slice none 0 0, .slice none 0 0, .int .i64 0] 53 (0, 0))) ∧ (Below w.heap.size w w')) ?_ ?_
      rotate_left
      ·intro hJ1_4
       refine join_ (σ := Value × Nat) 3 (bs 10 367) (fun s_ => [(28, s_.1), (6, .pointer (some ⟨s_.2, 0, none⟩))]) (fun s_ w' => (w'.cell? ⟨gb207, 0, none⟩ = some (.slice A0_0 l0_0.length c0_0) ∧ w'.cell? ⟨gb207, 1, none⟩ = some (.slice A0_1 l0_1.length c0_1) ∧ w'.cell? ⟨gb207, 2, none⟩ = some (.int .i64 a0_2)) ∧ (Kd.R (Kd.int .i64) 2 w' w.heap.size (fun _ => True) s_.1 t211) ∧ (w'.heap[gb207]? = some (.cells #[.slice A0_0 l0_0.length c0_0, .slice A0_1 l0_1.length c0_1, .int .i64 a0_2] 32 (0, 0))) ∧ (w'.heap[gb208]? = some (.cells #[.int .i64 0, .slice none 0 0, .slice none 0 0, .int .i64 0] 53 (0, 0))) ∧ (w'.heap[s_.2]? = some (.cells #[.slice none 0 0, .slice none 0 0, .int .i64 0] 32 (0, 0))) ∧ (w.heap.size ≤ s_.2) ∧ (w.heap.size ≤ s_.2) ∧ (gb207 ≠ s_.2) ∧ (s_.2 ≠ gb207) ∧ (gb208 ≠ s_.2) ∧ (s_.2 ≠ gb208) ∧ (Below w.heap.size w w')) ?_ ?_
       rotate_left
       ·intro hJ1_8
        refine join_ (σ := Value × Nat) 3 (bs 10 381) (fun s_ => [(31, s_.1), (6, .pointer (some ⟨s_.2, 0, none⟩))]) (fun s_ w' => (w'.cell? ⟨gb207, 0, none⟩ = some (.slice A0_0 l0_0.length c0_0) ∧ w'.cell? ⟨gb207, 1, none⟩ = some (.slice A0_1 l0_1.length c0_1) ∧ w'.cell? ⟨gb207, 2, none⟩ = some (.int .i64 a0_2)) ∧ (Kd.R (Kd.int .i64) 2 w' w.heap.size (fun _ => True) s_.1 y214) ∧ (w'.heap[gb207]? = some (.cells #[.slice A0_0 l0_0.length c0_0, .slice A0_1 l0_1.length c0_1, .int .i64 a0_2] 32 (0, 0))) ∧ (w'.heap[gb208]? = some (.cells #[.int .i64 0, .slice none 0 0, .slice none 0 0, .int .i64 0] 53 (0, 0))) ∧ (w'.heap[s_.2]? = some (.cells #[.slice none 0 0, .slice none 0 0, .int .i64 0] 32 (0, 0))) ∧ (w.heap.size ≤ s_.2) ∧ (w.heap.size ≤ s_.2) ∧ (gb207 ≠ s_.2) ∧ (s_.2 ≠ gb207) ∧ (gb208 ≠ s_.2) ∧ (s_.2 ≠ gb208) ∧ (Below w.heap.size w w')) ?_ ?_
        rotate_left
        ·intro hJ4_8
         refine join_ (σ := Value) 4 (bs 10 111) (fun s_ => [(28, s_)]) (fun s_ w' => (w'.cell? ⟨gb207, 0, none⟩ = some (.slice A0_0 l0_0.length c0_0) ∧ w'.cell? ⟨gb207, 1, none⟩ = some (.slice A0_1 l0_1.length c0_1) ∧ w'.cell? ⟨gb207, 2, none⟩ = some (.int .i64 a0_2)) ∧ (Kd.R (Kd.int .i64) 2 w' w.heap.size (fun _ => True) s_ t211) ∧ (w'.heap[gb207]? = some (.cells #[.slice A0_0 l0_0.length c0_0, .slice A0_1 l0_1.length c0_1, .int .i64 a0_2] 32 (0, 0))) ∧ (w'.heap[gb208]? = some (.cells #[.int .i64 0, .slice none 0 0, .slice none 0 0, .int .i64 0] 53 (0, 0))) ∧ (Below w.heap.size w w')) ?_ ?_
         rotate_left
         ·intro hJ1
          refine join_ (σ := Value) 4 (bs 10 125) (fun s_ => [(31, s_)]) (fun s_ w' => (w'.cell? ⟨gb207, 0, none⟩ = some (.slice A0_0 l0_0.length c0_0) ∧ w'.cell? ⟨gb207, 1, none⟩ = some (.slice A0_1 l0_1.length c0_1) ∧ w'.cell? ⟨gb207, 2, none⟩ = some (.int .i64 a0_2)) ∧ (Kd.R (Kd.int .i64) 2 w' w.heap.size (fun _ => True) s_ y214) ∧ (w'.heap[gb207]? = some (.cells #[.slice A0_0 l0_0.length c0_0, .slice A0_1 l0_1.length c0_1, .int .i64 a0_2] 32 (0, 0))) ∧ (w'.heap[gb208]? = some (.cells #[.int .i64 0, .slice none 0 0, .slice none 0 0, .int .i64 0] 53 (0, 0))) ∧ (Below w.heap.size w w')) ?_ ?_
          rotate_left
          ·intro hJ4
           refine join_ (σ := Nat) 4 (bs 10 365) (fun s_ => [(6, .pointer (some ⟨s_, 0, none⟩))]) (fun s_ w' => (w'.cell? ⟨gb207, 0, none⟩ = some (.slice A0_0 l0_0.length c0_0) ∧ w'.cell? ⟨gb207, 1, none⟩ = some (.slice A0_1 l0_1.length c0_1) ∧ w'.cell? ⟨gb207, 2, none⟩ = some (.int .i64 a0_2)) ∧ (w'.heap[gb207]? = some (.cells #[.slice A0_0 l0_0.length c0_0, .slice A0_1 l0_1.length c0_1, .int .i64 a0_2] 32 (0, 0))) ∧ (w'.heap[gb208]? = some (.cells #[.int .i64 0, .slice none 0 0, .slice none 0 0, .int .i64 0] 53 (0, 0))) ∧ (w'.heap[s_]? = some (.cells #[.slice none 0 0, .slice none 0 0, .int .i64 0] 32 (0, 0))) ∧ (w.heap.size ≤ s_) ∧ (w.heap.size ≤ s_) ∧ (gb207 ≠ s_) ∧ (s_ ≠ gb207) ∧ (gb208 ≠ s_) ∧ (s_ ≠ gb208) ∧ (Below w.heap.size w w')) ?_ ?_
           rotate_left
           ·intro hJ8
            refine three_ (i := 1) (j := 4) (k := 8) (Ni := some 28) (Nj := some 31) (Nk := some 6) (bs 10 111) (bs 10 125) (bs 10 365) rfl rfl rfl rfl rfl rfl (three_of HT_.out (by kernel_rfl)) (by decide) (by decide) (by decide) (fun K hK => ?_) (fun K hK => ?_) (fun K hK => ?_)
            ·skip
             refine goes_ Try.func83 (by kernel_rfl) rfl #[.slice A1 l1.length c1] (by rfl) rfl rfl (by (try simp only [List.map_toArray, List.map_cons, List.map_nil]); first | done | rfl) ?_
             with_reducible refine (slices_Clone_int64_int64.calls kj4 _ _ l1 t211 _ ?side1 ?side2 A17.out).mono ?_
             (case side1 => repeat (first | exact (Kd.qW HR1.out HB.out) | (with_reducible refine Kd.qP ?_ _) | (with_reducible refine Kd.qQ ?_ _) | (with_reducible refine Kd.qR ?_)))
             (case side2 => exact HC1.out)
             rintro e w21 ⟨v212, rfl, ho0, hb⟩
             refine ⟨_, rfl, ?_⟩
             have HO213 := qS.mk (Kd.R_lower ho0 (qF (lS HB))); replace BK207 := mB BK207 hb; replace BK208 := mB BK208 hb; replace HB := mS HB hb
             (try clear hb)
             (try clear hb2)
             (try clear hk)
             (try clear hi)
             (try clear ho0)
             refine hK.out _ _ ⟨(qJ BK207.out 0).trans rfl, (qJ BK207.out 1).trans rfl, (qJ BK207.out 2).trans rfl⟩ (fun hHeld => ?_)
             clear hK K
             refine norm_ (a' := ?_) ?_ ?_
             rotate_left
             ·show Act.put _ (some 28) _ = _
              simp only [Act.put, List.setIfInBounds_toArray, List.set_cons_zero, List.set_cons_succ, i64_w, i32_w]
              rfl
             exact norm_ (by first | (simp only [putAll, Act.put, List.setIfInBounds_toArray, List.set_cons_zero, List.set_cons_succ]; done) | (simp only [putAll, Act.put, List.setIfInBounds_toArray, List.set_cons_zero, List.set_cons_succ]; rfl)) (hJ1 (v212) _ ⟨hHeld, (rS HO213), (bS BK207), (bS BK208), (lS HB)⟩)
            ·skip
             refine Kd.R_make_step (Kd.int .i64) _ 2 (by rfl) (N := 31) rfl 27 _ _ rfl (l1.length : Int) rfl rfl Try.underlying27 (.int .i64 0) 8 info2 rfl (by decide) (by omega) 0 (ok := fun _ => True) (okp := fun _ => True) rfl (fun _ hk => hk) trivial (of_decide_eq_true (by assumption)) (Nat.le_trans (Nat.mul_le_mul_right _ (of_decide_eq_true (by assumption) : (l1.length : Int).toNat ≤ 35184372088832)) (by omega)) (Below.refl _ _) (Nat.le_refl _) ?_
             intro v215 w21 ho22 hb hg_ hnew_
             clear hg_ hnew_
             (first | rw [← Ny214.out] at ho22 | (simp only [Int.reduceToNat] at ho22; rw [← Ny214.out] at ho22))
             have HO216 := qS.mk (Kd.R_lower ho22 (qF (lS HB))); replace BK207 := mB BK207 hb; replace BK208 := mB BK208 hb; replace HB := mS HB hb
             clear hb ho22
             refine hK.out _ _ ⟨(qJ BK207.out 0).trans rfl, (qJ BK207.out 1).trans rfl, (qJ BK207.out 2).trans rfl⟩ (fun hHeld => ?_)
             clear hK K
             refine norm_ (a' := ?_) ?_ ?_
             rotate_left
             ·show Act.put _ (some 31) _ = _
              simp only [Act.put, List.setIfInBounds_toArray, List.set_cons_zero, List.set_cons_succ, i64_w, i32_w]
              rfl
             exact norm_ (by first | (simp only [putAll, Act.put, List.setIfInBounds_toArray, List.set_cons_zero, List.set_cons_succ]; done) | (simp only [putAll, Act.put, List.setIfInBounds_toArray, List.set_cons_zero, List.set_cons_succ]; rfl)) (hJ4 (v215) _ ⟨hHeld, (rS HO216), (bS BK207), (bS BK208), (lS HB)⟩)
            ·skip
             refine box_step ?hg (N := 6) ?hd (cs := #[.slice none 0 0, .slice none 0 0, .int .i64 0]) (t := 32) ?hr ?_; (case hd => rfl); (case hg => rfl); (case hr => first | (go_simp; done) | (go_simp; rfl))
             intro gb217 hg w21 hbox hb
             have BK217 := qS.mk (hbox); have GW217 := mG HB hg; have GE217 := mG HB hg; have NB207_217 := mN BK207 hg; have NB217_207 := mM BK207 hg; have NB208_217 := mN BK208 hg; have NB217_208 := mM BK208 hg; replace BK207 := mB BK207 hb; replace BK208 := mB BK208 hb; replace HB := mS HB hb
             clear hb hbox hg
             refine hK.out _ _ ⟨(qJ BK207.out 0).trans rfl, (qJ BK207.out 1).trans rfl, (qJ BK207.out 2).trans rfl⟩ (fun hHeld => ?_)
             clear hK K
             refine norm_ (a' := ?_) ?_ ?_
             rotate_left
             ·show Act.put _ (some 6) _ = _
              simp only [Act.put, List.setIfInBounds_toArray, List.set_cons_zero, List.set_cons_succ, i64_w, i32_w]
              rfl
             exact norm_ (by first | (simp only [putAll, Act.put, List.setIfInBounds_toArray, List.set_cons_zero, List.set_cons_succ]; done) | (simp only [putAll, Act.put, List.setIfInBounds_toArray, List.set_cons_zero, List.set_cons_succ]; rfl)) (hJ8 (gb217) _ ⟨hHeld, (bS BK207), (bS BK208), (bS BK217), GW217.out, GE217.out, NB207_217.out, NB217_207.out, NB208_217.out, NB217_208.out, (lS HB)⟩)
           ·skip
            rintro gb217 w22 ⟨hS_, h0_, h1_, h2_, h3_, h4_, h5_, h6_, h7_, h8_, h9_⟩
            have n0_ : qS (w22.heap[gb207]? = some (.cells #[.slice A0_0 l0_0.length c0_0, .slice A0_1 l0_1.length c0_1, .int .i64 a0_2] 32 (0, 0))) := ⟨h0_⟩
            have n1_ : qS (w22.heap[gb208]? = some (.cells #[.int .i64 0, .slice none 0 0, .slice none 0 0, .int .i64 0] 53 (0, 0))) := ⟨h1_⟩
            have n2_ : qS (w22.heap[gb217]? = some (.cells #[.slice none 0 0, .slice none 0 0, .int .i64 0] 32 (0, 0))) := ⟨h2_⟩
            have n3_ : qS (w.heap.size ≤ gb217) := ⟨h3_⟩
            have n4_ : qS (w.heap.size ≤ gb217) := ⟨h4_⟩
            have n5_ : qS (gb207 ≠ gb217) := ⟨h5_⟩
            have n6_ : qS (gb217 ≠ gb207) := ⟨h6_⟩
            have n7_ : qS (gb208 ≠ gb217) := ⟨h7_⟩
            have n8_ : qS (gb217 ≠ gb208) := ⟨h8_⟩
            have n9_ : qS (Below w.heap.size w w22) := ⟨h9_⟩
            clear BK207 BK208 HB
            clear h0_ h1_ h2_ h3_ h4_ h5_ h6_ h7_ h8_ h9_
            have BK207 := n0_
            have BK208 := n1_
            have BK217 := n2_
            have GW217 := n3_
            have GE217 := n4_
            have NB207_217 := n5_
            have NB217_207 := n6_
            have NB208_217 := n7_
            have NB217_208 := n8_
            have HB := n9_
            clear n0_ n1_ n2_ n3_ n4_ n5_ n6_ n7_ n8_ n9_
            have hHeld : w22.cell? ⟨gb207, 0, none⟩ = some (.slice A0_0 l0_0.length c0_0) ∧ w22.cell? ⟨gb207, 1, none⟩ = some (.slice A0_1 l0_1.length c0_1) ∧ w22.cell? ⟨gb207, 2, none⟩ = some (.int .i64 a0_2) := hS_
            refine norm_ (a' := ?_) ?_ ?_
            rotate_left
            ·simp only [putAll, Act.put, List.setIfInBounds_toArray, List.set_cons_zero, List.set_cons_succ]
             rfl
            refine two_ (i := 1) (j := 4) (Ni := some 28) (Nj := some 31) (bs 10 367) (bs 10 381) rfl rfl rfl rfl (two_of HT_.out (by kernel_rfl)) (by decide) (by decide) (fun K hK => ?_) (fun K hK => ?_)
            ·skip
             refine goes_ Try.func83 (by kernel_rfl) rfl #[.slice A1 l1.length c1] (by rfl) rfl rfl (by (try simp only [List.map_toArray, List.map_cons, List.map_nil]); first | done | rfl) ?_
             with_reducible refine (slices_Clone_int64_int64.calls kj4 _ _ l1 t211 _ ?side1 ?side2 A17.out).mono ?_
             (case side1 => repeat (first | exact (Kd.qW HR1.out HB.out) | (with_reducible refine Kd.qP ?_ _) | (with_reducible refine Kd.qQ ?_ _) | (with_reducible refine Kd.qR ?_)))
             (case side2 => exact HC1.out)
             rintro e w23 ⟨v212, rfl, ho0, hb⟩
             refine ⟨_, rfl, ?_⟩
             have HO213 := qS.mk (Kd.R_lower ho0 (qF (lS HB))); replace BK207 := mB BK207 hb; replace BK208 := mB BK208 hb; replace BK217 := mB BK217 hb; replace HB := mS HB hb
             (try clear hb)
             (try clear hb2)
             (try clear hk)
             (try clear hi)
             (try clear ho0)
             refine hK.out _ _ ⟨(qJ BK207.out 0).trans rfl, (qJ BK207.out 1).trans rfl, (qJ BK207.out 2).trans rfl⟩ (fun hHeld => ?_)
             clear hK K
             refine norm_ (a' := ?_) ?_ ?_
             rotate_left
             ·show Act.put _ (some 28) _ = _
              simp only [Act.put, List.setIfInBounds_toArray, List.set_cons_zero, List.set_cons_succ, i64_w, i32_w]
              rfl
             exact norm_ (by first | (simp only [putAll, Act.put, List.setIfInBounds_toArray, List.set_cons_zero, List.set_cons_succ]; done) | (simp only [putAll, Act.put, List.setIfInBounds_toArray, List.set_cons_zero, List.set_cons_succ]; rfl)) (hJ1_8 (v212, gb217) _ ⟨hHeld, (rS HO213), (bS BK207), (bS BK208), (bS BK217), GW217.out, GE217.out, NB207_217.out, NB217_207.out, NB208_217.out, NB217_208.out, (lS HB)⟩)
            ·skip
             refine Kd.R_make_step (Kd.int .i64) _ 2 (by rfl) (N := 31) rfl 27 _ _ rfl (l1.length : Int) rfl rfl Try.underlying27 (.int .i64 0) 8 info2 rfl (by decide) (by omega) 0 (ok := fun _ => True) (okp := fun _ => True) rfl (fun _ hk => hk) trivial (of_decide_eq_true (by assumption)) (Nat.le_trans (Nat.mul_le_mul_right _ (of_decide_eq_true (by assumption) : (l1.length : Int).toNat ≤ 35184372088832)) (by omega)) (Below.refl _ _) (Nat.le_refl _) ?_
             intro v215 w23 ho24 hb hg_ hnew_
             clear hg_ hnew_
             (first | rw [← Ny214.out] at ho24 | (simp only [Int.reduceToNat] at ho24; rw [← Ny214.out] at ho24))
             have HO216 := qS.mk (Kd.R_lower ho24 (qF (lS HB))); replace BK207 := mB BK207 hb; replace BK208 := mB BK208 hb; replace BK217 := mB BK217 hb; replace HB := mS HB hb
             clear hb ho24
             refine hK.out _ _ ⟨(qJ BK207.out 0).trans rfl, (qJ BK207.out 1).trans rfl, (qJ BK207.out 2).trans rfl⟩ (fun hHeld => ?_)
             clear hK K
             refine norm_ (a' := ?_) ?_ ?_
             rotate_left
             ·show Act.put _ (some 31) _ = _
              simp only [Act.put, List.setIfInBounds_toArray, List.set_cons_zero, List.set_cons_succ, i64_w, i32_w]
              rfl
             exact norm_ (by first | (simp only [putAll, Act.put, List.setIfInBounds_toArray, List.set_cons_zero, List.set_cons_succ]; done) | (simp only [putAll, Act.put, List.setIfInBounds_toArray, List.set_cons_zero, List.set_cons_succ]; rfl)) (hJ4_8 (v215, gb217) _ ⟨hHeld, (rS HO216), (bS BK207), (bS BK208), (bS BK217), GW217.out, GE217.out, NB207_217.out, NB217_207.out, NB208_217.out, NB217_208.out, (lS HB)⟩)
          ·skip
           rintro v215 w23 ⟨hS_, h0_, h1_, h2_, h3_⟩
           have n0_ : qS (Kd.R (Kd.int .i64) 2 w23 w.heap.size (fun _ => True) v215 y214) := ⟨h0_⟩
           have n1_ : qS (w23.heap[gb207]? = some (.cells #[.slice A0_0 l0_0.length c0_0, .slice A0_1 l0_1.length c0_1, .int .i64 a0_2] 32 (0, 0))) := ⟨h1_⟩
           have n2_ : qS (w23.heap[gb208]? = some (.cells #[.int .i64 0, .slice none 0 0, .slice none 0 0, .int .i64 0] 53 (0, 0))) := ⟨h2_⟩
           have n3_ : qS (Below w.heap.size w w23) := ⟨h3_⟩
           clear BK207 BK208 HB
           clear h0_ h1_ h2_ h3_
           have HO216 := n0_
           have BK207 := n1_
           have BK208 := n2_
           have HB := n3_
           clear n0_ n1_ n2_ n3_
           have hHeld : w23.cell? ⟨gb207, 0, none⟩ = some (.slice A0_0 l0_0.length c0_0) ∧ w23.cell? ⟨gb207, 1, none⟩ = some (.slice A0_1 l0_1.length c0_1) ∧ w23.cell? ⟨gb207, 2, none⟩ = some (.int .i64 a0_2) := hS_
           refine norm_ (a' := ?_) ?_ ?_
           rotate_left
           ·simp only [putAll, Act.put, List.setIfInBounds_toArray, List.set_cons_zero, List.set_cons_succ]
            rfl
           refine two_ (i := 1) (j := 8) (Ni := some 28) (Nj := some 6) (bs 10 127) (bs 10 381) rfl rfl rfl rfl (two_of HT_.out (by kernel_rfl)) (by decide) (by decide) (fun K hK => ?_) (fun K hK => ?_)
           ·skip
            refine goes_ Try.func83 (by kernel_rfl) rfl #[.slice A1 l1.length c1] (by rfl) rfl rfl (by (try simp only [List.map_toArray, List.map_cons, List.map_nil]); first | done | rfl) ?_
            with_reducible refine (slices_Clone_int64_int64.calls kj4 _ _ l1 t211 _ ?side1 ?side2 A17.out).mono ?_
            (case side1 => repeat (first | exact (Kd.qW HR1.out HB.out) | (with_reducible refine Kd.qP ?_ _) | (with_reducible refine Kd.qQ ?_ _) | (with_reducible refine Kd.qR ?_)))
            (case side2 => exact HC1.out)
            rintro e w24 ⟨v212, rfl, ho0, hb⟩
            refine ⟨_, rfl, ?_⟩
            have HO213 := qS.mk (Kd.R_lower (Kd.R_new' ho0 (Kd.R_lt (rS HO216))) (qF (lS HB))); replace HO216 := qS.mk (Kd.R_elder' (rS HO216) (Kd.R_base ho0) hb); replace BK207 := mB BK207 hb; replace BK208 := mB BK208 hb; replace HB := mS HB hb
            (try clear hb)
            (try clear hb2)
            (try clear hk)
            (try clear hi)
            (try clear ho0)
            obtain ⟨Ao25, co25, eo25⟩ := Kd.qX HO216.out
            (first | subst eo25 | (injection eo25 with f1_ f2_ f3_; have f4_ := f1_.symm; have f5_ := f3_.symm; clear f1_ f2_ f3_; subst f4_; subst f5_))
            obtain ⟨Ao26, co26, eo26⟩ := Kd.qX HO213.out
            (first | subst eo26 | (injection eo26 with f1_ f2_ f3_; have f4_ := f1_.symm; have f5_ := f3_.symm; clear f1_ f2_ f3_; subst f4_; subst f5_))
            refine hK.out _ _ ⟨(qJ BK207.out 0).trans rfl, (qJ BK207.out 1).trans rfl, (qJ BK207.out 2).trans rfl⟩ (fun hHeld => ?_)
            clear hK K
            refine norm_ (a' := ?_) ?_ ?_
            rotate_left
            ·show Act.put _ (some 28) _ = _
             simp only [Act.put, List.setIfInBounds_toArray, List.set_cons_zero, List.set_cons_succ, i64_w, i32_w]
             rfl
            refine pS 7 34 (bs 10 255) HT_ ?_
            exact norm_ (by first | (simp only [putAll, Act.put, List.setIfInBounds_toArray, List.set_cons_zero, List.set_cons_succ]; done) | (simp only [putAll, Act.put, List.setIfInBounds_toArray, List.set_cons_zero, List.set_cons_succ]; rfl)) (hJ1_4 (.slice Ao26 t211.length co26, .slice Ao25 y214.length co25) _ ⟨hHeld, (rT (Kd.qZ HO213.out (fun _ hk => hk.2))), (rT (Kd.qZ HO216.out (fun _ hk => hk.2))), (bS BK207), (bS BK208), (lS HB)⟩)
           ·skip
            refine box_step ?hg (N := 6) ?hd (cs := #[.slice none 0 0, .slice none 0 0, .int .i64 0]) (t := 32) ?hr ?_; (case hd => rfl); (case hg => rfl); (case hr => first | (go_simp; done) | (go_simp; rfl))
            intro gb217 hg w24 hbox hb
            have BK217 := qS.mk (hbox); have GW217 := mG HB hg; have GE217 := mG HB hg; have NB207_217 := mN BK207 hg; have NB217_207 := mM BK207 hg; have NB208_217 := mN BK208 hg; have NB217_208 := mM BK208 hg; replace HO216 := mR HO216 hb; replace BK207 := mB BK207 hb; replace BK208 := mB BK208 hb; replace HB := mS HB hb
            clear hb hbox hg
            refine hK.out _ _ ⟨(qJ BK207.out 0).trans rfl, (qJ BK207.out 1).trans rfl, (qJ BK207.out 2).trans rfl⟩ (fun hHeld => ?_)
            clear hK K
            refine norm_ (a' := ?_) ?_ ?_
            rotate_left
            ·show Act.put _ (some 6) _ = _
             simp only [Act.put, List.setIfInBounds_toArray, List.set_cons_zero, List.set_cons_succ, i64_w, i32_w]
             rfl
            exact norm_ (by first | (simp only [putAll, Act.put, List.setIfInBounds_toArray, List.set_cons_zero, List.set_cons_succ]; done) | (simp only [putAll, Act.put, List.setIfInBounds_toArray, List.set_cons_zero, List.set_cons_succ]; rfl)) (hJ4_8 (v215, gb217) _ ⟨hHeld, (rS HO216), (bS BK207), (bS BK208), (bS BK217), GW217.out, GE217.out, NB207_217.out, NB217_207.out, NB208_217.out, NB217_208.out, (lS HB)⟩)
         ·skip
          rintro v212 w22 ⟨hS_, h0_, h1_, h2_, h3_⟩
          have n0_ : qS (Kd.R (Kd.int .i64) 2 w22 w.heap.size (fun _ => True) v212 t211) := ⟨h0_⟩
          have n1_ : qS (w22.heap[gb207]? = some (.cells #[.slice A0_0 l0_0.length c0_0, .slice A0_1 l0_1.length c0_1, .int .i64 a0_2] 32 (0, 0))) := ⟨h1_⟩
          have n2_ : qS (w22.heap[gb208]? = some (.cells #[.int .i64 0, .slice none 0 0, .slice none 0 0, .int .i64 0] 53 (0, 0))) := ⟨h2_⟩
          have n3_ : qS (Below w.heap.size w w22) := ⟨h3_⟩
          clear BK207 BK208 HB
          clear h0_ h1_ h2_ h3_
          have HO213 := n0_
          have BK207 := n1_
          have BK208 := n2_
          have HB := n3_
          clear n0_ n1_ n2_ n3_
          have hHeld : w22.cell? ⟨gb207, 0, none⟩ = some (.slice A0_0 l0_0.length c0_0) ∧ w22.cell? ⟨gb207, 1, none⟩ = some (.slice A0_1 l0_1.length c0_1) ∧ w22.cell? ⟨gb207, 2, none⟩ = some (.int .i64 a0_2) := hS_
          refine norm_ (a' := ?_) ?_ ?_
          rotate_left
          ·simp only [putAll, Act.put, List.setIfInBounds_toArray, List.set_cons_zero, List.set_cons_succ]
           rfl
          refine two_ (i := 4) (j := 8) (Ni := some 31) (Nj := some 6) (bs 10 127) (bs 10 367) rfl rfl rfl rfl (two_of HT_.out (by kernel_rfl)) (by decide) (by decide) (fun K hK => ?_) (fun K hK => ?_)
          ·skip
           refine Kd.R_make_step (Kd.int .i64) _ 2 (by rfl) (N := 31) rfl 27 _ _ rfl (l1.length : Int) rfl rfl Try.underlying27 (.int .i64 0) 8 info2 rfl (by decide) (by omega) 0 (ok := fun _ => True) (okp := fun _ => True) rfl (fun _ hk => hk) trivial (of_decide_eq_true (by assumption)) (Nat.le_trans (Nat.mul_le_mul_right _ (of_decide_eq_true (by assumption) : (l1.length : Int).toNat ≤ 35184372088832)) (by omega)) (Below.refl _ _) (Nat.le_refl _) ?_
           intro v215 w23 ho24 hb hg_ hnew_
           clear hg_ hnew_
           (first | rw [← Ny214.out] at ho24 | (simp only [Int.reduceToNat] at ho24; rw [← Ny214.out] at ho24))
           have HO216 := qS.mk (Kd.R_lower (Kd.R_new' ho24 (Kd.R_lt (rS HO213))) (qF (lS HB))); replace HO213 := qS.mk (Kd.R_elder' (rS HO213) (Kd.R_base ho24) hb); replace BK207 := mB BK207 hb; replace BK208 := mB BK208 hb; replace HB := mS HB hb
           clear hb ho24
           obtain ⟨Ao25, co25, eo25⟩ := Kd.qX HO216.out
           (first | subst eo25 | (injection eo25 with f1_ f2_ f3_; have f4_ := f1_.symm; have f5_ := f3_.symm; clear f1_ f2_ f3_; subst f4_; subst f5_))
           obtain ⟨Ao26, co26, eo26⟩ := Kd.qX HO213.out
           (first | subst eo26 | (injection eo26 with f1_ f2_ f3_; have f4_ := f1_.symm; have f5_ := f3_.symm; clear f1_ f2_ f3_; subst f4_; subst f5_))
           refine hK.out _ _ ⟨(qJ BK207.out 0).trans rfl, (qJ BK207.out 1).trans rfl, (qJ BK207.out 2).trans rfl⟩ (fun hHeld => ?_)
           clear hK K
           refine norm_ (a' := ?_) ?_ ?_
           rotate_left
           ·show Act.put _ (some 31) _ = _
            simp only [Act.put, List.setIfInBounds_toArray, List.set_cons_zero, List.set_cons_succ, i64_w, i32_w]
            rfl
           refine pS 7 34 (bs 10 255) HT_ ?_
           exact norm_ (by first | (simp only [putAll, Act.put, List.setIfInBounds_toArray, List.set_cons_zero, List.set_cons_succ]; done) | (simp only [putAll, Act.put, List.setIfInBounds_toArray, List.set_cons_zero, List.set_cons_succ]; rfl)) (hJ1_4 (.slice Ao26 t211.length co26, .slice Ao25 y214.length co25) _ ⟨hHeld, (rT (Kd.qZ HO213.out (fun _ hk => hk.2))), (rT (Kd.qZ HO216.out (fun _ hk => hk.2))), (bS BK207), (bS BK208), (lS HB)⟩)
          ·skip
           refine box_step ?hg (N := 6) ?hd (cs := #[.slice none 0 0, .slice none 0 0, .int .i64 0]) (t := 32) ?hr ?_; (case hd => rfl); (case hg => rfl); (case hr => first | (go_simp; done) | (go_simp; rfl))
           intro gb217 hg w23 hbox hb
           have BK217 := qS.mk (hbox); have GW217 := mG HB hg; have GE217 := mG HB hg; have NB207_217 := mN BK207 hg; have NB217_207 := mM BK207 hg; have NB208_217 := mN BK208 hg; have NB217_208 := mM BK208 hg; replace HO213 := mR HO213 hb; replace BK207 := mB BK207 hb; replace BK208 := mB BK208 hb; replace HB := mS HB hb
           clear hb hbox hg
           refine hK.out _ _ ⟨(qJ BK207.out 0).trans rfl, (qJ BK207.out 1).trans rfl, (qJ BK207.out 2).trans rfl⟩ (fun hHeld => ?_)
           clear hK K
           refine norm_ (a' := ?_) ?_ ?_
           rotate_left
           ·show Act.put _ (some 6) _ = _
            simp only [Act.put, List.setIfInBounds_toArray, List.set_cons_zero, List.set_cons_succ, i64_w, i32_w]
            rfl
           exact norm_ (by first | (simp only [putAll, Act.put, List.setIfInBounds_toArray, List.set_cons_zero, List.set_cons_succ]; done) | (simp only [putAll, Act.put, List.setIfInBounds_toArray, List.set_cons_zero, List.set_cons_succ]; rfl)) (hJ1_8 (v212, gb217) _ ⟨hHeld, (rS HO213), (bS BK207), (bS BK208), (bS BK217), GW217.out, GE217.out, NB207_217.out, NB217_207.out, NB208_217.out, NB217_208.out, (lS HB)⟩)
        ·skip
         rintro ⟨v215, gb217⟩ w24 ⟨hS_, h0_, h1_, h2_, h3_, h4_, h5_, h6_, h7_, h8_, h9_, h10_⟩
         have n0_ : qS (Kd.R (Kd.int .i64) 2 w24 w.heap.size (fun _ => True) v215 y214) := ⟨h0_⟩
         have n1_ : qS (w24.heap[gb207]? = some (.cells #[.slice A0_0 l0_0.length c0_0, .slice A0_1 l0_1.length c0_1, .int .i64 a0_2] 32 (0, 0))) := ⟨h1_⟩
         have n2_ : qS (w24.heap[gb208]? = some (.cells #[.int .i64 0, .slice none 0 0, .slice none 0 0, .int .i64 0] 53 (0, 0))) := ⟨h2_⟩
         have n3_ : qS (w24.heap[gb217]? = some (.cells #[.slice none 0 0, .slice none 0 0, .int .i64 0] 32 (0, 0))) := ⟨h3_⟩
         have n4_ : qS (w.heap.size ≤ gb217) := ⟨h4_⟩
         have n5_ : qS (w.heap.size ≤ gb217) := ⟨h5_⟩
         have n6_ : qS (gb207 ≠ gb217) := ⟨h6_⟩
         have n7_ : qS (gb217 ≠ gb207) := ⟨h7_⟩
         have n8_ : qS (gb208 ≠ gb217) := ⟨h8_⟩
         have n9_ : qS (gb217 ≠ gb208) := ⟨h9_⟩
         have n10_ : qS (Below w.heap.size w w24) := ⟨h10_⟩
         clear BK207 BK208 HB
         clear h0_ h1_ h2_ h3_ h4_ h5_ h6_ h7_ h8_ h9_ h10_
         have HO216 := n0_
         have BK207 := n1_
         have BK208 := n2_
         have BK217 := n3_
         have GW217 := n4_
         have GE217 := n5_
         have NB207_217 := n6_
         have NB217_207 := n7_
         have NB208_217 := n8_
         have NB217_208 := n9_
         have HB := n10_
         clear n0_ n1_ n2_ n3_ n4_ n5_ n6_ n7_ n8_ n9_ n10_
         have hHeld : w24.cell? ⟨gb207, 0, none⟩ = some (.slice A0_0 l0_0.length c0_0) ∧ w24.cell? ⟨gb207, 1, none⟩ = some (.slice A0_1 l0_1.length c0_1) ∧ w24.cell? ⟨gb207, 2, none⟩ = some (.int .i64 a0_2) := hS_
         refine norm_ (a' := ?_) ?_ ?_
         rotate_left
         ·simp only [putAll, Act.put, List.setIfInBounds_toArray, List.set_cons_zero, List.set_cons_succ]
          rfl
         refine one_ (i := 1) (N := some 28) (bs 10 383) rfl rfl (one_of HT_.out (by kernel_rfl)) (by decide) (fun K hK => ?_)
         refine goes_ Try.func83 (by kernel_rfl) rfl #[.slice A1 l1.length c1] (by rfl) rfl rfl (by (try simp only [List.map_toArray, List.map_cons, List.map_nil]); first | done | rfl) ?_
         with_reducible refine (slices_Clone_int64_int64.calls kj4 _ _ l1 t211 _ ?side1 ?side2 A17.out).mono ?_
         (case side1 => repeat (first | exact (Kd.qW HR1.out HB.out) | (with_reducible refine Kd.qP ?_ _) | (with_reducible refine Kd.qQ ?_ _) | (with_reducible refine Kd.qR ?_)))
         (case side2 => exact HC1.out)
         rintro e w25 ⟨v212, rfl, ho0, hb⟩
         refine ⟨_, rfl, ?_⟩
         have HO213 := qS.mk (Kd.R_lower (Kd.R_new' ho0 (Kd.R_lt (rS HO216))) (qF (lS HB))); replace HO216 := qS.mk (Kd.R_elder' (rS HO216) (Kd.R_base ho0) hb); replace BK207 := mB BK207 hb; replace BK208 := mB BK208 hb; replace BK217 := mB BK217 hb; replace HB := mS HB hb
         (try clear hb)
         (try clear hb2)
         (try clear hk)
         (try clear hi)
         (try clear ho0)
         obtain ⟨Ao26, co26, eo26⟩ := Kd.qX HO216.out
         (first | subst eo26 | (injection eo26 with f1_ f2_ f3_; have f4_ := f1_.symm; have f5_ := f3_.symm; clear f1_ f2_ f3_; subst f4_; subst f5_))
         obtain ⟨Ao27, co27, eo27⟩ := Kd.qX HO213.out
         (first | subst eo27 | (injection eo27 with f1_ f2_ f3_; have f4_ := f1_.symm; have f5_ := f3_.symm; clear f1_ f2_ f3_; subst f4_; subst f5_))
         refine hK.out _ _ ⟨(qJ BK207.out 0).trans rfl, (qJ BK207.out 1).trans rfl, (qJ BK207.out 2).trans rfl⟩ (fun hHeld => ?_)
         clear hK K
         refine norm_ (a' := ?_) ?_ ?_
         rotate_left
         ·show Act.put _ (some 28) _ = _
          simp only [Act.put, List.setIfInBounds_toArray, List.set_cons_zero, List.set_cons_succ, i64_w, i32_w]
          rfl
         refine pS 7 34 (bs 10 511) HT_ ?_
         exact norm_ (by first | (simp only [putAll, Act.put, List.setIfInBounds_toArray, List.set_cons_zero, List.set_cons_succ]; done) | (simp only [putAll, Act.put, List.setIfInBounds_toArray, List.set_cons_zero, List.set_cons_succ]; rfl)) (hJ1_4_8 (.slice Ao27 t211.length co27, .slice Ao26 y214.length co26, gb217) _ ⟨hHeld, (rT (Kd.qZ HO213.out (fun _ hk => hk.2))), (rT (Kd.qZ HO216.out (fun _ hk => hk.2))), (bS BK207), (bS BK208), (bS BK217), GW217.out, GE217.out, NB207_217.out, NB217_207.out, NB208_217.out, NB217_208.out, (lS HB)⟩)
       ·skip
        rintro ⟨v212, gb217⟩ w23 ⟨hS_, h0_, h1_, h2_, h3_, h4_, h5_, h6_, h7_, h8_, h9_, h10_⟩
        have n0_ : qS (Kd.R (Kd.int .i64) 2 w23 w.heap.size (fun _ => True) v212 t211) := ⟨h0_⟩
        have n1_ : qS (w23.heap[gb207]? = some (.cells #[.slice A0_0 l0_0.length c0_0, .slice A0_1 l0_1.length c0_1, .int .i64 a0_2] 32 (0, 0))) := ⟨h1_⟩
        have n2_ : qS (w23.heap[gb208]? = some (.cells #[.int .i64 0, .slice none 0 0, .slice none 0 0, .int .i64 0] 53 (0, 0))) := ⟨h2_⟩
        have n3_ : qS (w23.heap[gb217]? = some (.cells #[.slice none 0 0, .slice none 0 0, .int .i64 0] 32 (0, 0))) := ⟨h3_⟩
        have n4_ : qS (w.heap.size ≤ gb217) := ⟨h4_⟩
        have n5_ : qS (w.heap.size ≤ gb217) := ⟨h5_⟩
        have n6_ : qS (gb207 ≠ gb217) := ⟨h6_⟩
        have n7_ : qS (gb217 ≠ gb207) := ⟨h7_⟩
        have n8_ : qS (gb208 ≠ gb217) := ⟨h8_⟩
        have n9_ : qS (gb217 ≠ gb208) := ⟨h9_⟩
        have n10_ : qS (Below w.heap.size w w23) := ⟨h10_⟩
        clear BK207 BK208 HB
        clear h0_ h1_ h2_ h3_ h4_ h5_ h6_ h7_ h8_ h9_ h10_
        have HO213 := n0_
        have BK207 := n1_
        have BK208 := n2_
        have BK217 := n3_
        have GW217 := n4_
        have GE217 := n5_
        have NB207_217 := n6_
        have NB217_207 := n7_
        have NB208_217 := n8_
        have NB217_208 := n9_
        have HB := n10_
        clear n0_ n1_ n2_ n3_ n4_ n5_ n6_ n7_ n8_ n9_ n10_
        have hHeld : w23.cell? ⟨gb207, 0, none⟩ = some (.slice A0_0 l0_0.length c0_0) ∧ w23.cell? ⟨gb207, 1, none⟩ = some (.slice A0_1 l0_1.length c0_1) ∧ w23.cell? ⟨gb207, 2, none⟩ = some (.int .i64 a0_2) := hS_
        refine norm_ (a' := ?_) ?_ ?_
        rotate_left
        ·simp only [putAll, Act.put, List.setIfInBounds_toArray, List.set_cons_zero, List.set_cons_succ]
         rfl
        refine one_ (i := 4) (N := some 31) (bs 10 383) rfl rfl (one_of HT_.out (by kernel_rfl)) (by decide) (fun K hK => ?_)
        refine Kd.R_make_step (Kd.int .i64) _ 2 (by rfl) (N := 31) rfl 27 _ _ rfl (l1.length : Int) rfl rfl Try.underlying27 (.int .i64 0) 8 info2 rfl (by decide) (by omega) 0 (ok := fun _ => True) (okp := fun _ => True) rfl (fun _ hk => hk) trivial (of_decide_eq_true (by assumption)) (Nat.le_trans (Nat.mul_le_mul_right _ (of_decide_eq_true (by assumption) : (l1.length : Int).toNat ≤ 35184372088832)) (by omega)) (Below.refl _ _) (Nat.le_refl _) ?_
        intro v215 w24 ho25 hb hg_ hnew_
        clear hg_ hnew_
        (first | rw [← Ny214.out] at ho25 | (simp only [Int.reduceToNat] at ho25; rw [← Ny214.out] at ho25))
        have HO216 := qS.mk (Kd.R_lower (Kd.R_new' ho25 (Kd.R_lt (rS HO213))) (qF (lS HB))); replace HO213 := qS.mk (Kd.R_elder' (rS HO213) (Kd.R_base ho25) hb); replace BK207 := mB BK207 hb; replace BK208 := mB BK208 hb; replace BK217 := mB BK217 hb; replace HB := mS HB hb
        clear hb ho25
        obtain ⟨Ao26, co26, eo26⟩ := Kd.qX HO216.out
        (first | subst eo26 | (injection eo26 with f1_ f2_ f3_; have f4_ := f1_.symm; have f5_ := f3_.symm; clear f1_ f2_ f3_; subst f4_; subst f5_))
        obtain ⟨Ao27, co27, eo27⟩ := Kd.qX HO213.out
        (first | subst eo27 | (injection eo27 with f1_ f2_ f3_; have f4_ := f1_.symm; have f5_ := f3_.symm; clear f1_ f2_ f3_; subst f4_; subst f5_))
        refine hK.out _ _ ⟨(qJ BK207.out 0).trans rfl, (qJ BK207.out 1).trans rfl, (qJ BK207.out 2).trans rfl⟩ (fun hHeld => ?_)
        clear hK K
        refine norm_ (a' := ?_) ?_ ?_
        rotate_left
        ·show Act.put _ (some 31) _ = _
         simp only [Act.put, List.setIfInBounds_toArray, List.set_cons_zero, List.set_cons_succ, i64_w, i32_w]
         rfl
        refine pS 7 34 (bs 10 511) HT_ ?_
        exact norm_ (by first | (simp only [putAll, Act.put, List.setIfInBounds_toArray, List.set_cons_zero, List.set_cons_succ]; done) | (simp only [putAll, Act.put, List.setIfInBounds_toArray, List.set_cons_zero, List.set_cons_succ]; rfl)) (hJ1_4_8 (.slice Ao27 t211.length co27, .slice Ao26 y214.length co26, gb217) _ ⟨hHeld, (rT (Kd.qZ HO213.out (fun _ hk => hk.2))), (rT (Kd.qZ HO216.out (fun _ hk => hk.2))), (bS BK207), (bS BK208), (bS BK217), GW217.out, GE217.out, NB207_217.out, NB217_207.out, NB208_217.out, NB217_208.out, (lS HB)⟩)
      ·skip
       rintro ⟨v212, v215⟩ w26 ⟨hS_, h0_, h1_, h2_, h3_, h4_⟩
       have n0_ : qS (Kd.R (Kd.int .i64) 2 w26 w.heap.size (fun k_ => some k_ ≠ (v215 : Value).ownBlock) v212 t211) := ⟨h0_⟩
       have n1_ : qS (Kd.R (Kd.int .i64) 2 w26 w.heap.size (fun k_ => some k_ ≠ (v212 : Value).ownBlock) v215 y214) := ⟨h1_⟩
       have n2_ : qS (w26.heap[gb207]? = some (.cells #[.slice A0_0 l0_0.length c0_0, .slice A0_1 l0_1.length c0_1, .int .i64 a0_2] 32 (0, 0))) := ⟨h2_⟩
       have n3_ : qS (w26.heap[gb208]? = some (.cells #[.int .i64 0, .slice none 0 0, .slice none 0 0, .int .i64 0] 53 (0, 0))) := ⟨h3_⟩
       have n4_ : qS (Below w.heap.size w w26) := ⟨h4_⟩
       clear BK207 BK208 HB
       clear h0_ h1_ h2_ h3_ h4_
       have HO213 := n0_
       have HO216 := n1_
       have BK207 := n2_
       have BK208 := n3_
       have HB := n4_
       clear n0_ n1_ n2_ n3_ n4_
       have hHeld : w26.cell? ⟨gb207, 0, none⟩ = some (.slice A0_0 l0_0.length c0_0) ∧ w26.cell? ⟨gb207, 1, none⟩ = some (.slice A0_1 l0_1.length c0_1) ∧ w26.cell? ⟨gb207, 2, none⟩ = some (.int .i64 a0_2) := hS_
       obtain ⟨Ao27, co27, eo27⟩ := Kd.qX HO216.out
       (first | subst eo27 | (injection eo27 with f1_ f2_ f3_; have f4_ := f1_.symm; have f5_ := f3_.symm; clear f1_ f2_ f3_; subst f4_; subst f5_))
       obtain ⟨Ao28, co28, eo28⟩ := Kd.qX HO213.out
       (first | subst eo28 | (injection eo28 with f1_ f2_ f3_; have f4_ := f1_.symm; have f5_ := f3_.symm; clear f1_ f2_ f3_; subst f4_; subst f5_))
       refine norm_ (a' := ?_) ?_ ?_
       rotate_left
       ·simp only [putAll, Act.put, List.setIfInBounds_toArray, List.set_cons_zero, List.set_cons_succ]
        rfl
       refine one_ (i := 8) (N := some 6) (bs 10 511) rfl rfl (one_of HT_.out (by kernel_rfl)) (by decide) (fun K hK => ?_)
       refine box_step ?hg (N := 6) ?hd (cs := #[.slice none 0 0, .slice none 0 0, .int .i64 0]) (t := 32) ?hr ?_; (case hd => rfl); (case hg => rfl); (case hr => first | (go_simp; done) | (go_simp; rfl))
       intro gb217 hg w29 hbox hb
       have BK217 := qS.mk (hbox); have GW217 := mG HB hg; have GE217 := mG HB hg; have NB207_217 := mN BK207 hg; have NB217_207 := mM BK207 hg; have NB208_217 := mN BK208 hg; have NB217_208 := mM BK208 hg; replace HO213 := mR HO213 hb; replace HO216 := mR HO216 hb; replace BK207 := mB BK207 hb; replace BK208 := mB BK208 hb; replace HB := mS HB hb
       clear hb hbox hg
       refine hK.out _ _ ⟨(qJ BK207.out 0).trans rfl, (qJ BK207.out 1).trans rfl, (qJ BK207.out 2).trans rfl⟩ (fun hHeld => ?_)
       clear hK K
       refine norm_ (a' := ?_) ?_ ?_
       rotate_left
       ·show Act.put _ (some 6) _ = _
        simp only [Act.put, List.setIfInBounds_toArray, List.set_cons_zero, List.set_cons_succ, i64_w, i32_w]
        rfl
       exact norm_ (by first | (simp only [putAll, Act.put, List.setIfInBounds_toArray, List.set_cons_zero, List.set_cons_succ]; done) | (simp only [putAll, Act.put, List.setIfInBounds_toArray, List.set_cons_zero, List.set_cons_succ]; rfl)) (hJ1_4_8 (.slice Ao28 t211.length co28, .slice Ao27 y214.length co27, gb217) _ ⟨hHeld, (rS HO213), (rS HO216), (bS BK207), (bS BK208), (bS BK217), GW217.out, GE217.out, NB207_217.out, NB217_207.out, NB208_217.out, NB217_208.out, (lS HB)⟩)
     rintro ⟨v212, v215, gb217⟩ w27 ⟨hS_, h0_, h1_, h2_, h3_, h4_, h5_, h6_, h7_, h8_, h9_, h10_, h11_⟩
     have n0_ : qS (Kd.R (Kd.int .i64) 2 w27 w.heap.size (fun k_ => some k_ ≠ (v215 : Value).ownBlock) v212 t211) := ⟨h0_⟩
     have n1_ : qS (Kd.R (Kd.int .i64) 2 w27 w.heap.size (fun k_ => some k_ ≠ (v212 : Value).ownBlock) v215 y214) := ⟨h1_⟩
     have n2_ : qS (w27.heap[gb207]? = some (.cells #[.slice A0_0 l0_0.length c0_0, .slice A0_1 l0_1.length c0_1, .int .i64 a0_2] 32 (0, 0))) := ⟨h2_⟩
     have n3_ : qS (w27.heap[gb208]? = some (.cells #[.int .i64 0, .slice none 0 0, .slice none 0 0, .int .i64 0] 53 (0, 0))) := ⟨h3_⟩
     have n4_ : qS (w27.heap[gb217]? = some (.cells #[.slice none 0 0, .slice none 0 0, .int .i64 0] 32 (0, 0))) := ⟨h4_⟩
     have n5_ : qS (w.heap.size ≤ gb217) := ⟨h5_⟩
     have n6_ : qS (w.heap.size ≤ gb217) := ⟨h6_⟩
     have n7_ : qS (gb207 ≠ gb217) := ⟨h7_⟩
     have n8_ : qS (gb217 ≠ gb207) := ⟨h8_⟩
     have n9_ : qS (gb208 ≠ gb217) := ⟨h9_⟩
     have n10_ : qS (gb217 ≠ gb208) := ⟨h10_⟩
     have n11_ : qS (Below w.heap.size w w27) := ⟨h11_⟩
     clear BK207 BK208 HB
     clear h0_ h1_ h2_ h3_ h4_ h5_ h6_ h7_ h8_ h9_ h10_ h11_
     have HO213 := n0_
     have HO216 := n1_
     have BK207 := n2_
     have BK208 := n3_
     have BK217 := n4_
     have GW217 := n5_
     have GE217 := n6_
     have NB207_217 := n7_
     have NB217_207 := n8_
     have NB208_217 := n9_
     have NB217_208 := n10_
     have HB := n11_
     clear n0_ n1_ n2_ n3_ n4_ n5_ n6_ n7_ n8_ n9_ n10_ n11_
     have hHeld : w27.cell? ⟨gb207, 0, none⟩ = some (.slice A0_0 l0_0.length c0_0) ∧ w27.cell? ⟨gb207, 1, none⟩ = some (.slice A0_1 l0_1.length c0_1) ∧ w27.cell? ⟨gb207, 2, none⟩ = some (.int .i64 a0_2) := hS_
     obtain ⟨Ao28, co28, eo28⟩ := Kd.qX HO216.out
     (first | subst eo28 | (injection eo28 with f1_ f2_ f3_; have f4_ := f1_.symm; have f5_ := f3_.symm; clear f1_ f2_ f3_; subst f4_; subst f5_))
     obtain ⟨Ao29, co29, eo29⟩ := Kd.qX HO213.out
     (first | subst eo29 | (injection eo29 with f1_ f2_ f3_; have f4_ := f1_.symm; have f5_ := f3_.symm; clear f1_ f2_ f3_; subst f4_; subst f5_))
     refine norm_ (a' := ?_) ?_ ?_
     rotate_left
     ·simp only [putAll, Act.put, List.setIfInBounds_toArray, List.set_cons_zero, List.set_cons_succ]
      rfl
     refine one_ (i := 9) (N := none) (bs 10 1023) rfl rfl (one_of HT_.out (by kernel_rfl)) (by decide) (fun K hK => ?_)
     have hs30 : w27.cell? ⟨gb217, 0, none⟩ = some (.slice none 0 0) := (qJ BK217.out 0).trans rfl
     have hfs30 := qK BK217.out 0
     have hns30_0 := NB207_217.out
     have hns30_1 := NB208_217.out
     have hms30_0 := NB217_207.out
     have hms30_1 := NB217_208.out
     have hs31 : w27.cell? ⟨gb217, 1, none⟩ = some (.slice none 0 0) := (qJ BK217.out 1).trans rfl
     have hfs31 := qK BK217.out 1
     have hns31_0 := NB207_217.out
     have hns31_1 := NB208_217.out
     have hms31_0 := NB217_207.out
     have hms31_1 := NB217_208.out
     have hs32 : w27.cell? ⟨gb217, 2, none⟩ = some (.int .i64 0) := (qJ BK217.out 2).trans rfl
     have hfs32 := qK BK217.out 2
     have hns32_0 := NB207_217.out
     have hns32_1 := NB208_217.out
     have hms32_0 := NB217_207.out
     have hms32_1 := NB217_208.out
     refine skip_ (w1 := ?_) (by rfl) rfl ?_ ?_
     rotate_left
     ·go_simp
      rfl
     refine hK.out _ _ ⟨((cell_far (p := ⟨gb217, _, none⟩) NB207_217.out _).trans (((cell_far (p := ⟨gb217, _, none⟩) NB207_217.out _).trans (((cell_far (p := ⟨gb217, _, none⟩) NB207_217.out _).trans (hHeld.1)))))), ((cell_far (p := ⟨gb217, _, none⟩) NB207_217.out _).trans (((cell_far (p := ⟨gb217, _, none⟩) NB207_217.out _).trans (((cell_far (p := ⟨gb217, _, none⟩) NB207_217.out _).trans (hHeld.2.1)))))), ((cell_far (p := ⟨gb217, _, none⟩) NB207_217.out _).trans (((cell_far (p := ⟨gb217, _, none⟩) NB207_217.out _).trans (((cell_far (p := ⟨gb217, _, none⟩) NB207_217.out _).trans (hHeld.2.2))))))⟩ (fun hHeld => ?_)
     clear hK K
     refine done_ (done_of HT_.out (by kernel_rfl)) ?_
     have hnb33 := NB207_208.out
     have hnc33 := NB208_207.out
     have hnb34 := NB207_217.out
     have hnc34 := NB217_207.out
     obtain ⟨hcz35_0, hcz35_1, hcz35_2, hfz35_0, hfz35_1, hfz35_2⟩ := bx3 BK207
     try go_wp2
     go_loopg [38] kj4 (fun kq v38 w' => ∃ (x38_2 : Int) (x209000_2 : Int) (x209003_2 : Int) (x218000_2 : List Int) (x218001_2 : List Int) (u218000 : Value) (u218001 : Value), v38 = .int .i64 x38_2 ∧ qS (impl_Broadcast.l0 kq l1 (wrap64 ((l1.length : Int) - (l0_0.length : Int))) l0_0 (l0_0.length : Int) x38_2 l0_0 l0_1 a0_2 x218000_2 x218001_2 a0_2 = some (r1, r2, r3, r4)) ∧ qS (kq ≤ kj4) ∧ qS (Kd.R (Kd.int .i64) 2 w' w.heap.size (fun k_ => some k_ ≠ (u218001 : Value).ownBlock) u218000 x218000_2) ∧ qS (Kd.R (Kd.int .i64) 2 w' w.heap.size (fun k_ => some k_ ≠ (u218000 : Value).ownBlock) u218001 x218001_2) ∧ qS (w'.heap[gb207]? = some (.cells #[(.slice A0_0 l0_0.length c0_0), (.slice A0_1 l0_1.length c0_1), .int .i64 a0_2] 32 (0, 0))) ∧ qS (w'.heap[gb208]? = some (.cells #[.int .i64 x209000_2, (.slice none 0 0), (.slice none 0 0), .int .i64 x209003_2] 53 (0, 0))) ∧ qS (w'.heap[gb217]? = some (.cells #[u218000, u218001, .int .i64 a0_2] 32 (0, 0))) ∧ qS (Below w.heap.size w w'))
     case atStart => exact ⟨(0), (0), (0), (t211), (y214), (.slice Ao29 t211.length co29), (.slice Ao28 y214.length co28), rf, H', ⟨Nat.le_refl _⟩, ⟨rF HO213 BK217⟩, ⟨rF HO216 BK217⟩, ⟨bQ BK207⟩, ⟨bQ BK208⟩, ⟨bQ BK217⟩, ⟨lS HB⟩⟩
     case round =>
      clear H'
      (try clear c1); (try clear hcz35_0); (try clear hcz35_1); (try clear hcz35_2); (try clear hfz35_0); (try clear hfz35_1); (try clear hfz35_2)
      obtain ⟨x38_2, x209000_2, x209003_2, x218000_2, x218001_2, u218000, u218001, rfl, HA, HK2, HO_218000, HO_218001, BK207, BK208, BK217, HB⟩ := hrel
      cases gk with
      | zero => exact absurd HA.out (by simp [impl_Broadcast.l0])
      | succ k2 =>
       have H := HA.out
       clear HA
       simp only [impl_Broadcast.l0] at H
       by_cases c36 : x38_2 < (l0_0.length : Int)
       ·rw [if_pos c36] at H
        have c36b0 : decide (x38_2 < (l0_0.length : Int)) = true := decide_eq_true c36
        clear c36
        replace H := gN H
        obtain ⟨c37, H⟩ := H
        have c37b0 : decide (0 ≤ x38_2) = true := decide_eq_true c37
        clear c37
        replace H := gN H
        obtain ⟨c38, H⟩ := H
        have c38b0 : decide (x38_2 < (l0_0.length : Int)) = true := decide_eq_true c38
        clear c38
        obtain ⟨ji39, hji39⟩ : ∃ j_ : Int, (wrap64 (x38_2 + (wrap64 ((l1.length : Int) - (l0_0.length : Int))))) = j_ := ⟨_, rfl⟩
        replace H : (if 0 ≤ (ji39) then (if (ji39) < (l1.length : Int) then (if (rd l0_0 x38_2) = (rd l1 (ji39)) then (if x38_2 < (l0_1.length : Int) then (if (ji39) < (x218001_2.length : Int) then (impl_Broadcast.l0 k2 l1 (wrap64 ((l1.length : Int) - (l0_0.length : Int))) l0_0 (l0_0.length : Int) (wrap64 (x38_2 + 1)) l0_0 l0_1 a0_2 x218000_2 (x218001_2.set ((ji39) : Int).toNat (rd l0_1 x38_2)) a0_2) else (none)) else (none)) else (if (rd l0_0 x38_2) = 1 then (impl_Broadcast.l0 k2 l1 (wrap64 ((l1.length : Int) - (l0_0.length : Int))) l0_0 (l0_0.length : Int) (wrap64 (x38_2 + 1)) l0_0 l0_1 a0_2 x218000_2 x218001_2 a0_2) else (some (6, ([] : List Int), ([] : List Int), 0)))) else (none)) else (none)) = some (r1, r2, r3, r4) := by first | (rw [hji39] at H; exact H) | (simp only [hji39] at H ⊢; exact H)
        have hji39w : (IntKind.i64.wrap (x38_2 + (wrap64 ((l1.length : Int) - (l0_0.length : Int))))) = ji39 := (i64_w _).trans hji39
        replace H := gN H
        obtain ⟨c40, H⟩ := H
        have c40b0 : decide (0 ≤ (ji39)) = true := decide_eq_true c40
        clear c40
        replace H := gN H
        obtain ⟨c41, H⟩ := H
        have c41b0 : decide ((ji39) < (l1.length : Int)) = true := decide_eq_true c41
        clear c41
        by_cases c42 : (rd l0_0 x38_2) = (rd l1 (ji39))
        ·rw [if_pos c42] at H
         have c42b0 : ((rd l0_0 x38_2) == (rd l1 (ji39))) = true := beq_iff_eq.mpr c42
         have c42b1 : ((rd l0_0 x38_2) != (rd l1 (ji39))) = false := bne_eq_false_iff_eq.mpr c42
         clear c42
         replace H := gN H
         obtain ⟨c43, H⟩ := H
         have c43b0 : decide (x38_2 < (l0_1.length : Int)) = true := decide_eq_true c43
         clear c43
         replace H := gN H
         obtain ⟨c44, H⟩ := H
         have c44b0 : decide ((ji39) < (x218001_2.length : Int)) = true := decide_eq_true c44
         clear c44
         obtain ⟨y221, hy221⟩ : ∃ y_ : List Int, y_ = (x218001_2.set ((ji39) : Int).toNat (rd l0_1 x38_2)) := ⟨_, rfl⟩
         replace H : (impl_Broadcast.l0 k2 l1 (wrap64 ((l1.length : Int) - (l0_0.length : Int))) l0_0 (l0_0.length : Int) (wrap64 (x38_2 + 1)) l0_0 l0_1 a0_2 x218000_2 y221 a0_2) = some (r1, r2, r3, r4) := by first | (rw [hy221]; with_reducible exact H) | (have H2_ := (Option.bind_some _ _).symm.trans H; rw [hy221]; with_reducible exact H2_) | (have H2_ := (Option.bind_some _ _).symm.trans H; with_reducible exact H2_) | with_reducible exact H | (rw [hy221]; exact H) | exact H
         have Ny221 := qS.mk hy221
         clear hy221
         have H' := qS.mk H
         clear H
         obtain ⟨ad218, e218, hx218_0, -, p218, q218⟩ := aI HR0_0 HB x38_2
         cases e218
         obtain ⟨ad219, e219, hx219_0, -, p219, q219⟩ := aI HR1 HB (ji39)
         cases e219
         try go_wp2
         replace HO_218000 := rD HO_218000; replace HO_218001 := rD HO_218001; replace BK207 := bD BK207; replace BK208 := bD BK208; replace BK217 := bD BK217; replace HB := lD HB
         obtain ⟨ad220, e220, hx220_0, hw220_0, p220, q220⟩ := aI HR0_1 HB x38_2
         cases e220
         have p45 : 0 ≤ ((ji39) : Int) := of_decide_eq_true (by assumption)
         have q45 : ((ji39) : Int) < ((x218001_2.length : Int) : Int) := of_decide_eq_true (by assumption)
         obtain ⟨go45, co45, eo45, gb45, gl45, cl45, HG45⟩ := Kd.R_form HO_218001.out (by omega)
         (first | cases eo45 | (injection eo45 with ea_ en_ ec_; (first | subst ea_ | (injection ea_ with ea_; subst ea_)); subst ec_; clear en_))
         have GB45 := qS.mk gb45
         have GG45 := qS.mk HG45
         clear gb45 gl45 HG45
         obtain ⟨hx45_0, hf45_0⟩ := Kd.R_celln 0 HO_218001.out ((ji39) : Int) p45 q45
         replace p45 := eq_true p45
         replace q45 := eq_true q45
         have HP47 := Kd.R_putn HO_218001.out ((ji39) : Int) (rd l0_1 x38_2)
         rw [← Ny221.out] at HP47
         have HQ47 := qS.mk HP47
         clear HP47
         refine start_ (n := 12) (S := fun w' => w'.cell? ⟨gb217, 0, none⟩ = some (u218000) ∧ w'.cell? ⟨gb217, 1, none⟩ = some (.slice (some ⟨go45, 0, none⟩) x218001_2.length co45) ∧ w'.cell? ⟨gb217, 2, none⟩ = some (.int .i64 a0_2) ∧ w'.cell? ⟨gb207, 0, none⟩ = some (.slice (some ad218) l0_0.length c0_0) ∧ w'.cell? ⟨gb207, 1, none⟩ = some (.slice (some ad220) l0_1.length c0_1) ∧ w'.cell? ⟨gb207, 2, none⟩ = some (.int .i64 a0_2) ∧ w'.cell? (ad220.add (x38_2).toNat) = some (.int .i64 (rd l0_1 x38_2))) (ds := [11]) (bs 12 0) (by kernel_rfl) rfl rfl ⟨(qJ BK217.out 0).trans rfl, (qJ BK217.out 1).trans rfl, (qJ BK217.out 2).trans rfl, (qJ BK207.out 0).trans rfl, (qJ BK207.out 1).trans rfl, (qJ BK207.out 2).trans rfl, (cU HB hw220_0)⟩ (fun hHeld => ?_); refine with_tabW impl_Broadcast.tab13 impl_Broadcast.bits13 (fun HT_ HW_ => ?_)
         generalize wr.drew = w46 at HO_218000 HO_218001 BK207 BK208 BK217 HB GG45 HQ47 hf45_0 hx220_0 hx45_0 hHeld ⊢
         refine pS 0 53 (bs 12 1) HT_ ?_
         refine pS 2 55 (bs 12 5) HT_ ?_
         refine pS 3 56 (bs 12 13) HT_ ?_
         refine pS 4 57 (bs 12 29) HT_ ?_
         refine pS 5 58 (bs 12 61) HT_ ?_
         refine pS 7 60 (bs 12 189) HT_ ?_
         refine tS 1 54 (bs 12 191) HT_ HW_ hHeld ?_
         refine tS 6 59 (bs 12 255) HT_ HW_ hHeld ?_
         refine pS 8 61 (bs 12 511) HT_ ?_
         refine tS 9 62 (bs 12 1023) HT_ HW_ hHeld ?_
         refine pS 10 63 (bs 12 2047) HT_ ?_
         refine last_ (i := 11) (N := none) (bs 12 4095) rfl rfl (one_of HT_.out (by kernel_rfl)) (by decide) (fun K hK => ?_)
         refine skip_ (w1 := ?_) (by rfl) rfl ?_ ?_
         rotate_left
         ·go_simp
          rfl
         refine hK.out _ _ ?_
         clear hK K
         refine done_ (done_of HT_.out (by kernel_rfl)) ?_
         try go_wp2
         go_roundg k2
         case measure => have := HJ4.out; have := HK2.out; omega
         case rel => exact ⟨(wrap64 (x38_2 + 1)), (x209000_2), (x209003_2), (x218000_2), (y221), (u218000), (.slice (some ⟨go45, 0, none⟩) x218001_2.length co45), rf, H', ⟨by have := HJ4.out; have := HK2.out; omega⟩, ⟨by (with_reducible repeat (first | apply Kd.qM | apply Kd.qN | apply Kd.qO)); exact Kd.qZ (Kd.R_far (p := ⟨go45, ((ji39) : Int).toNat, none⟩) (Kd.qZ HO_218000.out (fun k_ hk => (⟨hk, fun e_ => hk (by rw [e_]; rfl)⟩ : _ ∧ k_ ≠ go45))) (fun _ hk => hk.2) (.int .i64 (rd l0_1 x38_2))) (fun _ hk => hk.1)⟩, ⟨rS HQ47⟩, ⟨by (with_reducible repeat (first | refine qH ?_ _ | refine qI ?_ | refine qG ?_ _)); refine zN ?_ (by have h_ := Kd.R_ne HO_218001.out BK207.out (by decide); intro e_; exact h_ (by rw [e_]; rfl)) _; (with_reducible repeat (first | refine qH ?_ _ | refine qI ?_ | refine qG ?_ _)); exact BK207.out⟩, ⟨by (with_reducible repeat (first | refine qH ?_ _ | refine qI ?_ | refine qG ?_ _)); refine zN ?_ (by have h_ := Kd.R_ne HO_218001.out BK208.out (by decide); intro e_; exact h_ (by rw [e_]; rfl)) _; (with_reducible repeat (first | refine qH ?_ _ | refine qI ?_ | refine qG ?_ _)); exact BK208.out⟩, ⟨by (with_reducible repeat (first | refine qH ?_ _ | refine qI ?_ | refine qG ?_ _)); refine zN ?_ (by have h_ := Kd.R_ne HO_218001.out BK217.out (by decide); intro e_; exact h_ (by rw [e_]; rfl)) _; (with_reducible repeat (first | refine qH ?_ _ | refine qI ?_ | refine qG ?_ _)); exact BK217.out⟩, ⟨lS HB⟩⟩
        ·rw [if_neg c42] at H
         have c42b0 : ((rd l0_0 x38_2) == (rd l1 (ji39))) = false := beq_eq_false_iff_ne.mpr c42
         have c42b1 : ((rd l0_0 x38_2) != (rd l1 (ji39))) = true := bne_iff_ne.mpr c42
         by_cases c48 : (rd l0_0 x38_2) = 1
         ·rw [if_pos c48] at H
          have c48b0 : ((rd l0_0 x38_2) == 1) = true := beq_iff_eq.mpr c48
          have c48b1 : ((rd l0_0 x38_2) != 1) = false := bne_eq_false_iff_eq.mpr c48
          clear c48
          have H' := qS.mk H
          clear H
          obtain ⟨ad218, e218, hx218_0, -, p218, q218⟩ := aI HR0_0 HB x38_2
          cases e218
          obtain ⟨ad219, e219, hx219_0, -, p219, q219⟩ := aI HR1 HB (ji39)
          cases e219
          go_wp2
          go_roundg k2
          case measure => have := HJ4.out; have := HK2.out; omega
          case rel => exact ⟨(wrap64 (x38_2 + 1)), (x209000_2), (x209003_2), (x218000_2), (x218001_2), (u218000), (u218001), rf, H', ⟨by have := HJ4.out; have := HK2.out; omega⟩, ⟨rS HO_218000⟩, ⟨rS HO_218001⟩, ⟨bS BK207⟩, ⟨bS BK208⟩, ⟨bS BK217⟩, ⟨lS HB⟩⟩
         ·rw [if_neg c48] at H
          have c48b0 : ((rd l0_0 x38_2) == 1) = false := beq_eq_false_iff_ne.mpr c48
          have c48b1 : ((rd l0_0 x38_2) != 1) = true := bne_iff_ne.mpr c48
          simp only [Option.some.injEq, Prod.mk.injEq] at H
          obtain ⟨rfl, rfl, rfl, rfl⟩ := H
          obtain ⟨ad218, e218, hx218_0, -, p218, q218⟩ := aI HR0_0 HB x38_2
          cases e218
          obtain ⟨ad219, e219, hx219_0, -, p219, q219⟩ := aI HR1 HB (ji39)
          cases e219
          have hnb49 := NB208_207.out
          have hnc49 := NB207_208.out
          have hnb50 := NB208_217.out
          have hnc50 := NB217_208.out
          obtain ⟨hcz51_0, hcz51_1, hcz51_2, hcz51_3, hfz51_0, hfz51_1, hfz51_2, hfz51_3⟩ := bx4 BK208
          go_wp2
          refine bodyPost_ret (rC gb208 53 #[.int .i64 6, .slice none 0 0, .slice none 0 0, .int .i64 0] (bQ BK208) Try.underlying53) rfl ?_
          exact ⟨_, _, by first | rfl | (simp [zG, zF] <;> rfl) | (simp only [← hji39]; first | rfl | (simp [zG, zF] <;> rfl)) | (simp [*, zG, zF] <;> rfl), rN, rN, lS HB⟩
       ·rw [if_neg c36] at H
        have c36b0 : decide (x38_2 < (l0_0.length : Int)) = false := decide_eq_false c36
        clear c36
        simp only [Option.some.injEq, Prod.mk.injEq] at H
        obtain ⟨rfl, rfl, rfl, rfl⟩ := H
        have hnb52 := NB217_207.out
        have hnc52 := NB207_217.out
        have hnb53 := NB217_208.out
        have hnc53 := NB208_217.out
        obtain ⟨hcz54_0, hcz54_1, hcz54_2, hfz54_0, hfz54_1, hfz54_2⟩ := bx3 BK217
        obtain ⟨Ao55, co55, eo55⟩ := Kd.qX HO_218001.out
        subst eo55
        obtain ⟨Ao56, co56, eo56⟩ := Kd.qX HO_218000.out
        subst eo56
        have hnb57 := NB208_207.out
        have hnc57 := NB207_208.out
        obtain ⟨hcz58_0, hcz58_1, hcz58_2, hcz58_3, hfz58_0, hfz58_1, hfz58_2, hfz58_3⟩ := bx4 BK208
        go_wp2
        refine bodyPost_ret (rC gb208 53 #[.int .i64 0, .slice Ao56 x218000_2.length co56, .slice Ao55 x218001_2.length co55, .int .i64 a0_2] (bQ BK208) Try.underlying53) rfl ?_
        exact ⟨_, _, rg, rF HO_218000 BK208, rF HO_218001 BK208, lS HB⟩
 ·replace c4 := Bool.eq_false_iff.mpr c4
  subst c4
  rw [if_neg (show ¬ (false = true) by decide)] at H
  simp only [Option.some.injEq, Prod.mk.injEq] at H
  obtain ⟨rfl, rfl, rfl, rfl⟩ := H
  go_enter Try.func55, Try.ntmps55
  go_wp2_with (first | ((with_reducible refine gate_dst (N := 2) rfl ?_); refine bE #[.slice A0_0 l0_0.length c0_0, .slice A0_1 l0_1.length c0_1, .int .i64 a0_2] 32 ?_; intro gb207 hg w59 hbox hb; have BK207 := qS.mk (hbox); have GW207 := mG HB hg; have GE207 := mG HB hg; replace HB := mS HB hb; clear hb hbox hg) | ((with_reducible refine gate_dst (N := 4) rfl ?_); refine bE #[.int .i64 0, .slice none 0 0, .slice none 0 0, .int .i64 0] 53 ?_; intro gb208 hg w60 hbox hb; have BK208 := qS.mk (hbox); have GW208 := mG HB hg; have GE208 := mG HB hg; have NB207_208 := mN BK207 hg; have NB208_207 := mM BK207 hg; replace BK207 := mB BK207 hb; replace HB := mS HB hb; clear hb hbox hg; have hnb61 := NB207_208.out; have hnc61 := NB208_207.out; obtain ⟨hcz62_0, hcz62_1, hcz62_2, hfz62_0, hfz62_1, hfz62_2⟩ := bx3 BK207) | ((with_reducible refine gate_callee (f := 26) rfl ?_); refine gL (some 10) Try.func26 #[.agg #[.slice A0_0 l0_0.length c0_0, .slice A0_1 l0_1.length c0_1, .int .i64 a0_2]] ?_; (with_reducible refine (zI.calls k _ _ l0_0 _ _ l0_1 a0_2 false _ (cS (Kd.qW HR0_0.out HB.out)) HC0_0.out (cS (Kd.qW HR0_1.out HB.out)) HC0_1.out A3.out).mono ?_); rintro e w63 ⟨rfl, hb⟩; refine ⟨_, rfl, ?_⟩; replace BK207 := mB BK207 hb; replace BK208 := mB BK208 hb; replace HB := mS HB hb; (try clear hb); (try clear hb2); (try clear hk); (try clear hi); obtain ⟨hcz64_0, hcz64_1, hcz64_2, hcz64_3, hfz64_0, hfz64_1, hfz64_2, hfz64_3⟩ := bx4 BK208))
  refine bodyPost_ret (rC gb208 53 #[.int .i64 12, .slice none 0 0, .slice none 0 0, .int .i64 0] (bQ BK208) Try.underlying53) rfl ?_
  exact ⟨_, _, rg, rN, rN, lS HB⟩

end Go.Proofs.Ytpmdgmnpkdoamaa.DFnViews
