/- Proved here: what the functions answer that the law on  comes to (the lines were written by a program). Conditions: those that stand ahead in each theorem. -/
import Derived.Test.YtpmdgmnpkdoamaaViWSq
import Derived.Test.YtpmdgmnpkdoamaaViDFnViewsx0
import Derived.Test.YtpmdgmnpkdoamaaViDFnViewsx7
namespace Go.Proofs.Ytpmdgmnpkdoamaa.DFnViews
open Go.RowKit Go.Proofs.YtpmdgmnpkdoamaaW.PrintWords Go.Proofs.YtpmdgmnpkdoamaaW.PrintLast Go.Proofs.YtpmdgmnpkdoamaaW.PrintMore
attribute [local go_sem] max2_int min2_int max_two min_two max_three min_three max_four min_four   -- for this text's walks alone
set_option linter.unusedVariables false
set_option linter.unusedSimpArgs false

def impl_far.f (a0 : Int) : Option (Bool) := if a0 < (-1000000) then (some true) else (some (decide (a0 > 1000000)))
set_option maxHeartbeats 8000000 in
set_option maxRecDepth 100000 in
theorem impl_far.calls (a0 : Int) (r : Bool) (w : World) (h : impl_far.f a0 = some r) :
  Calls Try.prog 102 #[.int .i64 a0] w fun e w' => e = .returned (.bool r) ∧ zA w w' := by
 have H : (if a0 < (-1000000) then (some true) else (some (decide (a0 > 1000000)))) = some r := h
 clear h
 by_cases c2 : a0 < (-1000000)
 ·rw [if_pos c2] at H
  have c2b0 : decide (a0 < (-1000000)) = true := decide_eq_true c2
  clear c2
  obtain rfl := Option.some.inj H
  go_enter Try.func102, Try.ntmps102
  go_wp2
  go_ret
  exact ⟨rf, dn⟩
 ·rw [if_neg c2] at H
  have c2b0 : decide (a0 < (-1000000)) = false := decide_eq_false c2
  clear c2
  obtain rfl := Option.some.inj H
  go_enter Try.func102, Try.ntmps102
  go_wp2
  go_ret
  exact ⟨rf, dn⟩

def impl_end.f (a0 : Int) (a1 : Int) (a2 : Int) (a3 : Int) : Option (Int) := if a0 < 0 then (some (mx (wrap64 (a0 + a1)) a2)) else (some (mn a0 a3))
set_option maxHeartbeats 8000000 in
set_option maxRecDepth 100000 in
theorem impl_end.calls (a0 : Int) (a1 : Int) (a2 : Int) (a3 : Int) (r : Int) (w : World) (h : impl_end.f a0 a1 a2 a3 = some r) :
  Calls Try.prog 103 #[.int .i64 a0, .int .i64 a1, .int .i64 a2, .int .i64 a3] w fun e w' => e = .returned (.int .i64 r) ∧ Below w.heap.size w w' := by
 have HB := qS.mk (Below.refl w.heap.size w)
 have H : (if a0 < 0 then (some (mx (wrap64 (a0 + a1)) a2)) else (some (mn a0 a3))) = some r := h
 clear h
 by_cases c5 : a0 < 0
 ·rw [if_pos c5] at H
  have c5b0 : decide (a0 < 0) = true := decide_eq_true c5
  clear c5
  obtain ⟨ji6, hji6⟩ : ∃ j_ : Int, (mx (wrap64 (a0 + a1)) a2) = j_ := ⟨_, rfl⟩
  replace H : (some ji6) = some r := by first | (rw [hji6] at H; exact H) | (simp only [hji6] at H ⊢; exact H)
  have hji6_ : (if (wrap64 (a0 + a1)) < a2 then a2 else (wrap64 (a0 + a1))) = ji6 := hji6
  obtain rfl := Option.some.inj H
  go_enter Try.func103, Try.ntmps103
  go_wp2
  go_ret
  exact ⟨by first | rfl | (simp [zG, zF] <;> rfl) | (simp only [← hji6]; first | rfl | (simp [zG, zF] <;> rfl)) | (simp [*, zG, zF] <;> rfl), lS HB⟩
 ·rw [if_neg c5] at H
  have c5b0 : decide (a0 < 0) = false := decide_eq_false c5
  clear c5
  obtain ⟨ji7, hji7⟩ : ∃ j_ : Int, (mn a0 a3) = j_ := ⟨_, rfl⟩
  replace H : (some ji7) = some r := by first | (rw [hji7] at H; exact H) | (simp only [hji7] at H ⊢; exact H)
  have hji7_ : (if a3 < a0 then a3 else a0) = ji7 := hji7
  obtain rfl := Option.some.inj H
  go_enter Try.func103, Try.ntmps103
  go_wp2
  go_ret
  exact ⟨by first | rfl | (simp [zG, zF] <;> rfl) | (simp only [← hji7]; first | rfl | (simp [zG, zF] <;> rfl)) | (simp [*, zG, zF] <;> rfl), lS HB⟩

def impl_copyView.f (k : Nat) (l0_0 : List Int) (l0_1 : List Int) (a0_2 : Int) : Option (List Int × List Int × Int) := (slices_Clone_int64_int64.f k l0_0).bind fun t271 => ((slices_Clone_int64_int64.f k l0_1).bind fun t274 => (some (t271, t274, a0_2)))
theorem impl_copyView.mono : ∀ a0 a1 a2 k, LeO (impl_copyView.f k a0 a1 a2) (impl_copyView.f (k + 1) a0 a1 a2) := by
 intro a0 a1 a2 k
 unfold impl_copyView.f
 repeat' first
   | (with_reducible exact slices_Clone_int64_int64.mono _ _)
   | (with_reducible exact LeO.refl _)
   | (with_reducible exact LeO.none _)
   | (with_reducible refine LeO.ite ?_ ?_)
   | (with_reducible refine LeO.bind ?_ (fun _ => ?_))
   | exact slices_Clone_int64_int64.mono _ _
   | exact LeO.none _
   | refine LeO.ite ?_ ?_
   | refine LeO.bind ?_ (fun _ => ?_)
def impl_copyView.T1 : Bool × List (List Nat × List Nat) := (true, [([], []), ([0], [0]), ([1], [1]), ([], []), ([3], [3]), ([4, 2], [4]), ([], []), ([6], [6]), ([2, 5, 7], [2, 5, 7]), ([8, 5, 0, 1, 2, 3, 4, 5, 6, 7, 8], [8])])
def impl_copyView.B1 : List Nat := [0, 1, 3, 0, 8, 31, 0, 64, 255, 511]
theorem impl_copyView.tab1 : rtab .any (opsOf Try.f104 1) = impl_copyView.T1 := by kernel_rfl
theorem impl_copyView.bits1 : waitsOk impl_copyView.T1.2 impl_copyView.B1 = true := by kernel_rfl
set_option maxHeartbeats 8000000 in
set_option maxRecDepth 100000 in
theorem impl_copyView.calls (k : Nat) (A0_0 : Option Addr) (c0_0 : Nat) (l0_0 : List Int) (A0_1 : Option Addr) (c0_1 : Nat) (l0_1 : List Int) (a0_2 : Int) (r1 : List Int) (r2 : List Int) (r3 : Int) (w : World) (hr0_0 : Kd.C (Kd.int .i64) w A0_0 l0_0.length l0_0) (hc0_0 : l0_0.length ≤ c0_0) (hr0_1 : Kd.C (Kd.int .i64) w A0_1 l0_1.length l0_1) (hc0_1 : l0_1.length ≤ c0_1) (h : impl_copyView.f k l0_0 l0_1 a0_2 = some (r1, r2, r3)) :
  Calls Try.prog 104 #[.agg #[.slice A0_0 l0_0.length c0_0, .slice A0_1 l0_1.length c0_1, .int .i64 a0_2]] w fun e w' => ∃ v0_ v1_ : Value, e = .returned (.agg #[v0_, v1_, .int .i64 r3]) ∧ Kd.R (Kd.int .i64) 2 w' w.heap.size (fun k_ => some k_ ≠ (v1_ : Value).ownBlock) v0_ r1 ∧ Kd.R (Kd.int .i64) 2 w' w.heap.size (fun k_ => some k_ ≠ (v0_ : Value).ownBlock) v1_ r2 ∧ Below w.heap.size w w' := by
 have hu32 := Try.underlying32
 have HR0_0 := qS.mk hr0_0
 have HC0_0 := qS.mk hc0_0
 clear hr0_0 hc0_0
 have HR0_1 := qS.mk hr0_1
 have HC0_1 := qS.mk hc0_1
 clear hr0_1 hc0_1
 have HB := qS.mk (Below.refl w.heap.size w)
 have H : ((slices_Clone_int64_int64.f k l0_0).bind fun t271 => ((slices_Clone_int64_int64.f k l0_1).bind fun t274 => (some (t271, t274, a0_2)))) = some (r1, r2, r3) := h
 clear h
 replace H := Option.bind_eq_some_iff.mp H
 obtain ⟨t271, A20, H⟩ := H
 try dsimp only at H
 have A2 := qS.mk A20
 clear A20
 replace H := Option.bind_eq_some_iff.mp H
 obtain ⟨t274, A30, H⟩ := H
 try dsimp only at H
 have A3 := qS.mk A30
 clear A30
 simp only [Option.some.injEq, Prod.mk.injEq] at H
 obtain ⟨rfl, rfl, rfl⟩ := H
 go_enter Try.func104, Try.ntmps104
 try go_wp2_with (first | ((with_reducible refine gate_dst (N := 1) rfl ?_); refine bE #[.slice A0_0 l0_0.length c0_0, .slice A0_1 l0_1.length c0_1, .int .i64 a0_2] 32 ?_; intro gb269 hg w4 hbox hb; have BK269 := qS.mk (hbox); have GW269 := mG HB hg; have GE269 := mG HB hg; replace HB := mS HB hb; clear hb hbox hg) | ((with_reducible refine gate_dst (N := 2) rfl ?_); refine bE #[.slice none 0 0, .slice none 0 0, .int .i64 0] 32 ?_; intro gb270 hg w5 hbox hb; have BK270 := qS.mk (hbox); have GW270 := mG HB hg; have GE270 := mG HB hg; have NB269_270 := mN BK269 hg; have NB270_269 := mM BK269 hg; replace BK269 := mB BK269 hb; replace HB := mS HB hb; clear hb hbox hg))
 replace BK269 := bD BK269; replace BK270 := bD BK270; replace HB := lD HB
 refine start_ (n := 10) (S := fun w' => w'.cell? ⟨gb269, 0, none⟩ = some (.slice A0_0 l0_0.length c0_0) ∧ w'.cell? ⟨gb269, 1, none⟩ = some (.slice A0_1 l0_1.length c0_1) ∧ w'.cell? ⟨gb269, 2, none⟩ = some (.int .i64 a0_2)) (ds := []) (bs 10 0) (by kernel_rfl) rfl rfl ⟨(qJ BK269.out 0).trans rfl, (qJ BK269.out 1).trans rfl, (qJ BK269.out 2).trans rfl⟩ (fun hHeld => ?_); refine with_tabW impl_copyView.tab1 impl_copyView.bits1 (fun HT_ HW_ => ?_)
 generalize w5.drew = w6 at BK269 BK270 HB hHeld ⊢
 refine pS 0 3 (bs 10 1) HT_ ?_
 refine pS 3 6 (bs 10 9) HT_ ?_
 refine pS 6 9 (bs 10 73) HT_ ?_
 refine tS 1 4 (bs 10 75) HT_ HW_ hHeld ?_
 refine tS 4 7 (bs 10 91) HT_ HW_ hHeld ?_
 refine tS 7 10 (bs 10 219) HT_ HW_ hHeld ?_
 refine one_ (i := 2) (N := some 5) (bs 10 223) rfl rfl (one_of HT_.out (by kernel_rfl)) (by decide) (fun K hK => ?_)
 refine goes_ Try.func83 (by kernel_rfl) rfl #[.slice A0_0 l0_0.length c0_0] (by rfl) rfl rfl (by (try simp only [List.map_toArray, List.map_cons, List.map_nil]); first | done | rfl) ?_
 with_reducible refine (slices_Clone_int64_int64.calls k _ _ l0_0 t271 _ ?side1 ?side2 A2.out).mono ?_
 (case side1 => repeat (first | exact (Kd.qW HR0_0.out HB.out) | (with_reducible refine Kd.qP ?_ _) | (with_reducible refine Kd.qQ ?_ _) | (with_reducible refine Kd.qR ?_)))
 (case side2 => exact HC0_0.out)
 rintro e w7 ⟨v272, rfl, ho0, hb⟩
 refine ⟨_, rfl, ?_⟩
 have HO273 := qS.mk (Kd.R_lower ho0 (qF (lS HB))); replace BK269 := mB BK269 hb; replace BK270 := mB BK270 hb; replace HB := mS HB hb
 (try clear hb)
 (try clear ho0)
 refine hK.out _ _ ⟨(qJ BK269.out 0).trans rfl, (qJ BK269.out 1).trans rfl, (qJ BK269.out 2).trans rfl⟩ (fun hHeld => ?_)
 clear hK K
 refine norm_ (a' := ?_) ?_ ?_
 rotate_left
 ·show Act.put _ (some 5) _ = _
  simp only [Act.put, List.setIfInBounds_toArray, List.set_cons_zero, List.set_cons_succ, i64_w, i32_w]
  rfl
 refine one_ (i := 5) (N := some 8) (bs 10 255) rfl rfl (one_of HT_.out (by kernel_rfl)) (by decide) (fun K hK => ?_)
 refine goes_ Try.func83 (by kernel_rfl) rfl #[.slice A0_1 l0_1.length c0_1] (by rfl) rfl rfl (by (try simp only [List.map_toArray, List.map_cons, List.map_nil]); first | done | rfl) ?_
 with_reducible refine (slices_Clone_int64_int64.calls k _ _ l0_1 t274 _ ?side1 ?side2 A3.out).mono ?_
 (case side1 => repeat (first | exact (Kd.qW HR0_1.out HB.out) | (with_reducible refine Kd.qP ?_ _) | (with_reducible refine Kd.qQ ?_ _) | (with_reducible refine Kd.qR ?_)))
 (case side2 => exact HC0_1.out)
 rintro e w8 ⟨v275, rfl, ho0, hb⟩
 refine ⟨_, rfl, ?_⟩
 have HO276 := qS.mk (Kd.R_lower (Kd.R_new' ho0 (Kd.R_lt (rS HO273))) (qF (lS HB))); replace HO273 := qS.mk (Kd.R_elder' (rS HO273) (Kd.R_base ho0) hb); replace BK269 := mB BK269 hb; replace BK270 := mB BK270 hb; replace HB := mS HB hb
 (try clear hb)
 (try clear ho0)
 obtain ⟨Ao9, co9, eo9⟩ := Kd.qX HO276.out
 (first | subst eo9 | (injection eo9 with f1_ f2_ f3_; have f4_ := f1_.symm; have f5_ := f3_.symm; clear f1_ f2_ f3_; subst f4_; subst f5_))
 obtain ⟨Ao10, co10, eo10⟩ := Kd.qX HO273.out
 (first | subst eo10 | (injection eo10 with f1_ f2_ f3_; have f4_ := f1_.symm; have f5_ := f3_.symm; clear f1_ f2_ f3_; subst f4_; subst f5_))
 refine hK.out _ _ ⟨(qJ BK269.out 0).trans rfl, (qJ BK269.out 1).trans rfl, (qJ BK269.out 2).trans rfl⟩ (fun hHeld => ?_)
 clear hK K
 refine norm_ (a' := ?_) ?_ ?_
 rotate_left
 ·show Act.put _ (some 8) _ = _
  simp only [Act.put, List.setIfInBounds_toArray, List.set_cons_zero, List.set_cons_succ, i64_w, i32_w]
  rfl
 refine pS 8 11 (bs 10 511) HT_ ?_
 refine one_ (i := 9) (N := none) (bs 10 1023) rfl rfl (one_of HT_.out (by kernel_rfl)) (by decide) (fun K hK => ?_)
 have hs11 : w8.cell? ⟨gb270, 0, none⟩ = some (.slice none 0 0) := (qJ BK270.out 0).trans rfl
 have hfs11 := qK BK270.out 0
 have hns11_0 := NB269_270.out
 have hms11_0 := NB270_269.out
 have hs12 : w8.cell? ⟨gb270, 1, none⟩ = some (.slice none 0 0) := (qJ BK270.out 1).trans rfl
 have hfs12 := qK BK270.out 1
 have hns12_0 := NB269_270.out
 have hms12_0 := NB270_269.out
 have hs13 : w8.cell? ⟨gb270, 2, none⟩ = some (.int .i64 0) := (qJ BK270.out 2).trans rfl
 have hfs13 := qK BK270.out 2
 have hns13_0 := NB269_270.out
 have hms13_0 := NB270_269.out
 refine skip_ (w1 := ?_) (by rfl) rfl ?_ ?_
 rotate_left
 ·go_simp
  rfl
 refine hK.out _ _ ⟨((cell_far (p := ⟨gb270, _, none⟩) NB269_270.out _).trans (((cell_far (p := ⟨gb270, _, none⟩) NB269_270.out _).trans (((cell_far (p := ⟨gb270, _, none⟩) NB269_270.out _).trans (hHeld.1)))))), ((cell_far (p := ⟨gb270, _, none⟩) NB269_270.out _).trans (((cell_far (p := ⟨gb270, _, none⟩) NB269_270.out _).trans (((cell_far (p := ⟨gb270, _, none⟩) NB269_270.out _).trans (hHeld.2.1)))))), ((cell_far (p := ⟨gb270, _, none⟩) NB269_270.out _).trans (((cell_far (p := ⟨gb270, _, none⟩) NB269_270.out _).trans (((cell_far (p := ⟨gb270, _, none⟩) NB269_270.out _).trans (hHeld.2.2))))))⟩ (fun hHeld => ?_)
 clear hK K
 refine done_ (done_of HT_.out (by kernel_rfl)) ?_
 try go_wp2
 refine bodyPost_ret (rC gb270 32 #[.slice Ao10 t271.length co10, .slice Ao9 t274.length co9, .int .i64 a0_2] (bQ BK270) Try.underlying32) rfl ?_
 exact ⟨_, _, rg, rF HO273 BK270, rF HO276 BK270, lS HB⟩

end Go.Proofs.Ytpmdgmnpkdoamaa.DFnViews
