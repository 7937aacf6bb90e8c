/- Proved here: what the functions answer that the law on  comes to (the lines were written by a program). Conditions: those that stand ahead in each theorem. -/
import Derived.Test.YtpmdgmnpkdoamaaDFnPoolx0
import Derived.Test.YtpmdgmnpkdoamaaDFnPoolx1
namespace Go.Proofs.Ytpmdgmnpkdoamaa.DFnPool
open Go.RowKit Go.Proofs.YtpmdgmnpkdoamaaW.PrintWords Go.Proofs.YtpmdgmnpkdoamaaW.PrintLast Go.Proofs.YtpmdgmnpkdoamaaW.PrintMore
attribute [local go_sem] max2_int min2_int max_two min_two max_three min_three max_four min_four   -- for this text's walks alone
set_option linter.unusedVariables false
set_option linter.unusedSimpArgs false

/-! ### spec_DrawPoolRun: function 56 -/
mutual
def spec_DrawPoolRun.j0 : Nat → Int → List Int → Int → Int → Int → Option (Int × (List (S67)))
  | 0, _, _, _, _, _ => none
  | k + 1, x5, x109000, x109001, x109002, x109003 => (spec_l1Next.f x109000 x109001 x109002 x109003 (wrap64 (8 + (wrap64 (6 * x109003))))).bind fun bt124 => (spec_DrawPoolRun.l0 k x5 (([] : List (S67))) (wrap64 (2 + bt124.1)) x109000 bt124.2.1 bt124.2.2.1 bt124.2.2.2)
def spec_DrawPoolRun.l0 : Nat → Int → List (S67) → Int → List Int → Int → Int → Int → Option (Int × (List (S67)))
  | 0, _, _, _, _, _, _, _ => none
  | k + 1, x5, x6, x7, x109000, x109001, x109002, x109003 => if x7 > 0 then ((spec_l1Next.f x109000 x109001 x109002 x109003 20).bind fun bt128 => ((spec_l1Next.f x109000 bt128.2.1 bt128.2.2.1 bt128.2.2.2 130).bind fun bt132 => (if bt128.1 < 8 then ((spec_l1Next.f x109000 bt132.2.1 bt132.2.2.1 bt132.2.2.2 7).bind fun bt137 => (spec_DrawPoolRun.j2 k x5 x6 x7 bt128.1 x109000 bt137.2.1 bt137.2.2.1 bt137.2.2.2 2 0 bt137.1)) else (spec_DrawPoolRun.j2 k x5 x6 x7 bt128.1 x109000 bt132.2.1 bt132.2.2.1 bt132.2.2.2 1 bt132.1 0)))) else ((spec_l1Next.f x109000 x109001 x109002 x109003 60).bind fun bt161 => (if bt161.1 = 0 then ((spec_l1Next.f x109000 bt161.2.1 bt161.2.2.1 bt161.2.2.2 2).bind fun bt165 => (spec_DrawPoolRun.l1 k x5 x6 (wrap64 (2000 + bt165.1)))) else (some (x5, x6))))
def spec_DrawPoolRun.j2 : Nat → Int → List (S67) → Int → Int → List Int → Int → Int → Int → Int → Int → Int → Option (Int × (List (S67)))
  | 0, _, _, _, _, _, _, _, _, _, _, _ => none
  | k + 1, x5, x6, x7, x8, x109000, x109001, x109002, x109003, x137000, x137001, x137002 => if x8 = 8 then ((spec_l1Next.f x109000 x109001 x109002 x109003 2).bind fun bt141 => (spec_DrawPoolRun.j3 k x5 x6 x7 x8 x109000 bt141.2.1 bt141.2.2.1 bt141.2.2.2 x137000 (wrap64 (65536 + bt141.1)) x137002)) else (spec_DrawPoolRun.j3 k x5 x6 x7 x8 x109000 x109001 x109002 x109003 x137000 x137001 x137002)
def spec_DrawPoolRun.j3 : Nat → Int → List (S67) → Int → Int → List Int → Int → Int → Int → Int → Int → Int → Option (Int × (List (S67)))
  | 0, _, _, _, _, _, _, _, _, _, _, _ => none
  | k + 1, x5, x6, x7, x8, x109000, x109001, x109002, x109003, x137000, x137001, x137002 => if x8 = 9 then ((spec_l1Next.f x109000 x109001 x109002 x109003 2).bind fun bt145 => (if x8 = 10 then (if x6.length < 5864062014805 then (spec_DrawPoolRun.l0 k x5 (x6 ++ [(⟨wrap64 (bt145.1 * 3), (-1), x137002⟩ : S67)]) (wrap64 (x7 - 1)) x109000 bt145.2.1 bt145.2.2.1 bt145.2.2.2) else (none)) else (if x6.length < 5864062014805 then (spec_DrawPoolRun.l0 k x5 (x6 ++ [(⟨wrap64 (bt145.1 * 3), x137001, x137002⟩ : S67)]) (wrap64 (x7 - 1)) x109000 bt145.2.1 bt145.2.2.1 bt145.2.2.2) else (none)))) else (if x8 = 10 then (if x6.length < 5864062014805 then (spec_DrawPoolRun.l0 k x5 (x6 ++ [(⟨x137000, (-1), x137002⟩ : S67)]) (wrap64 (x7 - 1)) x109000 x109001 x109002 x109003) else (none)) else (if x6.length < 5864062014805 then (spec_DrawPoolRun.l0 k x5 (x6 ++ [(⟨x137000, x137001, x137002⟩ : S67)]) (wrap64 (x7 - 1)) x109000 x109001 x109002 x109003) else (none)))
def spec_DrawPoolRun.l1 : Nat → Int → List (S67) → Int → Option (Int × (List (S67)))
  | 0, _, _, _ => none
  | k + 1, x5, x6, x10 => if (x6.length : Int) < x10 then (if x6.length < 5864062014805 then (spec_DrawPoolRun.l1 k x5 (x6 ++ [(⟨2, 0, (x6.length : Int) % 5⟩ : S67)]) x10) else (none)) else (some (x5, x6))
end
def spec_DrawPoolRun.f (k : Nat) (l0 : List Int) : Option (Int × (List (S67))) := (spec_l1Source.f k l0).bind fun bt104 => ((spec_l1Next.f bt104.1 bt104.2.1 bt104.2.2.1 bt104.2.2.2 60).bind fun bt109 => ((spec_l1Next.f bt104.1 bt109.2.1 bt109.2.2.1 bt109.2.2.2 16).bind fun bt113 => (if bt113.1 = 0 then ((spec_l1Next.f bt104.1 bt113.2.1 bt113.2.2.1 bt113.2.2.2 2).bind fun bt117 => (spec_DrawPoolRun.j0 k (wrap64 ((wrap64 (bt117.1 * 9223372036854775807)) - 1)) bt104.1 bt117.2.1 bt117.2.2.1 bt117.2.2.2)) else (spec_DrawPoolRun.j0 k (wrap64 (100 + (wrap64 (bt109.1 * 16)))) bt104.1 bt113.2.1 bt113.2.2.1 bt113.2.2.2))))
theorem spec_DrawPoolRun.mono_l : ∀ k, (∀ y0 y1 y2 y3 y4, LeO (spec_DrawPoolRun.j0 k y0 y1 y2 y3 y4) (spec_DrawPoolRun.j0 (k + 1) y0 y1 y2 y3 y4)) ∧ (∀ y0 y1 y2 y3 y4 y5 y6, LeO (spec_DrawPoolRun.l0 k y0 y1 y2 y3 y4 y5 y6) (spec_DrawPoolRun.l0 (k + 1) y0 y1 y2 y3 y4 y5 y6)) ∧ (∀ y0 y1 y2 y3 y4 y5 y6 y7 y8 y9 y10, LeO (spec_DrawPoolRun.j2 k y0 y1 y2 y3 y4 y5 y6 y7 y8 y9 y10) (spec_DrawPoolRun.j2 (k + 1) y0 y1 y2 y3 y4 y5 y6 y7 y8 y9 y10)) ∧ (∀ y0 y1 y2 y3 y4 y5 y6 y7 y8 y9 y10, LeO (spec_DrawPoolRun.j3 k y0 y1 y2 y3 y4 y5 y6 y7 y8 y9 y10) (spec_DrawPoolRun.j3 (k + 1) y0 y1 y2 y3 y4 y5 y6 y7 y8 y9 y10)) ∧ (∀ y0 y1 y2, LeO (spec_DrawPoolRun.l1 k y0 y1 y2) (spec_DrawPoolRun.l1 (k + 1) y0 y1 y2))
  | 0 => ⟨fun _ _ _ _ _ r h => by simp [spec_DrawPoolRun.j0] at h, fun _ _ _ _ _ _ _ r h => by simp [spec_DrawPoolRun.l0] at h, fun _ _ _ _ _ _ _ _ _ _ _ r h => by simp [spec_DrawPoolRun.j2] at h, fun _ _ _ _ _ _ _ _ _ _ _ r h => by simp [spec_DrawPoolRun.j3] at h, fun _ _ _ r h => by simp [spec_DrawPoolRun.l1] at h⟩
  | k + 1 => by
    obtain ⟨ih0, ih1, ih2, ih3, ih4⟩ := spec_DrawPoolRun.mono_l k
    refine ⟨?_, ?_, ?_, ?_, ?_⟩
    · intro y0 y1 y2 y3 y4
      unfold spec_DrawPoolRun.j0
      repeat' first
      | (with_reducible exact ih0 _ _ _ _ _)
      | (with_reducible exact ih1 _ _ _ _ _ _ _)
      | (with_reducible exact ih2 _ _ _ _ _ _ _ _ _ _ _)
      | (with_reducible exact ih3 _ _ _ _ _ _ _ _ _ _ _)
      | (with_reducible exact ih4 _ _ _)
      | (with_reducible exact spec_l1Source.mono _ _)
      | (with_reducible exact LeO.refl _)
      | (with_reducible exact LeO.none _)
      | (with_reducible refine LeO.ite ?_ ?_)
      | (with_reducible refine LeO.bind ?_ (fun _ => ?_))
      | exact ih0 _ _ _ _ _
      | exact ih1 _ _ _ _ _ _ _
      | exact ih2 _ _ _ _ _ _ _ _ _ _ _
      | exact ih3 _ _ _ _ _ _ _ _ _ _ _
      | exact ih4 _ _ _
      | exact spec_l1Source.mono _ _
      | exact LeO.none _
      | refine LeO.ite ?_ ?_
      | refine LeO.bind ?_ (fun _ => ?_)
    · intro y0 y1 y2 y3 y4 y5 y6
      unfold spec_DrawPoolRun.l0
      repeat' first
      | (with_reducible exact ih0 _ _ _ _ _)
      | (with_reducible exact ih1 _ _ _ _ _ _ _)
      | (with_reducible exact ih2 _ _ _ _ _ _ _ _ _ _ _)
      | (with_reducible exact ih3 _ _ _ _ _ _ _ _ _ _ _)
      | (with_reducible exact ih4 _ _ _)
      | (with_reducible exact spec_l1Source.mono _ _)
      | (with_reducible exact LeO.refl _)
      | (with_reducible exact LeO.none _)
      | (with_reducible refine LeO.ite ?_ ?_)
      | (with_reducible refine LeO.bind ?_ (fun _ => ?_))
      | exact ih0 _ _ _ _ _
      | exact ih1 _ _ _ _ _ _ _
      | exact ih2 _ _ _ _ _ _ _ _ _ _ _
      | exact ih3 _ _ _ _ _ _ _ _ _ _ _
      | exact ih4 _ _ _
      | exact spec_l1Source.mono _ _
      | exact LeO.none _
      | refine LeO.ite ?_ ?_
      | refine LeO.bind ?_ (fun _ => ?_)
    · intro y0 y1 y2 y3 y4 y5 y6 y7 y8 y9 y10
      unfold spec_DrawPoolRun.j2
      repeat' first
      | (with_reducible exact ih0 _ _ _ _ _)
      | (with_reducible exact ih1 _ _ _ _ _ _ _)
      | (with_reducible exact ih2 _ _ _ _ _ _ _ _ _ _ _)
      | (with_reducible exact ih3 _ _ _ _ _ _ _ _ _ _ _)
      | (with_reducible exact ih4 _ _ _)
      | (with_reducible exact spec_l1Source.mono _ _)
      | (with_reducible exact LeO.refl _)
      | (with_reducible exact LeO.none _)
      | (with_reducible refine LeO.ite ?_ ?_)
      | (with_reducible refine LeO.bind ?_ (fun _ => ?_))
      | exact ih0 _ _ _ _ _
      | exact ih1 _ _ _ _ _ _ _
      | exact ih2 _ _ _ _ _ _ _ _ _ _ _
      | exact ih3 _ _ _ _ _ _ _ _ _ _ _
      | exact ih4 _ _ _
      | exact spec_l1Source.mono _ _
      | exact LeO.none _
      | refine LeO.ite ?_ ?_
      | refine LeO.bind ?_ (fun _ => ?_)
    · intro y0 y1 y2 y3 y4 y5 y6 y7 y8 y9 y10
      unfold spec_DrawPoolRun.j3
      repeat' first
      | (with_reducible exact ih0 _ _ _ _ _)
      | (with_reducible exact ih1 _ _ _ _ _ _ _)
      | (with_reducible exact ih2 _ _ _ _ _ _ _ _ _ _ _)
      | (with_reducible exact ih3 _ _ _ _ _ _ _ _ _ _ _)
      | (with_reducible exact ih4 _ _ _)
      | (with_reducible exact spec_l1Source.mono _ _)
      | (with_reducible exact LeO.refl _)
      | (with_reducible exact LeO.none _)
      | (with_reducible refine LeO.ite ?_ ?_)
      | (with_reducible refine LeO.bind ?_ (fun _ => ?_))
      | exact ih0 _ _ _ _ _
      | exact ih1 _ _ _ _ _ _ _
      | exact ih2 _ _ _ _ _ _ _ _ _ _ _
      | exact ih3 _ _ _ _ _ _ _ _ _ _ _
      | exact ih4 _ _ _
      | exact spec_l1Source.mono _ _
      | exact LeO.none _
      | refine LeO.ite ?_ ?_
      | refine LeO.bind ?_ (fun _ => ?_)
    · intro y0 y1 y2
      unfold spec_DrawPoolRun.l1
      repeat' first
      | (with_reducible exact ih0 _ _ _ _ _)
      | (with_reducible exact ih1 _ _ _ _ _ _ _)
      | (with_reducible exact ih2 _ _ _ _ _ _ _ _ _ _ _)
      | (with_reducible exact ih3 _ _ _ _ _ _ _ _ _ _ _)
      | (with_reducible exact ih4 _ _ _)
      | (with_reducible exact spec_l1Source.mono _ _)
      | (with_reducible exact LeO.refl _)
      | (with_reducible exact LeO.none _)
      | (with_reducible refine LeO.ite ?_ ?_)
      | (with_reducible refine LeO.bind ?_ (fun _ => ?_))
      | exact ih0 _ _ _ _ _
      | exact ih1 _ _ _ _ _ _ _
      | exact ih2 _ _ _ _ _ _ _ _ _ _ _
      | exact ih3 _ _ _ _ _ _ _ _ _ _ _
      | exact ih4 _ _ _
      | exact spec_l1Source.mono _ _
      | exact LeO.none _
      | refine LeO.ite ?_ ?_
      | refine LeO.bind ?_ (fun _ => ?_)
theorem spec_DrawPoolRun.mono : ∀ a0 k, LeO (spec_DrawPoolRun.f k a0) (spec_DrawPoolRun.f (k + 1) a0) := by
  intro a0 k
  obtain ⟨ih0, ih1, ih2, ih3, ih4⟩ := spec_DrawPoolRun.mono_l k
  unfold spec_DrawPoolRun.f
  repeat' first
      | (with_reducible exact ih0 _ _ _ _ _)
      | (with_reducible exact ih1 _ _ _ _ _ _ _)
      | (with_reducible exact ih2 _ _ _ _ _ _ _ _ _ _ _)
      | (with_reducible exact ih3 _ _ _ _ _ _ _ _ _ _ _)
      | (with_reducible exact ih4 _ _ _)
      | (with_reducible exact spec_l1Source.mono _ _)
      | (with_reducible exact LeO.refl _)
      | (with_reducible exact LeO.none _)
      | (with_reducible refine LeO.ite ?_ ?_)
      | (with_reducible refine LeO.bind ?_ (fun _ => ?_))
      | exact ih0 _ _ _ _ _
      | exact ih1 _ _ _ _ _ _ _
      | exact ih2 _ _ _ _ _ _ _ _ _ _ _
      | exact ih3 _ _ _ _ _ _ _ _ _ _ _
      | exact ih4 _ _ _
      | exact spec_l1Source.mono _ _
      | exact LeO.none _
      | refine LeO.ite ?_ ?_
      | refine LeO.bind ?_ (fun _ => ?_)
set_option maxHeartbeats 8000000 in
set_option maxRecDepth 100000 in
theorem spec_DrawPoolRun.calls (k : Nat) (A0 : Option Addr) (c0 : Nat) (l0 : List Int) (r1 : Int) (r2 : List (S67)) (w : World) (hr0 : Kd.C (Kd.int .u8) w A0 l0.length l0) (hc0 : l0.length ≤ c0) (h : spec_DrawPoolRun.f k l0 = some (r1, r2)) :
    Calls Try.prog 56 #[.slice A0 l0.length c0] w fun e w' => ∃ v1_ : Value, e = .returned (.tuple #[.int .i64 r1, v1_]) ∧ Kd.R k67 67 w' w.heap.size (fun _ => True) v1_ r2 ∧ Below w.heap.size w w' := by
  have hu67 := Try.underlying67
  have HR0 := Aside0.mk hr0
  have HC0 := Aside0.mk hc0
  clear hr0 hc0
  have HB := Aside0.mk (Below.refl w.heap.size w)
  have H : ((spec_l1Source.f k l0).bind fun bt104 => ((spec_l1Next.f bt104.1 bt104.2.1 bt104.2.2.1 bt104.2.2.2 60).bind fun bt109 => ((spec_l1Next.f bt104.1 bt109.2.1 bt109.2.2.1 bt109.2.2.2 16).bind fun bt113 => (if bt113.1 = 0 then ((spec_l1Next.f bt104.1 bt113.2.1 bt113.2.2.1 bt113.2.2.2 2).bind fun bt117 => (spec_DrawPoolRun.j0 k (wrap64 ((wrap64 (bt117.1 * 9223372036854775807)) - 1)) bt104.1 bt117.2.1 bt117.2.2.1 bt117.2.2.2)) else (spec_DrawPoolRun.j0 k (wrap64 (100 + (wrap64 (bt109.1 * 16)))) bt104.1 bt113.2.1 bt113.2.2.1 bt113.2.2.2))))) = some (r1, r2) := h
  clear h
  replace H := Option.bind_eq_some_iff.mp H
  obtain ⟨⟨t104, t105, t106, t107⟩, A20, H⟩ := H
  replace H : ((spec_l1Next.f t104 t105 t106 t107 60).bind fun bt109 => ((spec_l1Next.f t104 bt109.2.1 bt109.2.2.1 bt109.2.2.2 16).bind fun bt113 => (if bt113.1 = 0 then ((spec_l1Next.f t104 bt113.2.1 bt113.2.2.1 bt113.2.2.2 2).bind fun bt117 => (spec_DrawPoolRun.j0 k (wrap64 ((wrap64 (bt117.1 * 9223372036854775807)) - 1)) t104 bt117.2.1 bt117.2.2.1 bt117.2.2.2)) else (spec_DrawPoolRun.j0 k (wrap64 (100 + (wrap64 (bt109.1 * 16)))) t104 bt113.2.1 bt113.2.2.1 bt113.2.2.2)))) = some (r1, r2) := H
  have A2 := Aside0.mk A20
  clear A20
  replace H := Option.bind_eq_some_iff.mp H
  obtain ⟨⟨t109, t110, t111, t112⟩, A30, H⟩ := H
  replace H : ((spec_l1Next.f t104 t110 t111 t112 16).bind fun bt113 => (if bt113.1 = 0 then ((spec_l1Next.f t104 bt113.2.1 bt113.2.2.1 bt113.2.2.2 2).bind fun bt117 => (spec_DrawPoolRun.j0 k (wrap64 ((wrap64 (bt117.1 * 9223372036854775807)) - 1)) t104 bt117.2.1 bt117.2.2.1 bt117.2.2.2)) else (spec_DrawPoolRun.j0 k (wrap64 (100 + (wrap64 (t109 * 16)))) t104 bt113.2.1 bt113.2.2.1 bt113.2.2.2))) = some (r1, r2) := H
  have A3 := Aside0.mk A30
  clear A30
  replace H := Option.bind_eq_some_iff.mp H
  obtain ⟨⟨t113, t114, t115, t116⟩, A40, H⟩ := H
  replace H : (if t113 = 0 then ((spec_l1Next.f t104 t114 t115 t116 2).bind fun bt117 => (spec_DrawPoolRun.j0 k (wrap64 ((wrap64 (bt117.1 * 9223372036854775807)) - 1)) t104 bt117.2.1 bt117.2.2.1 bt117.2.2.2)) else (spec_DrawPoolRun.j0 k (wrap64 (100 + (wrap64 (t109 * 16)))) t104 t114 t115 t116)) = some (r1, r2) := H
  have A4 := Aside0.mk A40
  clear A40
  have HC5 := Aside0.mk H
  clear H
  go_enter Try.func56, Try.ntmps56
  go_upto_if 19 with (first | ((with_reducible refine gate_callee (f := 93) rfl ?_); refine goesL_ (some 12) rfl rfl Try.func93 (by kernel_rfl) rfl #[.slice A0 l0.length c0] rfl (by (try simp only [List.map_toArray, List.map_cons, List.map_nil]); first | done | rfl | (simp only [List.length_drop, List.length_take]; rfl)) ?_; (with_reducible refine (spec_l1Source.calls k _ _ l0 t104 t105 t106 t107 w _ ?side1 ?side2 ?side3 A2.out).mono ?_); (case side1 => repeat (first | (with_reducible first | exact HB.out | apply below_alloc | apply pw_below_drewN | apply below_drew1) | exact HB.out)); (case side2 => exact HR0.out); (case side3 => exact HC0.out); rintro e w6 ⟨c_, g108, rfl, hi, hb, hb2⟩; refine ⟨_, rfl, ?_⟩; have n0_ := Aside0.mk (hb); have n1_ := Aside0.mk (hi); clear HB; have HB := n0_; have HI108 := n1_; clear n0_ n1_; (try clear hb); (try clear hb2); (try clear hk); (try clear hi)) | ((with_reducible refine gate_callee (f := 94) rfl ?_); refine goesL_ (some 14) rfl rfl Try.func94 (by kernel_rfl) rfl #[.pointer (some ⟨g108, 0, none⟩), .int .i64 60] rfl (by (try simp only [List.map_toArray, List.map_cons, List.map_nil]); first | done | rfl | (simp only [List.length_drop, List.length_take]; rfl)) ?_; (with_reducible refine (spec_l1Next.calls c_ g108 t104 t105 t106 t107 60 t109 t110 t111 t112 w _ ?side1 ?side2 A3.out).mono ?_); (case side1 => repeat (first | (with_reducible first | exact HI108.out | apply IsS113.alloc | apply IsS113.drewN | apply IsS113.drew | apply IsS113.set_1 | apply IsS113.set_2 | apply IsS113.set_3) | exact HI108.out)); (case side2 => repeat (first | (with_reducible first | exact HB.out | apply below_alloc | apply pw_below_drewN | apply below_drew1 | refine below_set ?_ (IsS113.ge HI108.out)) | exact HB.out)); rintro e w7 ⟨rfl, hi, hb, hk⟩; refine ⟨_, rfl, ?_⟩; have n0_ := Aside0.mk (hb); have n1_ := Aside0.mk (hi); clear HB; clear HI108; have HB := n0_; have HI108 := n1_; clear n0_ n1_; (try clear hb); (try clear hb2); (try clear hk); (try clear hi)) | ((with_reducible refine gate_callee (f := 94) rfl ?_); refine goesL_ (some 18) rfl rfl Try.func94 (by kernel_rfl) rfl #[.pointer (some ⟨g108, 0, none⟩), .int .i64 16] rfl (by (try simp only [List.map_toArray, List.map_cons, List.map_nil]); first | done | rfl | (simp only [List.length_drop, List.length_take]; rfl)) ?_; (with_reducible refine (spec_l1Next.calls c_ g108 t104 t110 t111 t112 16 t113 t114 t115 t116 w _ ?side1 ?side2 A4.out).mono ?_); (case side1 => repeat (first | (with_reducible first | exact HI108.out | apply IsS113.alloc | apply IsS113.drewN | apply IsS113.drew | apply IsS113.set_1 | apply IsS113.set_2 | apply IsS113.set_3) | exact HI108.out)); (case side2 => repeat (first | (with_reducible first | exact HB.out | apply below_alloc | apply pw_below_drewN | apply below_drew1 | refine below_set ?_ (IsS113.ge HI108.out)) | exact HB.out)); rintro e w8 ⟨rfl, hi, hb, hk⟩; refine ⟨_, rfl, ?_⟩; have n0_ := Aside0.mk (hb); have n1_ := Aside0.mk (hi); clear HB; clear HI108; have HB := n0_; have HI108 := n1_; clear n0_ n1_; (try clear hb); (try clear hb2); (try clear hk); (try clear hi)))
  (try simp only [Act.put, List.setIfInBounds_toArray, List.set_cons_zero, List.set_cons_succ])
  go_cut [5] (fun v5 wc => ∃ (kq : Nat) (x5_4 : Int) (x109001_4 : Int) (x109002_4 : Int) (x109003_4 : Int), v5 = .int .i64 x5_4 ∧ Aside0 (spec_DrawPoolRun.j0 kq x5_4 t104 x109001_4 x109002_4 x109003_4 = some (r1, r2)) ∧ Aside0 (kq ≤ k) ∧ Aside0 (IsS113 c_ w wc g108 t104 x109001_4 x109002_4 x109003_4) ∧ Aside0 (Below w.heap.size w wc))
  case first =>
    have H := HC5.out
    clear HC5
    by_cases c9 : t113 = 0
    · rw [if_pos c9] at H
      have c9b0 : (t113 == 0) = true := beq_iff_eq.mpr c9
      have c9b1 : (t113 != 0) = false := bne_eq_false_iff_eq.mpr c9
      clear c9
      (first | rw [c9b0] | (simp only [i64_w, i32_w]; rw [c9b0]) | skip)
      replace H := Option.bind_eq_some_iff.mp H
      obtain ⟨⟨t117, t118, t119, t120⟩, A100, H⟩ := H
      replace H : (spec_DrawPoolRun.j0 k (wrap64 ((wrap64 (t117 * 9223372036854775807)) - 1)) t104 t118 t119 t120) = some (r1, r2) := H
      have A10 := Aside0.mk A100
      clear A100
      have H' := Aside0.mk H
      clear H
      go_wp2_with (first | ((with_reducible refine gate_callee (f := 94) rfl ?_); refine goesL_ (some 21) rfl rfl Try.func94 (by kernel_rfl) rfl #[.pointer (some ⟨g108, 0, none⟩), .int .i64 2] rfl (by (try simp only [List.map_toArray, List.map_cons, List.map_nil]); first | done | rfl | (simp only [List.length_drop, List.length_take]; rfl)) ?_; (with_reducible refine (spec_l1Next.calls c_ g108 t104 t114 t115 t116 2 t117 t118 t119 t120 w _ ?side1 ?side2 A10.out).mono ?_); (case side1 => repeat (first | (with_reducible first | exact HI108.out | apply IsS113.alloc | apply IsS113.drewN | apply IsS113.drew | apply IsS113.set_1 | apply IsS113.set_2 | apply IsS113.set_3) | exact HI108.out)); (case side2 => repeat (first | (with_reducible first | exact HB.out | apply below_alloc | apply pw_below_drewN | apply below_drew1 | refine below_set ?_ (IsS113.ge HI108.out)) | exact HB.out)); rintro e w11 ⟨rfl, hi, hb, hk⟩; refine ⟨_, rfl, ?_⟩; have n0_ := Aside0.mk (hb); have n1_ := Aside0.mk (hi); clear HB; clear HI108; have HB := n0_; have HI108 := n1_; clear n0_ n1_; (try clear hb); (try clear hb2); (try clear hk); (try clear hi)))
      go_meet
      case rel => exact ⟨_, (wrap64 ((wrap64 (t117 * 9223372036854775807)) - 1)), (t118), (t119), (t120), (by first | rfl | (simp; done) | (simp [*]; done)), H', ⟨by first | omega | exact Nat.le_refl _⟩, ⟨by repeat (first | (with_reducible first | exact HI108.out | apply IsS113.alloc | apply IsS113.drewN | apply IsS113.drew | apply IsS113.set_1 | apply IsS113.set_2 | apply IsS113.set_3) | exact HI108.out)⟩, ⟨by repeat (first | (with_reducible first | exact HB.out | apply below_alloc | apply pw_below_drewN | apply below_drew1 | refine below_set ?_ (IsS113.ge HI108.out)) | exact HB.out)⟩⟩
    · rw [if_neg c9] at H
      have c9b0 : (t113 == 0) = false := beq_eq_false_iff_ne.mpr c9
      have c9b1 : (t113 != 0) = true := bne_iff_ne.mpr c9
      (first | rw [c9b0] | (simp only [i64_w, i32_w]; rw [c9b0]) | skip)
      have H' := Aside0.mk H
      clear H
      go_wp2
      go_meet
      case rel => exact ⟨_, (wrap64 (100 + (wrap64 (t109 * 16)))), (t114), (t115), (t116), (by first | rfl | (simp; done) | (simp [*]; done)), H', ⟨by first | omega | exact Nat.le_refl _⟩, ⟨by repeat (first | (with_reducible first | exact HI108.out | apply IsS113.alloc | apply IsS113.drewN | apply IsS113.drew | apply IsS113.set_1 | apply IsS113.set_2 | apply IsS113.set_3) | exact HI108.out)⟩, ⟨by repeat (first | (with_reducible first | exact HB.out | apply below_alloc | apply pw_below_drewN | apply below_drew1 | refine below_set ?_ (IsS113.ge HI108.out)) | exact HB.out)⟩⟩
  case rest =>
    clear HC5
    try clear p2
    try clear c5
    try clear p6
    try clear c9
    try clear c9b0
    try clear c9b1
    obtain ⟨kq, x5_4, x109001_4, x109002_4, x109003_4, rfl, HA, HJ4, HI108, HB⟩ := hcut
    cases kq with
    | zero => exact absurd HA.out (by simp [spec_DrawPoolRun.j0])
    | succ kj4 =>
      have H := HA.out
      clear HA
      simp only [spec_DrawPoolRun.j0] at H
      obtain ⟨y121, hy121⟩ : ∃ y_ : List (S67), y_ = (([] : List (S67))) := ⟨_, rfl⟩
      replace H : ((spec_l1Next.f t104 x109001_4 x109002_4 x109003_4 (wrap64 (8 + (wrap64 (6 * x109003_4))))).bind fun bt124 => (spec_DrawPoolRun.l0 kj4 x5_4 y121 (wrap64 (2 + bt124.1)) t104 bt124.2.1 bt124.2.2.1 bt124.2.2.2)) = some (r1, r2) := by first | (rw [hy121]; with_reducible exact H) | (have H2_ := (Option.bind_some _ _).symm.trans H; rw [hy121]; with_reducible exact H2_) | (have H2_ := (Option.bind_some _ _).symm.trans H; with_reducible exact H2_) | with_reducible exact H | (rw [hy121]; exact H) | exact H
      have Ny121 := Aside0.mk hy121
      clear hy121
      replace H := Option.bind_eq_some_iff.mp H
      obtain ⟨⟨t124, t125, t126, t127⟩, A120, H⟩ := H
      replace H : (spec_DrawPoolRun.l0 kj4 x5_4 y121 (wrap64 (2 + t124)) t104 t125 t126 t127) = some (r1, r2) := H
      have A12 := Aside0.mk A120
      clear A120
      have H' := Aside0.mk H
      clear H
      go_wp2_with (first | ((with_reducible refine gate_dst (N := 24) rfl ?_); refine Kd.R_lit k67 _ 67 ?hg (N := 24) ?hd (xs := ([] : List (S67))) (inner := []) (ok := fun _ => True) (okp := fun _ => True) ?hr ?hp (fun _ hk => hk) trivial (Below.refl _ _) (Nat.le_refl _) (by simp) ?_; (case hd => rfl); (case hg => rfl); (case hr => first | (go_simp; done) | (go_simp; rfl)); (case hp => exact (Reps.none _ _)); intro v122 w13 ho14 hb hg_ hnew_; clear hg_ hnew_; (first | rw [← Ny121.out] at ho14 | (simp only [Int.reduceToNat] at ho14; rw [← Ny121.out] at ho14)); have n0_ := Aside0.mk (Kd.R_lower ho14 (below_size (by repeat (first | (with_reducible first | exact HB.out | apply below_alloc | apply pw_below_drewN | apply below_drew1 | refine below_set ?_ (IsS113.ge HI108.out)) | exact HB.out)))); have n1_ := Aside0.mk (IsS113.below (by repeat (first | (with_reducible first | exact HI108.out | apply IsS113.alloc | apply IsS113.drewN | apply IsS113.drew | apply IsS113.set_1 | apply IsS113.set_2 | apply IsS113.set_3) | exact HI108.out)) hb); have n2_ := Aside0.mk (below_step (by repeat (first | (with_reducible first | exact HB.out | apply below_alloc | apply pw_below_drewN | apply below_drew1 | refine below_set ?_ (IsS113.ge HI108.out)) | exact HB.out)) hb); clear HI108; clear HB; have HO123 := n0_; have HI108 := n1_; have HB := n2_; clear n0_ n1_ n2_; clear hb ho14; obtain ⟨ASz15_0, cSz15_0, HGz15, hgz15, HSz15_0⟩ := HI108.out; have hcz15_0 := cellS113_0 HGz15; have hcz15_1 := cellS113_1 HGz15; have hcz15_2 := cellS113_2 HGz15; have hcz15_3 := cellS113_3 HGz15; have hfz15_1 := blk_frozen HGz15 1; have hfz15_2 := blk_frozen HGz15 2; have hfz15_3 := blk_frozen HGz15 3; clear HGz15 hgz15) | ((with_reducible refine gate_callee (f := 94) rfl ?_); refine goesL_ (some 32) rfl rfl Try.func94 (by kernel_rfl) rfl #[.pointer (some ⟨g108, 0, none⟩), .int .i64 (wrap64 (8 + (wrap64 (6 * x109003_4))))] rfl (by (try simp only [List.map_toArray, List.map_cons, List.map_nil]); first | done | rfl | (simp only [List.length_drop, List.length_take]; rfl)) ?_; (with_reducible refine (spec_l1Next.calls c_ g108 t104 x109001_4 x109002_4 x109003_4 (wrap64 (8 + (wrap64 (6 * x109003_4)))) t124 t125 t126 t127 w _ ?side1 ?side2 A12.out).mono ?_); (case side1 => repeat (first | (with_reducible first | exact HI108.out | apply IsS113.alloc | apply IsS113.drewN | apply IsS113.drew | apply IsS113.set_1 | apply IsS113.set_2 | apply IsS113.set_3) | exact HI108.out)); (case side2 => repeat (first | (with_reducible first | exact HB.out | apply below_alloc | apply pw_below_drewN | apply below_drew1 | refine below_set ?_ (IsS113.ge HI108.out)) | exact HB.out)); rintro e w16 ⟨rfl, hi, hb, hk⟩; refine ⟨_, rfl, ?_⟩; have n0_ := Aside0.mk (Kd.R_mono (Kd.R_keep (IsS113.apart (show IsS113 c_ w _ g108 t104 x109001_4 x109002_4 x109003_4 from by repeat (first | (with_reducible first | exact HI108.out | apply IsS113.alloc | apply IsS113.drewN | apply IsS113.drew | apply IsS113.set_1 | apply IsS113.set_2 | apply IsS113.set_3) | exact HI108.out)) (by (with_reducible repeat (first | apply Kd.R_alloc | apply Kd.R_drewN | apply Kd.R_drew)); exact HO123.out) (by decide)) hk (fun _ h => h.2)) (fun _ h => h.1)); have n1_ := Aside0.mk (hb); have n2_ := Aside0.mk (hi); clear HO123; clear HB; clear HI108; have HO123 := n0_; have HB := n1_; have HI108 := n2_; clear n0_ n1_ n2_; (try clear hb); (try clear hb2); (try clear hk); (try clear hi)))
      go_loopg [6, 7] kj4 (fun kq v6 v7 w' => ∃ (x6_2 : List (S67)) (x7_2 : Int) (x109001_2 : Int) (x109002_2 : Int) (x109003_2 : Int), v7 = .int .i64 x7_2 ∧ Aside0 (spec_DrawPoolRun.l0 kq x5_4 x6_2 x7_2 t104 x109001_2 x109002_2 x109003_2 = some (r1, r2)) ∧ Aside0 (kq ≤ kj4) ∧ Aside0 (Kd.R k67 67 w' w.heap.size (fun _ => True) v6 x6_2) ∧ Aside0 (IsS113 c_ w w' g108 t104 x109001_2 x109002_2 x109003_2) ∧ Aside0 (Below w.heap.size w w'))
      case atStart => exact ⟨(y121), (wrap64 (2 + t124)), (t125), (t126), (t127), (by first | rfl | (simp; done) | (simp [*]; done)), H', ⟨Nat.le_refl _⟩, ⟨by (with_reducible repeat (first | apply Kd.R_alloc | apply Kd.R_drewN | apply Kd.R_drew)); exact HO123.out⟩, ⟨by repeat (first | (with_reducible first | exact HI108.out | apply IsS113.alloc | apply IsS113.drewN | apply IsS113.drew | apply IsS113.set_1 | apply IsS113.set_2 | apply IsS113.set_3) | exact HI108.out)⟩, ⟨by repeat (first | (with_reducible first | exact HB.out | apply below_alloc | apply pw_below_drewN | apply below_drew1 | refine below_set ?_ (IsS113.ge HI108.out)) | exact HB.out)⟩⟩
      case round =>
        clear H'
        try clear p2
        try clear c5
        try clear p6
        try clear c9
        try clear c9b0
        try clear c9b1
        try clear hcz15_0
        try clear hcz15_1
        try clear hcz15_2
        try clear hcz15_3
        try clear hfz15_1
        try clear hfz15_2
        try clear hfz15_3
        try clear p2
        try clear p6
        obtain ⟨x6_2, x7_2, x109001_2, x109002_2, x109003_2, rfl, HA, HK2, HO_6, HI108, HB⟩ := hrel
        cases gk with
        | zero => exact absurd HA.out (by simp [spec_DrawPoolRun.l0])
        | succ k2 =>
          have H := HA.out
          clear HA
          simp only [spec_DrawPoolRun.l0] at H
          by_cases c17 : x7_2 > 0
          · rw [if_pos c17] at H
            have c17b0 : decide (0 < x7_2) = true := decide_eq_true c17
            clear c17
            replace H := Option.bind_eq_some_iff.mp H
            obtain ⟨⟨t128, t129, t130, t131⟩, A180, H⟩ := H
            replace H : ((spec_l1Next.f t104 t129 t130 t131 130).bind fun bt132 => (if t128 < 8 then ((spec_l1Next.f t104 bt132.2.1 bt132.2.2.1 bt132.2.2.2 7).bind fun bt137 => (spec_DrawPoolRun.j2 k2 x5_4 x6_2 x7_2 t128 t104 bt137.2.1 bt137.2.2.1 bt137.2.2.2 2 0 bt137.1)) else (spec_DrawPoolRun.j2 k2 x5_4 x6_2 x7_2 t128 t104 bt132.2.1 bt132.2.2.1 bt132.2.2.2 1 bt132.1 0))) = some (r1, r2) := H
            have A18 := Aside0.mk A180
            clear A180
            replace H := Option.bind_eq_some_iff.mp H
            obtain ⟨⟨t132, t133, t134, t135⟩, A190, H⟩ := H
            replace H : (if t128 < 8 then ((spec_l1Next.f t104 t133 t134 t135 7).bind fun bt137 => (spec_DrawPoolRun.j2 k2 x5_4 x6_2 x7_2 t128 t104 bt137.2.1 bt137.2.2.1 bt137.2.2.2 2 0 bt137.1)) else (spec_DrawPoolRun.j2 k2 x5_4 x6_2 x7_2 t128 t104 t133 t134 t135 1 t132 0)) = some (r1, r2) := H
            have A19 := Aside0.mk A190
            clear A190
            have HC20 := Aside0.mk H
            clear H
            go_upto_if 44 with (first | ((with_reducible refine gate_callee (f := 94) rfl ?_); refine goesL_ (some 39) rfl rfl Try.func94 (by kernel_rfl) rfl #[.pointer (some ⟨g108, 0, none⟩), .int .i64 20] rfl (by (try simp only [List.map_toArray, List.map_cons, List.map_nil]); first | done | rfl | (simp only [List.length_drop, List.length_take]; rfl)) ?_; (with_reducible refine (spec_l1Next.calls c_ g108 t104 x109001_2 x109002_2 x109003_2 20 t128 t129 t130 t131 w _ ?side1 ?side2 A18.out).mono ?_); (case side1 => repeat (first | (with_reducible first | exact HI108.out | apply IsS113.alloc | apply IsS113.drewN | apply IsS113.drew | apply IsS113.set_1 | apply IsS113.set_2 | apply IsS113.set_3) | exact HI108.out)); (case side2 => repeat (first | (with_reducible first | exact HB.out | apply below_alloc | apply pw_below_drewN | apply below_drew1 | refine below_set ?_ (IsS113.ge HI108.out)) | exact HB.out)); rintro e w21 ⟨rfl, hi, hb, hk⟩; refine ⟨_, rfl, ?_⟩; have n0_ := Aside0.mk (Kd.R_mono (Kd.R_keep (IsS113.apart (show IsS113 c_ w _ g108 t104 x109001_2 x109002_2 x109003_2 from by repeat (first | (with_reducible first | exact HI108.out | apply IsS113.alloc | apply IsS113.drewN | apply IsS113.drew | apply IsS113.set_1 | apply IsS113.set_2 | apply IsS113.set_3) | exact HI108.out)) (by (with_reducible repeat (first | apply Kd.R_alloc | apply Kd.R_drewN | apply Kd.R_drew)); exact HO_6.out) (by decide)) hk (fun _ h => h.2)) (fun _ h => h.1)); have n1_ := Aside0.mk (hb); have n2_ := Aside0.mk (hi); clear HO_6; clear HB; clear HI108; have HO_6 := n0_; have HB := n1_; have HI108 := n2_; clear n0_ n1_ n2_; (try clear hb); (try clear hb2); (try clear hk); (try clear hi)) | ((with_reducible refine gate_callee (f := 94) rfl ?_); refine goesL_ (some 41) rfl rfl Try.func94 (by kernel_rfl) rfl #[.pointer (some ⟨g108, 0, none⟩), .int .i64 130] rfl (by (try simp only [List.map_toArray, List.map_cons, List.map_nil]); first | done | rfl | (simp only [List.length_drop, List.length_take]; rfl)) ?_; (with_reducible refine (spec_l1Next.calls c_ g108 t104 t129 t130 t131 130 t132 t133 t134 t135 w _ ?side1 ?side2 A19.out).mono ?_); (case side1 => repeat (first | (with_reducible first | exact HI108.out | apply IsS113.alloc | apply IsS113.drewN | apply IsS113.drew | apply IsS113.set_1 | apply IsS113.set_2 | apply IsS113.set_3) | exact HI108.out)); (case side2 => repeat (first | (with_reducible first | exact HB.out | apply below_alloc | apply pw_below_drewN | apply below_drew1 | refine below_set ?_ (IsS113.ge HI108.out)) | exact HB.out)); rintro e w22 ⟨rfl, hi, hb, hk⟩; refine ⟨_, rfl, ?_⟩; have n0_ := Aside0.mk (Kd.R_mono (Kd.R_keep (IsS113.apart (show IsS113 c_ w _ g108 t104 t129 t130 t131 from by repeat (first | (with_reducible first | exact HI108.out | apply IsS113.alloc | apply IsS113.drewN | apply IsS113.drew | apply IsS113.set_1 | apply IsS113.set_2 | apply IsS113.set_3) | exact HI108.out)) (by (with_reducible repeat (first | apply Kd.R_alloc | apply Kd.R_drewN | apply Kd.R_drew)); exact HO_6.out) (by decide)) hk (fun _ h => h.2)) (fun _ h => h.1)); have n1_ := Aside0.mk (hb); have n2_ := Aside0.mk (hi); clear HO_6; clear HB; clear HI108; have HO_6 := n0_; have HB := n1_; have HI108 := n2_; clear n0_ n1_ n2_; (try clear hb); (try clear hb2); (try clear hk); (try clear hi)) | ((with_reducible refine gate_dst (N := 9) rfl ?_); refine box_event ?hg (N := 9) ?hd (cs := #[.int .i64 0, .int .i64 0, .int .i64 0]) (t := 67) ?hr ?_; (case hd => rfl); (case hg => rfl); (case hr => first | (go_simp; done) | (go_simp; rfl)); intro gb136 hg w23 hbox hb; have n0_ := Aside0.mk (Kd.R_below (Kd.R_elderB (by (with_reducible repeat (first | apply Kd.R_alloc | apply Kd.R_drewN | apply Kd.R_drew)); exact HO_6.out) gb136 (Nat.le_of_eq hg.symm)) hb); have n1_ := Aside0.mk (IsS113.below (by repeat (first | (with_reducible first | exact HI108.out | apply IsS113.alloc | apply IsS113.drewN | apply IsS113.drew | apply IsS113.set_1 | apply IsS113.set_2 | apply IsS113.set_3) | exact HI108.out)) hb); have n2_ := Aside0.mk (below_step (by repeat (first | (with_reducible first | exact HB.out | apply below_alloc | apply pw_below_drewN | apply below_drew1 | refine below_set ?_ (IsS113.ge HI108.out)) | exact HB.out)) hb); have n3_ := Aside0.mk (hbox); have n4_ := Aside0.mk ((by rw [hg]; exact (below_size (by repeat (first | (with_reducible first | exact HB.out | apply below_alloc | apply pw_below_drewN | apply below_drew1 | refine below_set ?_ (IsS113.ge HI108.out)) | exact HB.out))) : w.heap.size ≤ gb136)); have n5_ := Aside0.mk ((by rw [hg]; exact (below_size (by repeat (first | (with_reducible first | exact HB.out | apply below_alloc | apply pw_below_drewN | apply below_drew1 | refine below_set ?_ (IsS113.ge HI108.out)) | exact HB.out))) : w.heap.size ≤ gb136)); have n6_ := Aside0.mk ((by rw [hg]; exact ⟨Nat.ne_of_lt (IsS113.lt (show IsS113 c_ w _ g108 t104 t133 t134 t135 from by repeat (first | (with_reducible first | exact HI108.out | apply IsS113.alloc | apply IsS113.drewN | apply IsS113.drew | apply IsS113.set_1 | apply IsS113.set_2 | apply IsS113.set_3) | exact HI108.out))), Nat.ne_of_lt (IsS113.lt2 (show IsS113 c_ w _ g108 t104 t133 t134 t135 from by repeat (first | (with_reducible first | exact HI108.out | apply IsS113.alloc | apply IsS113.drewN | apply IsS113.drew | apply IsS113.set_1 | apply IsS113.set_2 | apply IsS113.set_3) | exact HI108.out)))⟩ : g108 ≠ gb136 ∧ c_ ≠ gb136)); have n7_ := Aside0.mk ((by rw [hg]; exact Nat.ne_of_gt (IsS113.lt (show IsS113 c_ w _ g108 t104 t133 t134 t135 from by repeat (first | (with_reducible first | exact HI108.out | apply IsS113.alloc | apply IsS113.drewN | apply IsS113.drew | apply IsS113.set_1 | apply IsS113.set_2 | apply IsS113.set_3) | exact HI108.out))) : gb136 ≠ g108)); clear HO_6; clear HI108; clear HB; have HO_6 := n0_; have HI108 := n1_; have HB := n2_; have BK136 := n3_; have GW136 := n4_; have GE136 := n5_; have NB108_136 := n6_; have NB136_108 := n7_; clear n0_ n1_ n2_ n3_ n4_ n5_ n6_ n7_; clear hb hbox hg; have hnb24 := NB136_108.out; have hnc24 := NB108_136.out.1; have hcz25_0 : w23.cell? ⟨gb136, 0, none⟩ = some (.int .i64 0) := (blk_cell BK136.out 0).trans rfl; have hcz25_1 : w23.cell? ⟨gb136, 1, none⟩ = some (.int .i64 0) := (blk_cell BK136.out 1).trans rfl; have hcz25_2 : w23.cell? ⟨gb136, 2, none⟩ = some (.int .i64 0) := (blk_cell BK136.out 2).trans rfl; have hfz25_0 := blk_frozen BK136.out 0; have hfz25_1 := blk_frozen BK136.out 1; have hfz25_2 := blk_frozen BK136.out 2))
            (try simp only [Act.put, List.setIfInBounds_toArray, List.set_cons_zero, List.set_cons_succ])
            go_cut [] (fun wc => ∃ (kq : Nat) (x109001_19 : Int) (x109002_19 : Int) (x109003_19 : Int) (x137000_19 : Int) (x137001_19 : Int) (x137002_19 : Int), Aside0 (spec_DrawPoolRun.j2 kq x5_4 x6_2 x7_2 t128 t104 x109001_19 x109002_19 x109003_19 x137000_19 x137001_19 x137002_19 = some (r1, r2)) ∧ Aside0 (kq ≤ k2) ∧ Aside0 (Kd.R k67 67 wc w.heap.size (fun k_ => k_ ≠ gb136) u6 x6_2) ∧ Aside0 (wc.heap[gb136]? = some (.cells #[.int .i64 x137000_19, .int .i64 x137001_19, .int .i64 x137002_19] 67 (0, 0))) ∧ Aside0 (IsS113 c_ w wc g108 t104 x109001_19 x109002_19 x109003_19) ∧ Aside0 (Below w.heap.size w wc))
            case first =>
              have H := HC20.out
              clear HC20
              by_cases c26 : t128 < 8
              · rw [if_pos c26] at H
                have c26b0 : decide (t128 < 8) = true := decide_eq_true c26
                clear c26
                (first | rw [c26b0] | (simp only [i64_w, i32_w]; rw [c26b0]) | skip)
                replace H := Option.bind_eq_some_iff.mp H
                obtain ⟨⟨t137, t138, t139, t140⟩, A270, H⟩ := H
                replace H : (spec_DrawPoolRun.j2 k2 x5_4 x6_2 x7_2 t128 t104 t138 t139 t140 2 0 t137) = some (r1, r2) := H
                have A27 := Aside0.mk A270
                clear A270
                have H' := Aside0.mk H
                clear H
                go_wp2_with (first | ((with_reducible refine gate_callee (f := 94) rfl ?_); refine goesL_ (some 46) rfl rfl Try.func94 (by kernel_rfl) rfl #[.pointer (some ⟨g108, 0, none⟩), .int .i64 7] rfl (by (try simp only [List.map_toArray, List.map_cons, List.map_nil]); first | done | rfl | (simp only [List.length_drop, List.length_take]; rfl)) ?_; (with_reducible refine (spec_l1Next.calls c_ g108 t104 t133 t134 t135 7 t137 t138 t139 t140 w _ ?side1 ?side2 A27.out).mono ?_); (case side1 => repeat (first | (with_reducible first | exact HI108.out | apply IsS113.alloc | apply IsS113.drewN | apply IsS113.drew | apply IsS113.set_1 | apply IsS113.set_2 | apply IsS113.set_3 | refine IsS113.far ?_ NB108_136.out.1 NB108_136.out.2 _) | exact HI108.out)); (case side2 => repeat (first | (with_reducible first | exact HB.out | apply below_alloc | apply pw_below_drewN | apply below_drew1 | refine below_set ?_ (IsS113.ge HI108.out) | refine below_set ?_ GE136.out) | exact HB.out)); rintro e w28 ⟨rfl, hi, hb, hk⟩; refine ⟨_, rfl, ?_⟩; have n0_ := Aside0.mk (Kd.R_mono (Kd.R_keep (IsS113.apart (show IsS113 c_ w _ g108 t104 t133 t134 t135 from by repeat (first | (with_reducible first | exact HI108.out | apply IsS113.alloc | apply IsS113.drewN | apply IsS113.drew | apply IsS113.set_1 | apply IsS113.set_2 | apply IsS113.set_3 | refine IsS113.far ?_ NB108_136.out.1 NB108_136.out.2 _) | exact HI108.out)) (by (with_reducible repeat (first | apply Kd.R_alloc | apply Kd.R_drewN | apply Kd.R_drew)); exact (Kd.R_mono (Kd.R_far (p := ⟨gb136, 2, none⟩) (Kd.R_far (p := ⟨gb136, 1, none⟩) (Kd.R_far (p := ⟨gb136, 0, none⟩) (Kd.R_mono HO_6.out (fun k_ hk => (⟨hk, hk.2⟩ : _ ∧ k_ ≠ gb136))) (fun _ hk => hk.2) (.int .i64 1)) (fun _ hk => hk.2) (.int .i64 t132)) (fun _ hk => hk.2) (.int .i64 0)) (fun _ h_ => h_.1))) (by decide)) hk (fun _ h => h.2)) (fun _ h => h.1)); have n1_ := Aside0.mk (KeepBut.blk hk (g' := gb136) (o := .cells #[.int .i64 1, .int .i64 t132, .int .i64 0] 67 (0, 0)) (by (with_reducible repeat (first | refine blk_drewN ?_ _ | refine blk_drew ?_ | refine blk_alloc ?_ _)); refine blk_put (cs := #[.int .i64 1, .int .i64 t132, .int .i64 0]) ?_ 2 _ rfl; (with_reducible repeat (first | refine blk_drewN ?_ _ | refine blk_drew ?_ | refine blk_alloc ?_ _)); refine blk_put (cs := #[.int .i64 1, .int .i64 0, .int .i64 0]) ?_ 1 _ rfl; (with_reducible repeat (first | refine blk_drewN ?_ _ | refine blk_drew ?_ | refine blk_alloc ?_ _)); refine blk_put (cs := #[.int .i64 0, .int .i64 0, .int .i64 0]) ?_ 0 _ rfl; (with_reducible repeat (first | refine blk_drewN ?_ _ | refine blk_drew ?_ | refine blk_alloc ?_ _)); exact BK136.out) NB136_108.out (by simp)); have n2_ := Aside0.mk (hb); have n3_ := Aside0.mk (hi); clear HO_6; clear BK136; clear HB; clear HI108; have HO_6 := n0_; have BK136 := n1_; have HB := n2_; have HI108 := n3_; clear n0_ n1_ n2_ n3_; (try clear hb); (try clear hb2); (try clear hk); (try clear hi); have hnb29 := NB136_108.out; have hnc29 := NB108_136.out.1; have hcz30_0 : w28.cell? ⟨gb136, 0, none⟩ = some (.int .i64 1) := (blk_cell BK136.out 0).trans rfl; have hcz30_1 : w28.cell? ⟨gb136, 1, none⟩ = some (.int .i64 t132) := (blk_cell BK136.out 1).trans rfl; have hcz30_2 : w28.cell? ⟨gb136, 2, none⟩ = some (.int .i64 0) := (blk_cell BK136.out 2).trans rfl; have hfz30_0 := blk_frozen BK136.out 0; have hfz30_1 := blk_frozen BK136.out 1; have hfz30_2 := blk_frozen BK136.out 2))
                go_meet
                case rel => exact ⟨_, (t138), (t139), (t140), (2), (0), (t137), H', ⟨by have := HJ4.out; have := HK2.out; first | omega | exact Nat.le_refl _⟩, ⟨by (with_reducible repeat (first | apply Kd.R_alloc | apply Kd.R_drewN | apply Kd.R_drew)); exact Kd.R_mono (Kd.R_far (p := ⟨gb136, 2, none⟩) (Kd.R_far (p := ⟨gb136, 1, none⟩) (Kd.R_far (p := ⟨gb136, 0, none⟩) (Kd.R_mono HO_6.out (fun k_ hk => (⟨hk, hk.2⟩ : _ ∧ k_ ≠ gb136))) (fun _ hk => hk.2) (.int .i64 2)) (fun _ hk => hk.2) (.int .i64 0)) (fun _ hk => hk.2) (.int .i64 t137)) (fun _ hk => hk.1.2)⟩, ⟨by (with_reducible repeat (first | refine blk_drewN ?_ _ | refine blk_drew ?_ | refine blk_alloc ?_ _)); refine blk_put (cs := #[.int .i64 2, .int .i64 0, .int .i64 0]) ?_ 2 _ rfl; (with_reducible repeat (first | refine blk_drewN ?_ _ | refine blk_drew ?_ | refine blk_alloc ?_ _)); refine blk_put (cs := #[.int .i64 2, .int .i64 t132, .int .i64 0]) ?_ 1 _ rfl; (with_reducible repeat (first | refine blk_drewN ?_ _ | refine blk_drew ?_ | refine blk_alloc ?_ _)); refine blk_put (cs := #[.int .i64 1, .int .i64 t132, .int .i64 0]) ?_ 0 _ rfl; (with_reducible repeat (first | refine blk_drewN ?_ _ | refine blk_drew ?_ | refine blk_alloc ?_ _)); exact BK136.out⟩, ⟨by repeat (first | (with_reducible first | exact HI108.out | apply IsS113.alloc | apply IsS113.drewN | apply IsS113.drew | apply IsS113.set_1 | apply IsS113.set_2 | apply IsS113.set_3 | refine IsS113.far ?_ NB108_136.out.1 NB108_136.out.2 _) | exact HI108.out)⟩, ⟨by repeat (first | (with_reducible first | exact HB.out | apply below_alloc | apply pw_below_drewN | apply below_drew1 | refine below_set ?_ (IsS113.ge HI108.out) | refine below_set ?_ GE136.out) | exact HB.out)⟩⟩
              · rw [if_neg c26] at H
                have c26b0 : decide (t128 < 8) = false := decide_eq_false c26
                clear c26
                (first | rw [c26b0] | (simp only [i64_w, i32_w]; rw [c26b0]) | skip)
                have H' := Aside0.mk H
                clear H
                go_wp2
                go_meet
                case rel => exact ⟨_, (t133), (t134), (t135), (1), (t132), (0), H', ⟨by have := HJ4.out; have := HK2.out; first | omega | exact Nat.le_refl _⟩, ⟨by (with_reducible repeat (first | apply Kd.R_alloc | apply Kd.R_drewN | apply Kd.R_drew)); exact Kd.R_mono (Kd.R_far (p := ⟨gb136, 2, none⟩) (Kd.R_far (p := ⟨gb136, 1, none⟩) (Kd.R_far (p := ⟨gb136, 0, none⟩) (Kd.R_mono HO_6.out (fun k_ hk => (⟨hk, hk.2⟩ : _ ∧ k_ ≠ gb136))) (fun _ hk => hk.2) (.int .i64 1)) (fun _ hk => hk.2) (.int .i64 t132)) (fun _ hk => hk.2) (.int .i64 0)) (fun _ hk => hk.1.2)⟩, ⟨by (with_reducible repeat (first | refine blk_drewN ?_ _ | refine blk_drew ?_ | refine blk_alloc ?_ _)); refine blk_put (cs := #[.int .i64 1, .int .i64 t132, .int .i64 0]) ?_ 2 _ rfl; (with_reducible repeat (first | refine blk_drewN ?_ _ | refine blk_drew ?_ | refine blk_alloc ?_ _)); refine blk_put (cs := #[.int .i64 1, .int .i64 0, .int .i64 0]) ?_ 1 _ rfl; (with_reducible repeat (first | refine blk_drewN ?_ _ | refine blk_drew ?_ | refine blk_alloc ?_ _)); refine blk_put (cs := #[.int .i64 0, .int .i64 0, .int .i64 0]) ?_ 0 _ rfl; (with_reducible repeat (first | refine blk_drewN ?_ _ | refine blk_drew ?_ | refine blk_alloc ?_ _)); exact BK136.out⟩, ⟨by repeat (first | (with_reducible first | exact HI108.out | apply IsS113.alloc | apply IsS113.drewN | apply IsS113.drew | apply IsS113.set_1 | apply IsS113.set_2 | apply IsS113.set_3 | refine IsS113.far ?_ NB108_136.out.1 NB108_136.out.2 _) | exact HI108.out)⟩, ⟨by repeat (first | (with_reducible first | exact HB.out | apply below_alloc | apply pw_below_drewN | apply below_drew1 | refine below_set ?_ (IsS113.ge HI108.out) | refine below_set ?_ GE136.out) | exact HB.out)⟩⟩
            case rest =>
              clear HC20
              try clear c1
              try clear c2
              try clear p2
              try clear c5
              try clear p6
              try clear c9
              try clear c9b0
              try clear c9b1
              try clear c17
              try clear c17b0
              try clear c24
              try clear c26
              try clear c26b0
              try clear c29
              try clear hcz15_0
              try clear hcz15_1
              try clear hcz15_2
              try clear hcz15_3
              try clear hcz25_0
              try clear hcz25_1
              try clear hcz25_2
              try clear hcz30_0
              try clear hcz30_1
              try clear hcz30_2
              try clear hfz15_1
              try clear hfz15_2
              try clear hfz15_3
              try clear hfz25_0
              try clear hfz25_1
              try clear hfz25_2
              try clear hfz30_0
              try clear hfz30_1
              try clear hfz30_2
              try clear p2
              try clear p6
              obtain ⟨kq, x109001_19, x109002_19, x109003_19, x137000_19, x137001_19, x137002_19, HA, HJ19, HO_6, BK136, HI108, HB⟩ := hcut
              cases kq with
              | zero => exact absurd HA.out (by simp [spec_DrawPoolRun.j2])
              | succ kj19 =>
                have H := HA.out
                clear HA
                simp only [spec_DrawPoolRun.j2] at H
                have HC31 := Aside0.mk H
                clear H
                go_upto_if 49 with (fail)
                go_cut [] (fun wc => ∃ (kq : Nat) (x109001_30 : Int) (x109002_30 : Int) (x109003_30 : Int) (x137001_30 : Int), Aside0 (spec_DrawPoolRun.j3 kq x5_4 x6_2 x7_2 t128 t104 x109001_30 x109002_30 x109003_30 x137000_19 x137001_30 x137002_19 = some (r1, r2)) ∧ Aside0 (kq ≤ kj19) ∧ Aside0 (Kd.R k67 67 wc w.heap.size (fun k_ => k_ ≠ gb136) u6 x6_2) ∧ Aside0 (wc.heap[gb136]? = some (.cells #[.int .i64 x137000_19, .int .i64 x137001_30, .int .i64 x137002_19] 67 (0, 0))) ∧ Aside0 (IsS113 c_ w wc g108 t104 x109001_30 x109002_30 x109003_30) ∧ Aside0 (Below w.heap.size w wc))
                case first =>
                  have H := HC31.out
                  clear HC31
                  by_cases c32 : t128 = 8
                  · rw [if_pos c32] at H
                    have c32b0 : (t128 == 8) = true := beq_iff_eq.mpr c32
                    have c32b1 : (t128 != 8) = false := bne_eq_false_iff_eq.mpr c32
                    clear c32
                    (first | rw [c32b0] | (simp only [i64_w, i32_w]; rw [c32b0]) | skip)
                    replace H := Option.bind_eq_some_iff.mp H
                    obtain ⟨⟨t141, t142, t143, t144⟩, A330, H⟩ := H
                    replace H : (spec_DrawPoolRun.j3 kj19 x5_4 x6_2 x7_2 t128 t104 t142 t143 t144 x137000_19 (wrap64 (65536 + t141)) x137002_19) = some (r1, r2) := H
                    have A33 := Aside0.mk A330
                    clear A330
                    have H' := Aside0.mk H
                    clear H
                    go_wp2_with (first | ((with_reducible refine gate_callee (f := 94) rfl ?_); refine goesL_ (some 51) rfl rfl Try.func94 (by kernel_rfl) rfl #[.pointer (some ⟨g108, 0, none⟩), .int .i64 2] rfl (by (try simp only [List.map_toArray, List.map_cons, List.map_nil]); first | done | rfl | (simp only [List.length_drop, List.length_take]; rfl)) ?_; (with_reducible refine (spec_l1Next.calls c_ g108 t104 x109001_19 x109002_19 x109003_19 2 t141 t142 t143 t144 w _ ?side1 ?side2 A33.out).mono ?_); (case side1 => repeat (first | (with_reducible first | exact HI108.out | apply IsS113.alloc | apply IsS113.drewN | apply IsS113.drew | apply IsS113.set_1 | apply IsS113.set_2 | apply IsS113.set_3 | refine IsS113.far ?_ NB108_136.out.1 NB108_136.out.2 _) | exact HI108.out)); (case side2 => repeat (first | (with_reducible first | exact HB.out | apply below_alloc | apply pw_below_drewN | apply below_drew1 | refine below_set ?_ (IsS113.ge HI108.out) | refine below_set ?_ GE136.out) | exact HB.out)); rintro e w34 ⟨rfl, hi, hb, hk⟩; refine ⟨_, rfl, ?_⟩; have n0_ := Aside0.mk (Kd.R_mono (Kd.R_keep (IsS113.apart (show IsS113 c_ w _ g108 t104 x109001_19 x109002_19 x109003_19 from by repeat (first | (with_reducible first | exact HI108.out | apply IsS113.alloc | apply IsS113.drewN | apply IsS113.drew | apply IsS113.set_1 | apply IsS113.set_2 | apply IsS113.set_3 | refine IsS113.far ?_ NB108_136.out.1 NB108_136.out.2 _) | exact HI108.out)) (by (with_reducible repeat (first | apply Kd.R_alloc | apply Kd.R_drewN | apply Kd.R_drew)); exact HO_6.out) (by decide)) hk (fun _ h => h.2)) (fun _ h => h.1)); have n1_ := Aside0.mk (KeepBut.blk hk (g' := gb136) (o := .cells #[.int .i64 x137000_19, .int .i64 x137001_19, .int .i64 x137002_19] 67 (0, 0)) (by (with_reducible repeat (first | refine blk_drewN ?_ _ | refine blk_drew ?_ | refine blk_alloc ?_ _)); exact BK136.out) NB136_108.out (by simp)); have n2_ := Aside0.mk (hb); have n3_ := Aside0.mk (hi); clear HO_6; clear BK136; clear HB; clear HI108; have HO_6 := n0_; have BK136 := n1_; have HB := n2_; have HI108 := n3_; clear n0_ n1_ n2_ n3_; (try clear hb); (try clear hb2); (try clear hk); (try clear hi); have hnb35 := NB136_108.out; have hnc35 := NB108_136.out.1; have hcz36_0 : w34.cell? ⟨gb136, 0, none⟩ = some (.int .i64 x137000_19) := (blk_cell BK136.out 0).trans rfl; have hcz36_1 : w34.cell? ⟨gb136, 1, none⟩ = some (.int .i64 x137001_19) := (blk_cell BK136.out 1).trans rfl; have hcz36_2 : w34.cell? ⟨gb136, 2, none⟩ = some (.int .i64 x137002_19) := (blk_cell BK136.out 2).trans rfl; have hfz36_0 := blk_frozen BK136.out 0; have hfz36_1 := blk_frozen BK136.out 1; have hfz36_2 := blk_frozen BK136.out 2))
                    go_meet
                    case rel => exact ⟨_, (t142), (t143), (t144), (wrap64 (65536 + t141)), H', ⟨by have := HJ4.out; have := HK2.out; have := HJ19.out; first | omega | exact Nat.le_refl _⟩, ⟨by (with_reducible repeat (first | apply Kd.R_alloc | apply Kd.R_drewN | apply Kd.R_drew)); exact Kd.R_mono (Kd.R_far (p := ⟨gb136, 1, none⟩) (Kd.R_mono HO_6.out (fun k_ hk => (⟨hk, hk⟩ : _ ∧ k_ ≠ gb136))) (fun _ hk => hk.2) (.int .i64 (wrap64 (65536 + t141)))) (fun _ hk => hk.1)⟩, ⟨by (with_reducible repeat (first | refine blk_drewN ?_ _ | refine blk_drew ?_ | refine blk_alloc ?_ _)); refine blk_put (cs := #[.int .i64 x137000_19, .int .i64 x137001_19, .int .i64 x137002_19]) ?_ 1 _ rfl; (with_reducible repeat (first | refine blk_drewN ?_ _ | refine blk_drew ?_ | refine blk_alloc ?_ _)); exact BK136.out⟩, ⟨by repeat (first | (with_reducible first | exact HI108.out | apply IsS113.alloc | apply IsS113.drewN | apply IsS113.drew | apply IsS113.set_1 | apply IsS113.set_2 | apply IsS113.set_3 | refine IsS113.far ?_ NB108_136.out.1 NB108_136.out.2 _) | exact HI108.out)⟩, ⟨by repeat (first | (with_reducible first | exact HB.out | apply below_alloc | apply pw_below_drewN | apply below_drew1 | refine below_set ?_ (IsS113.ge HI108.out) | refine below_set ?_ GE136.out) | exact HB.out)⟩⟩
                  · rw [if_neg c32] at H
                    have c32b0 : (t128 == 8) = false := beq_eq_false_iff_ne.mpr c32
                    have c32b1 : (t128 != 8) = true := bne_iff_ne.mpr c32
                    (first | rw [c32b0] | (simp only [i64_w, i32_w]; rw [c32b0]) | skip)
                    have H' := Aside0.mk H
                    clear H
                    go_wp2
                    go_meet
                    case rel => exact ⟨_, (x109001_19), (x109002_19), (x109003_19), (x137001_19), H', ⟨by have := HJ4.out; have := HK2.out; have := HJ19.out; first | omega | exact Nat.le_refl _⟩, ⟨by (with_reducible repeat (first | apply Kd.R_alloc | apply Kd.R_drewN | apply Kd.R_drew)); exact HO_6.out⟩, ⟨by (with_reducible repeat (first | refine blk_drewN ?_ _ | refine blk_drew ?_ | refine blk_alloc ?_ _)); exact BK136.out⟩, ⟨by repeat (first | (with_reducible first | exact HI108.out | apply IsS113.alloc | apply IsS113.drewN | apply IsS113.drew | apply IsS113.set_1 | apply IsS113.set_2 | apply IsS113.set_3 | refine IsS113.far ?_ NB108_136.out.1 NB108_136.out.2 _) | exact HI108.out)⟩, ⟨by repeat (first | (with_reducible first | exact HB.out | apply below_alloc | apply pw_below_drewN | apply below_drew1 | refine below_set ?_ (IsS113.ge HI108.out) | refine below_set ?_ GE136.out) | exact HB.out)⟩⟩
                case rest =>
                  clear HC31
                  try clear c1
                  try clear c2
                  try clear p2
                  try clear c3
                  try clear c5
                  try clear p6
                  try clear c9
                  try clear c9b0
                  try clear c9b1
                  try clear c17
                  try clear c17b0
                  try clear c24
                  try clear c26
                  try clear c26b0
                  try clear c29
                  try clear c32
                  try clear c32b0
                  try clear c32b1
                  try clear c35
                  try clear hcz15_0
                  try clear hcz15_1
                  try clear hcz15_2
                  try clear hcz15_3
                  try clear hcz25_0
                  try clear hcz25_1
                  try clear hcz25_2
                  try clear hcz30_0
                  try clear hcz30_1
                  try clear hcz30_2
                  try clear hcz36_0
                  try clear hcz36_1
                  try clear hcz36_2
                  try clear hfz15_1
                  try clear hfz15_2
                  try clear hfz15_3
                  try clear hfz25_0
                  try clear hfz25_1
                  try clear hfz25_2
                  try clear hfz30_0
                  try clear hfz30_1
                  try clear hfz30_2
                  try clear hfz36_0
                  try clear hfz36_1
                  try clear hfz36_2
                  try clear p2
                  try clear p6
                  obtain ⟨kq, x109001_30, x109002_30, x109003_30, x137001_30, HA, HJ30, HO_6, BK136, HI108, HB⟩ := hcut
                  cases kq with
                  | zero => exact absurd HA.out (by simp [spec_DrawPoolRun.j3])
                  | succ kj30 =>
                    have H := HA.out
                    clear HA
                    simp only [spec_DrawPoolRun.j3] at H
                    by_cases c37 : t128 = 9
                    · rw [if_pos c37] at H
                      have c37b0 : (t128 == 9) = true := beq_iff_eq.mpr c37
                      have c37b1 : (t128 != 9) = false := bne_eq_false_iff_eq.mpr c37
                      clear c37
                      replace H := Option.bind_eq_some_iff.mp H
                      obtain ⟨⟨t145, t146, t147, t148⟩, A380, H⟩ := H
                      replace H : (if t128 = 10 then (if x6_2.length < 5864062014805 then (spec_DrawPoolRun.l0 kj30 x5_4 (x6_2 ++ [(⟨wrap64 (t145 * 3), (-1), x137002_19⟩ : S67)]) (wrap64 (x7_2 - 1)) t104 t146 t147 t148) else (none)) else (if x6_2.length < 5864062014805 then (spec_DrawPoolRun.l0 kj30 x5_4 (x6_2 ++ [(⟨wrap64 (t145 * 3), x137001_30, x137002_19⟩ : S67)]) (wrap64 (x7_2 - 1)) t104 t146 t147 t148) else (none))) = some (r1, r2) := H
                      have A38 := Aside0.mk A380
                      clear A380
                      by_cases c39 : t128 = 10
                      · rw [if_pos c39] at H
                        have c39b0 : (t128 == 10) = true := beq_iff_eq.mpr c39
                        have c39b1 : (t128 != 10) = false := bne_eq_false_iff_eq.mpr c39
                        clear c39
                        by_cases c40 : x6_2.length < 5864062014805
                        · rw [if_pos c40] at H
                          have LMc40 := Aside0.mk c40
                          clear c40
                          obtain ⟨y149, hy149⟩ : ∃ y_ : List (S67), y_ = (x6_2 ++ [(⟨wrap64 (t145 * 3), (-1), x137002_19⟩ : S67)]) := ⟨_, rfl⟩
                          replace H : (spec_DrawPoolRun.l0 kj30 x5_4 y149 (wrap64 (x7_2 - 1)) t104 t146 t147 t148) = some (r1, r2) := by first | (rw [hy149]; with_reducible exact H) | (have H2_ := (Option.bind_some _ _).symm.trans H; rw [hy149]; with_reducible exact H2_) | (have H2_ := (Option.bind_some _ _).symm.trans H; with_reducible exact H2_) | with_reducible exact H | (rw [hy149]; exact H) | exact H
                          have Ny149 := Aside0.mk hy149
                          clear hy149
                          have H' := Aside0.mk H
                          clear H
                          go_wp2_with (first | ((with_reducible refine gate_callee (f := 94) rfl ?_); refine goesL_ (some 57) rfl rfl Try.func94 (by kernel_rfl) rfl #[.pointer (some ⟨g108, 0, none⟩), .int .i64 2] rfl (by (try simp only [List.map_toArray, List.map_cons, List.map_nil]); first | done | rfl | (simp only [List.length_drop, List.length_take]; rfl)) ?_; (with_reducible refine (spec_l1Next.calls c_ g108 t104 x109001_30 x109002_30 x109003_30 2 t145 t146 t147 t148 w _ ?side1 ?side2 A38.out).mono ?_); (case side1 => repeat (first | (with_reducible first | exact HI108.out | apply IsS113.alloc | apply IsS113.drewN | apply IsS113.drew | apply IsS113.set_1 | apply IsS113.set_2 | apply IsS113.set_3 | refine IsS113.far ?_ NB108_136.out.1 NB108_136.out.2 _) | exact HI108.out)); (case side2 => repeat (first | (with_reducible first | exact HB.out | apply below_alloc | apply pw_below_drewN | apply below_drew1 | refine below_set ?_ (IsS113.ge HI108.out) | refine below_set ?_ GE136.out) | exact HB.out)); rintro e w41 ⟨rfl, hi, hb, hk⟩; refine ⟨_, rfl, ?_⟩; have n0_ := Aside0.mk (Kd.R_mono (Kd.R_keep (IsS113.apart (show IsS113 c_ w _ g108 t104 x109001_30 x109002_30 x109003_30 from by repeat (first | (with_reducible first | exact HI108.out | apply IsS113.alloc | apply IsS113.drewN | apply IsS113.drew | apply IsS113.set_1 | apply IsS113.set_2 | apply IsS113.set_3 | refine IsS113.far ?_ NB108_136.out.1 NB108_136.out.2 _) | exact HI108.out)) (by (with_reducible repeat (first | apply Kd.R_alloc | apply Kd.R_drewN | apply Kd.R_drew)); exact HO_6.out) (by decide)) hk (fun _ h => h.2)) (fun _ h => h.1)); have n1_ := Aside0.mk (KeepBut.blk hk (g' := gb136) (o := .cells #[.int .i64 x137000_19, .int .i64 x137001_30, .int .i64 x137002_19] 67 (0, 0)) (by (with_reducible repeat (first | refine blk_drewN ?_ _ | refine blk_drew ?_ | refine blk_alloc ?_ _)); exact BK136.out) NB136_108.out (by simp)); have n2_ := Aside0.mk (hb); have n3_ := Aside0.mk (hi); clear HO_6; clear BK136; clear HB; clear HI108; have HO_6 := n0_; have BK136 := n1_; have HB := n2_; have HI108 := n3_; clear n0_ n1_ n2_ n3_; (try clear hb); (try clear hb2); (try clear hk); (try clear hi); have hnb42 := NB136_108.out; have hnc42 := NB108_136.out.1; have hcz43_0 : w41.cell? ⟨gb136, 0, none⟩ = some (.int .i64 x137000_19) := (blk_cell BK136.out 0).trans rfl; have hcz43_1 : w41.cell? ⟨gb136, 1, none⟩ = some (.int .i64 x137001_30) := (blk_cell BK136.out 1).trans rfl; have hcz43_2 : w41.cell? ⟨gb136, 2, none⟩ = some (.int .i64 x137002_19) := (blk_cell BK136.out 2).trans rfl; have hfz43_0 := blk_frozen BK136.out 0; have hfz43_1 := blk_frozen BK136.out 1; have hfz43_2 := blk_frozen BK136.out 2) | ((with_reducible refine gate_builtin (b := .append) (xs := #[.tmp 63, .tmp 65]) rfl ?_); at_builtin; refine Kd.R_append k67 (w0 := w) w.heap.size rfl (.tmp 63) (.tmp 65) 59 67 (.agg #[(.int .i64 0), (.int .i64 0), (.int .i64 0)]) 24 rfl Try.underlying59 info67 rfl (by decide) (by omega) u6 x6_2 (⟨wrap64 (t145 * 3), (-1), x137002_19⟩ : S67) [.int .i64 (wrap64 (t145 * 3)), .int .i64 (-1), .int .i64 x137002_19] (fun k_ => k_ ≠ gb136) (fun _ => False) rfl (by first | (go_simp; done) | (go_simp; rfl)) ?aP (fun _ hk => hk.elim) ?aF ?aO ?aB ?aS ?aL ?_; (case aP => exact k67_mkM _ _ _ (⟨wrap64 (t145 * 3), (-1), x137002_19⟩ : S67)); (case aB => exact (by repeat (first | (with_reducible first | exact HB.out | apply below_alloc | apply pw_below_drewN | apply below_drew1 | refine below_set ?_ (IsS113.ge HI108.out) | refine below_set ?_ GE136.out) | exact HB.out))); (case aF => exact (fun k_ hk => Kd.freshB (g := gb136) (o := .cells #[.int .i64 (wrap64 (t145 * 3)), .int .i64 (-1), .int .i64 x137002_19] 67 (0, 0)) (by (with_reducible repeat (first | refine blk_drewN ?_ _ | refine blk_drew ?_ | refine blk_alloc ?_ _)); refine blk_put (cs := #[.int .i64 (wrap64 (t145 * 3)), .int .i64 x137001_30, .int .i64 x137002_19]) ?_ 1 _ rfl; (with_reducible repeat (first | refine blk_drewN ?_ _ | refine blk_drew ?_ | refine blk_alloc ?_ _)); refine blk_put (cs := #[.int .i64 x137000_19, .int .i64 x137001_30, .int .i64 x137002_19]) ?_ 0 _ rfl; (with_reducible repeat (first | refine blk_drewN ?_ _ | refine blk_drew ?_ | refine blk_alloc ?_ _)); exact BK136.out) k_ hk)); (case aO => exact (by (with_reducible repeat (first | apply Kd.R_alloc | apply Kd.R_drewN | apply Kd.R_drew)); exact Kd.R_mono (Kd.R_far (p := ⟨gb136, 1, none⟩) (Kd.R_far (p := ⟨gb136, 0, none⟩) (Kd.R_mono HO_6.out (fun k_ hk => (⟨hk, hk⟩ : _ ∧ k_ ≠ gb136))) (fun _ hk => hk.2) (.int .i64 (wrap64 (t145 * 3)))) (fun _ hk => hk.2) (.int .i64 (-1))) (fun _ hk => hk.1))); (case aS => exact (below_size (by repeat (first | (with_reducible first | exact HB.out | apply below_alloc | apply pw_below_drewN | apply below_drew1 | refine below_set ?_ (IsS113.ge HI108.out) | refine below_set ?_ GE136.out) | exact HB.out)))); (case aL => have := LMc40.out; omega); intro v150 w44 ho hb hg hat; rw [← Ny149.out] at ho; have n0_ := Aside0.mk (blk_grown (g := gb136) (o := .cells #[.int .i64 (wrap64 (t145 * 3)), .int .i64 (-1), .int .i64 x137002_19] 67 (0, 0)) (by (with_reducible repeat (first | refine blk_drewN ?_ _ | refine blk_drew ?_ | refine blk_alloc ?_ _)); refine blk_put (cs := #[.int .i64 (wrap64 (t145 * 3)), .int .i64 x137001_30, .int .i64 x137002_19]) ?_ 1 _ rfl; (with_reducible repeat (first | refine blk_drewN ?_ _ | refine blk_drew ?_ | refine blk_alloc ?_ _)); refine blk_put (cs := #[.int .i64 x137000_19, .int .i64 x137001_30, .int .i64 x137002_19]) ?_ 0 _ rfl; (with_reducible repeat (first | refine blk_drewN ?_ _ | refine blk_drew ?_ | refine blk_alloc ?_ _)); exact BK136.out) hg (Kd.R_away HO_6.out (fun _ hk => hk))); have n1_ := Aside0.mk (IsS113.grownH HI108.out (by repeat (first | (with_reducible first | exact HI108.out | apply IsS113.alloc | apply IsS113.drewN | apply IsS113.drew | apply IsS113.set_1 | apply IsS113.set_2 | apply IsS113.set_3 | refine IsS113.far ?_ NB108_136.out.1 NB108_136.out.2 _) | exact HI108.out)) hg (IsS113.own_ne HI108.out HO_6.out ⟨by decide, by decide⟩)); have n2_ := Aside0.mk (hb); have n3_ := Aside0.mk (ho); clear BK136; clear HI108; clear HB; clear HO_6; have BK136 := n0_; have HI108 := n1_; have HB := n2_; have HO151 := n3_; clear n0_ n1_ n2_ n3_; clear ho hb hg hat))
                          go_roundg kj30
                          case measure => have := HJ4.out; have := HK2.out; have := HJ19.out; have := HJ30.out; omega
                          case rel => exact ⟨(y149), (wrap64 (x7_2 - 1)), (t146), (t147), (t148), (by first | rfl | (simp; done) | (simp [*]; done)), H', ⟨by have := HJ4.out; have := HK2.out; have := HJ19.out; have := HJ30.out; omega⟩, ⟨by (with_reducible repeat (first | apply Kd.R_alloc | apply Kd.R_drewN | apply Kd.R_drew)); exact Kd.R_mono HO151.out (fun _ hk => trivial)⟩, ⟨by repeat (first | (with_reducible first | exact HI108.out | apply IsS113.alloc | apply IsS113.drewN | apply IsS113.drew | apply IsS113.set_1 | apply IsS113.set_2 | apply IsS113.set_3 | refine IsS113.far ?_ NB108_136.out.1 NB108_136.out.2 _) | exact HI108.out)⟩, ⟨by repeat (first | (with_reducible first | exact HB.out | apply below_alloc | apply pw_below_drewN | apply below_drew1 | refine below_set ?_ (IsS113.ge HI108.out) | refine below_set ?_ GE136.out) | exact HB.out)⟩⟩
                        · rw [if_neg c40] at H
                          exact absurd H (by simp)
                      · rw [if_neg c39] at H
                        have c39b0 : (t128 == 10) = false := beq_eq_false_iff_ne.mpr c39
                        have c39b1 : (t128 != 10) = true := bne_iff_ne.mpr c39
                        by_cases c45 : x6_2.length < 5864062014805
                        · rw [if_pos c45] at H
                          have LMc45 := Aside0.mk c45
                          clear c45
                          obtain ⟨y152, hy152⟩ : ∃ y_ : List (S67), y_ = (x6_2 ++ [(⟨wrap64 (t145 * 3), x137001_30, x137002_19⟩ : S67)]) := ⟨_, rfl⟩
                          replace H : (spec_DrawPoolRun.l0 kj30 x5_4 y152 (wrap64 (x7_2 - 1)) t104 t146 t147 t148) = some (r1, r2) := by first | (rw [hy152]; with_reducible exact H) | (have H2_ := (Option.bind_some _ _).symm.trans H; rw [hy152]; with_reducible exact H2_) | (have H2_ := (Option.bind_some _ _).symm.trans H; with_reducible exact H2_) | with_reducible exact H | (rw [hy152]; exact H) | exact H
                          have Ny152 := Aside0.mk hy152
                          clear hy152
                          have H' := Aside0.mk H
                          clear H
                          go_wp2_with (first | ((with_reducible refine gate_callee (f := 94) rfl ?_); refine goesL_ (some 57) rfl rfl Try.func94 (by kernel_rfl) rfl #[.pointer (some ⟨g108, 0, none⟩), .int .i64 2] rfl (by (try simp only [List.map_toArray, List.map_cons, List.map_nil]); first | done | rfl | (simp only [List.length_drop, List.length_take]; rfl)) ?_; (with_reducible refine (spec_l1Next.calls c_ g108 t104 x109001_30 x109002_30 x109003_30 2 t145 t146 t147 t148 w _ ?side1 ?side2 A38.out).mono ?_); (case side1 => repeat (first | (with_reducible first | exact HI108.out | apply IsS113.alloc | apply IsS113.drewN | apply IsS113.drew | apply IsS113.set_1 | apply IsS113.set_2 | apply IsS113.set_3 | refine IsS113.far ?_ NB108_136.out.1 NB108_136.out.2 _) | exact HI108.out)); (case side2 => repeat (first | (with_reducible first | exact HB.out | apply below_alloc | apply pw_below_drewN | apply below_drew1 | refine below_set ?_ (IsS113.ge HI108.out) | refine below_set ?_ GE136.out) | exact HB.out)); rintro e w46 ⟨rfl, hi, hb, hk⟩; refine ⟨_, rfl, ?_⟩; have n0_ := Aside0.mk (Kd.R_mono (Kd.R_keep (IsS113.apart (show IsS113 c_ w _ g108 t104 x109001_30 x109002_30 x109003_30 from by repeat (first | (with_reducible first | exact HI108.out | apply IsS113.alloc | apply IsS113.drewN | apply IsS113.drew | apply IsS113.set_1 | apply IsS113.set_2 | apply IsS113.set_3 | refine IsS113.far ?_ NB108_136.out.1 NB108_136.out.2 _) | exact HI108.out)) (by (with_reducible repeat (first | apply Kd.R_alloc | apply Kd.R_drewN | apply Kd.R_drew)); exact HO_6.out) (by decide)) hk (fun _ h => h.2)) (fun _ h => h.1)); have n1_ := Aside0.mk (KeepBut.blk hk (g' := gb136) (o := .cells #[.int .i64 x137000_19, .int .i64 x137001_30, .int .i64 x137002_19] 67 (0, 0)) (by (with_reducible repeat (first | refine blk_drewN ?_ _ | refine blk_drew ?_ | refine blk_alloc ?_ _)); exact BK136.out) NB136_108.out (by simp)); have n2_ := Aside0.mk (hb); have n3_ := Aside0.mk (hi); clear HO_6; clear BK136; clear HB; clear HI108; have HO_6 := n0_; have BK136 := n1_; have HB := n2_; have HI108 := n3_; clear n0_ n1_ n2_ n3_; (try clear hb); (try clear hb2); (try clear hk); (try clear hi); have hnb47 := NB136_108.out; have hnc47 := NB108_136.out.1; have hcz48_0 : w46.cell? ⟨gb136, 0, none⟩ = some (.int .i64 x137000_19) := (blk_cell BK136.out 0).trans rfl; have hcz48_1 : w46.cell? ⟨gb136, 1, none⟩ = some (.int .i64 x137001_30) := (blk_cell BK136.out 1).trans rfl; have hcz48_2 : w46.cell? ⟨gb136, 2, none⟩ = some (.int .i64 x137002_19) := (blk_cell BK136.out 2).trans rfl; have hfz48_0 := blk_frozen BK136.out 0; have hfz48_1 := blk_frozen BK136.out 1; have hfz48_2 := blk_frozen BK136.out 2) | ((with_reducible refine gate_builtin (b := .append) (xs := #[.tmp 63, .tmp 65]) rfl ?_); at_builtin; refine Kd.R_append k67 (w0 := w) w.heap.size rfl (.tmp 63) (.tmp 65) 59 67 (.agg #[(.int .i64 0), (.int .i64 0), (.int .i64 0)]) 24 rfl Try.underlying59 info67 rfl (by decide) (by omega) u6 x6_2 (⟨wrap64 (t145 * 3), x137001_30, x137002_19⟩ : S67) [.int .i64 (wrap64 (t145 * 3)), .int .i64 x137001_30, .int .i64 x137002_19] (fun k_ => k_ ≠ gb136) (fun _ => False) rfl (by first | (go_simp; done) | (go_simp; rfl)) ?aP (fun _ hk => hk.elim) ?aF ?aO ?aB ?aS ?aL ?_; (case aP => exact k67_mkM _ _ _ (⟨wrap64 (t145 * 3), x137001_30, x137002_19⟩ : S67)); (case aB => exact (by repeat (first | (with_reducible first | exact HB.out | apply below_alloc | apply pw_below_drewN | apply below_drew1 | refine below_set ?_ (IsS113.ge HI108.out) | refine below_set ?_ GE136.out) | exact HB.out))); (case aF => exact (fun k_ hk => Kd.freshB (g := gb136) (o := .cells #[.int .i64 (wrap64 (t145 * 3)), .int .i64 x137001_30, .int .i64 x137002_19] 67 (0, 0)) (by (with_reducible repeat (first | refine blk_drewN ?_ _ | refine blk_drew ?_ | refine blk_alloc ?_ _)); refine blk_put (cs := #[.int .i64 x137000_19, .int .i64 x137001_30, .int .i64 x137002_19]) ?_ 0 _ rfl; (with_reducible repeat (first | refine blk_drewN ?_ _ | refine blk_drew ?_ | refine blk_alloc ?_ _)); exact BK136.out) k_ hk)); (case aO => exact (by (with_reducible repeat (first | apply Kd.R_alloc | apply Kd.R_drewN | apply Kd.R_drew)); exact Kd.R_mono (Kd.R_far (p := ⟨gb136, 0, none⟩) (Kd.R_mono HO_6.out (fun k_ hk => (⟨hk, hk⟩ : _ ∧ k_ ≠ gb136))) (fun _ hk => hk.2) (.int .i64 (wrap64 (t145 * 3)))) (fun _ hk => hk.1))); (case aS => exact (below_size (by repeat (first | (with_reducible first | exact HB.out | apply below_alloc | apply pw_below_drewN | apply below_drew1 | refine below_set ?_ (IsS113.ge HI108.out) | refine below_set ?_ GE136.out) | exact HB.out)))); (case aL => have := LMc45.out; omega); intro v153 w49 ho hb hg hat; rw [← Ny152.out] at ho; have n0_ := Aside0.mk (blk_grown (g := gb136) (o := .cells #[.int .i64 (wrap64 (t145 * 3)), .int .i64 x137001_30, .int .i64 x137002_19] 67 (0, 0)) (by (with_reducible repeat (first | refine blk_drewN ?_ _ | refine blk_drew ?_ | refine blk_alloc ?_ _)); refine blk_put (cs := #[.int .i64 x137000_19, .int .i64 x137001_30, .int .i64 x137002_19]) ?_ 0 _ rfl; (with_reducible repeat (first | refine blk_drewN ?_ _ | refine blk_drew ?_ | refine blk_alloc ?_ _)); exact BK136.out) hg (Kd.R_away HO_6.out (fun _ hk => hk))); have n1_ := Aside0.mk (IsS113.grownH HI108.out (by repeat (first | (with_reducible first | exact HI108.out | apply IsS113.alloc | apply IsS113.drewN | apply IsS113.drew | apply IsS113.set_1 | apply IsS113.set_2 | apply IsS113.set_3 | refine IsS113.far ?_ NB108_136.out.1 NB108_136.out.2 _) | exact HI108.out)) hg (IsS113.own_ne HI108.out HO_6.out ⟨by decide, by decide⟩)); have n2_ := Aside0.mk (hb); have n3_ := Aside0.mk (ho); clear BK136; clear HI108; clear HB; clear HO_6; have BK136 := n0_; have HI108 := n1_; have HB := n2_; have HO154 := n3_; clear n0_ n1_ n2_ n3_; clear ho hb hg hat))
                          go_roundg kj30
                          case measure => have := HJ4.out; have := HK2.out; have := HJ19.out; have := HJ30.out; omega
                          case rel => exact ⟨(y152), (wrap64 (x7_2 - 1)), (t146), (t147), (t148), (by first | rfl | (simp; done) | (simp [*]; done)), H', ⟨by have := HJ4.out; have := HK2.out; have := HJ19.out; have := HJ30.out; omega⟩, ⟨by (with_reducible repeat (first | apply Kd.R_alloc | apply Kd.R_drewN | apply Kd.R_drew)); exact Kd.R_mono HO154.out (fun _ hk => trivial)⟩, ⟨by repeat (first | (with_reducible first | exact HI108.out | apply IsS113.alloc | apply IsS113.drewN | apply IsS113.drew | apply IsS113.set_1 | apply IsS113.set_2 | apply IsS113.set_3 | refine IsS113.far ?_ NB108_136.out.1 NB108_136.out.2 _) | exact HI108.out)⟩, ⟨by repeat (first | (with_reducible first | exact HB.out | apply below_alloc | apply pw_below_drewN | apply below_drew1 | refine below_set ?_ (IsS113.ge HI108.out) | refine below_set ?_ GE136.out) | exact HB.out)⟩⟩
                        · rw [if_neg c45] at H
                          exact absurd H (by simp)
                    · rw [if_neg c37] at H
                      have c37b0 : (t128 == 9) = false := beq_eq_false_iff_ne.mpr c37
                      have c37b1 : (t128 != 9) = true := bne_iff_ne.mpr c37
                      by_cases c50 : t128 = 10
                      · rw [if_pos c50] at H
                        have c50b0 : (t128 == 10) = true := beq_iff_eq.mpr c50
                        have c50b1 : (t128 != 10) = false := bne_eq_false_iff_eq.mpr c50
                        clear c50
                        by_cases c51 : x6_2.length < 5864062014805
                        · rw [if_pos c51] at H
                          have LMc51 := Aside0.mk c51
                          clear c51
                          obtain ⟨y155, hy155⟩ : ∃ y_ : List (S67), y_ = (x6_2 ++ [(⟨x137000_19, (-1), x137002_19⟩ : S67)]) := ⟨_, rfl⟩
                          replace H : (spec_DrawPoolRun.l0 kj30 x5_4 y155 (wrap64 (x7_2 - 1)) t104 x109001_30 x109002_30 x109003_30) = some (r1, r2) := by first | (rw [hy155]; with_reducible exact H) | (have H2_ := (Option.bind_some _ _).symm.trans H; rw [hy155]; with_reducible exact H2_) | (have H2_ := (Option.bind_some _ _).symm.trans H; with_reducible exact H2_) | with_reducible exact H | (rw [hy155]; exact H) | exact H
                          have Ny155 := Aside0.mk hy155
                          clear hy155
                          have H' := Aside0.mk H
                          clear H
                          have hnb52 := NB136_108.out
                          have hnc52 := NB108_136.out.1
                          have hcz53_0 : wc.cell? ⟨gb136, 0, none⟩ = some (.int .i64 x137000_19) := (blk_cell BK136.out 0).trans rfl
                          have hcz53_1 : wc.cell? ⟨gb136, 1, none⟩ = some (.int .i64 x137001_30) := (blk_cell BK136.out 1).trans rfl
                          have hcz53_2 : wc.cell? ⟨gb136, 2, none⟩ = some (.int .i64 x137002_19) := (blk_cell BK136.out 2).trans rfl
                          have hfz53_0 := blk_frozen BK136.out 0
                          have hfz53_1 := blk_frozen BK136.out 1
                          have hfz53_2 := blk_frozen BK136.out 2
                          go_wp2_with (first | ((with_reducible refine gate_builtin (b := .append) (xs := #[.tmp 63, .tmp 65]) rfl ?_); at_builtin; refine Kd.R_append k67 (w0 := w) w.heap.size rfl (.tmp 63) (.tmp 65) 59 67 (.agg #[(.int .i64 0), (.int .i64 0), (.int .i64 0)]) 24 rfl Try.underlying59 info67 rfl (by decide) (by omega) u6 x6_2 (⟨x137000_19, (-1), x137002_19⟩ : S67) [.int .i64 x137000_19, .int .i64 (-1), .int .i64 x137002_19] (fun k_ => k_ ≠ gb136) (fun _ => False) rfl (by first | (go_simp; done) | (go_simp; rfl)) ?aP (fun _ hk => hk.elim) ?aF ?aO ?aB ?aS ?aL ?_; (case aP => exact k67_mkM _ _ _ (⟨x137000_19, (-1), x137002_19⟩ : S67)); (case aB => exact (by repeat (first | (with_reducible first | exact HB.out | apply below_alloc | apply pw_below_drewN | apply below_drew1 | refine below_set ?_ (IsS113.ge HI108.out) | refine below_set ?_ GE136.out) | exact HB.out))); (case aF => exact (fun k_ hk => Kd.freshB (g := gb136) (o := .cells #[.int .i64 x137000_19, .int .i64 (-1), .int .i64 x137002_19] 67 (0, 0)) (by (with_reducible repeat (first | refine blk_drewN ?_ _ | refine blk_drew ?_ | refine blk_alloc ?_ _)); refine blk_put (cs := #[.int .i64 x137000_19, .int .i64 x137001_30, .int .i64 x137002_19]) ?_ 1 _ rfl; (with_reducible repeat (first | refine blk_drewN ?_ _ | refine blk_drew ?_ | refine blk_alloc ?_ _)); exact BK136.out) k_ hk)); (case aO => exact (by (with_reducible repeat (first | apply Kd.R_alloc | apply Kd.R_drewN | apply Kd.R_drew)); exact Kd.R_mono (Kd.R_far (p := ⟨gb136, 1, none⟩) (Kd.R_mono HO_6.out (fun k_ hk => (⟨hk, hk⟩ : _ ∧ k_ ≠ gb136))) (fun _ hk => hk.2) (.int .i64 (-1))) (fun _ hk => hk.1))); (case aS => exact (below_size (by repeat (first | (with_reducible first | exact HB.out | apply below_alloc | apply pw_below_drewN | apply below_drew1 | refine below_set ?_ (IsS113.ge HI108.out) | refine below_set ?_ GE136.out) | exact HB.out)))); (case aL => have := LMc51.out; omega); intro v156 w54 ho hb hg hat; rw [← Ny155.out] at ho; have n0_ := Aside0.mk (blk_grown (g := gb136) (o := .cells #[.int .i64 x137000_19, .int .i64 (-1), .int .i64 x137002_19] 67 (0, 0)) (by (with_reducible repeat (first | refine blk_drewN ?_ _ | refine blk_drew ?_ | refine blk_alloc ?_ _)); refine blk_put (cs := #[.int .i64 x137000_19, .int .i64 x137001_30, .int .i64 x137002_19]) ?_ 1 _ rfl; (with_reducible repeat (first | refine blk_drewN ?_ _ | refine blk_drew ?_ | refine blk_alloc ?_ _)); exact BK136.out) hg (Kd.R_away HO_6.out (fun _ hk => hk))); have n1_ := Aside0.mk (IsS113.grownH HI108.out (by repeat (first | (with_reducible first | exact HI108.out | apply IsS113.alloc | apply IsS113.drewN | apply IsS113.drew | apply IsS113.set_1 | apply IsS113.set_2 | apply IsS113.set_3 | refine IsS113.far ?_ NB108_136.out.1 NB108_136.out.2 _) | exact HI108.out)) hg (IsS113.own_ne HI108.out HO_6.out ⟨by decide, by decide⟩)); have n2_ := Aside0.mk (hb); have n3_ := Aside0.mk (ho); clear BK136; clear HI108; clear HB; clear HO_6; have BK136 := n0_; have HI108 := n1_; have HB := n2_; have HO157 := n3_; clear n0_ n1_ n2_ n3_; clear ho hb hg hat))
                          go_roundg kj30
                          case measure => have := HJ4.out; have := HK2.out; have := HJ19.out; have := HJ30.out; omega
                          case rel => exact ⟨(y155), (wrap64 (x7_2 - 1)), (x109001_30), (x109002_30), (x109003_30), (by first | rfl | (simp; done) | (simp [*]; done)), H', ⟨by have := HJ4.out; have := HK2.out; have := HJ19.out; have := HJ30.out; omega⟩, ⟨by (with_reducible repeat (first | apply Kd.R_alloc | apply Kd.R_drewN | apply Kd.R_drew)); exact Kd.R_mono HO157.out (fun _ hk => trivial)⟩, ⟨by repeat (first | (with_reducible first | exact HI108.out | apply IsS113.alloc | apply IsS113.drewN | apply IsS113.drew | apply IsS113.set_1 | apply IsS113.set_2 | apply IsS113.set_3 | refine IsS113.far ?_ NB108_136.out.1 NB108_136.out.2 _) | exact HI108.out)⟩, ⟨by repeat (first | (with_reducible first | exact HB.out | apply below_alloc | apply pw_below_drewN | apply below_drew1 | refine below_set ?_ (IsS113.ge HI108.out) | refine below_set ?_ GE136.out) | exact HB.out)⟩⟩
                        · rw [if_neg c51] at H
                          exact absurd H (by simp)
                      · rw [if_neg c50] at H
                        have c50b0 : (t128 == 10) = false := beq_eq_false_iff_ne.mpr c50
                        have c50b1 : (t128 != 10) = true := bne_iff_ne.mpr c50
                        by_cases c55 : x6_2.length < 5864062014805
                        · rw [if_pos c55] at H
                          have LMc55 := Aside0.mk c55
                          clear c55
                          obtain ⟨y158, hy158⟩ : ∃ y_ : List (S67), y_ = (x6_2 ++ [(⟨x137000_19, x137001_30, x137002_19⟩ : S67)]) := ⟨_, rfl⟩
                          replace H : (spec_DrawPoolRun.l0 kj30 x5_4 y158 (wrap64 (x7_2 - 1)) t104 x109001_30 x109002_30 x109003_30) = some (r1, r2) := by first | (rw [hy158]; with_reducible exact H) | (have H2_ := (Option.bind_some _ _).symm.trans H; rw [hy158]; with_reducible exact H2_) | (have H2_ := (Option.bind_some _ _).symm.trans H; with_reducible exact H2_) | with_reducible exact H | (rw [hy158]; exact H) | exact H
                          have Ny158 := Aside0.mk hy158
                          clear hy158
                          have H' := Aside0.mk H
                          clear H
                          have hnb56 := NB136_108.out
                          have hnc56 := NB108_136.out.1
                          have hcz57_0 : wc.cell? ⟨gb136, 0, none⟩ = some (.int .i64 x137000_19) := (blk_cell BK136.out 0).trans rfl
                          have hcz57_1 : wc.cell? ⟨gb136, 1, none⟩ = some (.int .i64 x137001_30) := (blk_cell BK136.out 1).trans rfl
                          have hcz57_2 : wc.cell? ⟨gb136, 2, none⟩ = some (.int .i64 x137002_19) := (blk_cell BK136.out 2).trans rfl
                          have hfz57_0 := blk_frozen BK136.out 0
                          have hfz57_1 := blk_frozen BK136.out 1
                          have hfz57_2 := blk_frozen BK136.out 2
                          go_wp2_with (first | ((with_reducible refine gate_builtin (b := .append) (xs := #[.tmp 63, .tmp 65]) rfl ?_); at_builtin; refine Kd.R_append k67 (w0 := w) w.heap.size rfl (.tmp 63) (.tmp 65) 59 67 (.agg #[(.int .i64 0), (.int .i64 0), (.int .i64 0)]) 24 rfl Try.underlying59 info67 rfl (by decide) (by omega) u6 x6_2 (⟨x137000_19, x137001_30, x137002_19⟩ : S67) [.int .i64 x137000_19, .int .i64 x137001_30, .int .i64 x137002_19] (fun k_ => k_ ≠ gb136) (fun _ => False) rfl rfl ?aP (fun _ hk => hk.elim) ?aF ?aO ?aB ?aS ?aL ?_; (case aP => exact k67_mkM _ _ _ (⟨x137000_19, x137001_30, x137002_19⟩ : S67)); (case aB => exact (by repeat (first | (with_reducible first | exact HB.out | apply below_alloc | apply pw_below_drewN | apply below_drew1 | refine below_set ?_ (IsS113.ge HI108.out) | refine below_set ?_ GE136.out) | exact HB.out))); (case aF => exact (fun k_ hk => Kd.freshB (g := gb136) (o := .cells #[.int .i64 x137000_19, .int .i64 x137001_30, .int .i64 x137002_19] 67 (0, 0)) (by (with_reducible repeat (first | refine blk_drewN ?_ _ | refine blk_drew ?_ | refine blk_alloc ?_ _)); exact BK136.out) k_ hk)); (case aO => exact (by (with_reducible repeat (first | apply Kd.R_alloc | apply Kd.R_drewN | apply Kd.R_drew)); exact HO_6.out)); (case aS => exact (below_size (by repeat (first | (with_reducible first | exact HB.out | apply below_alloc | apply pw_below_drewN | apply below_drew1 | refine below_set ?_ (IsS113.ge HI108.out) | refine below_set ?_ GE136.out) | exact HB.out)))); (case aL => have := LMc55.out; omega); intro v159 w58 ho hb hg hat; rw [← Ny158.out] at ho; have n0_ := Aside0.mk (blk_grown (g := gb136) (o := .cells #[.int .i64 x137000_19, .int .i64 x137001_30, .int .i64 x137002_19] 67 (0, 0)) (by (with_reducible repeat (first | refine blk_drewN ?_ _ | refine blk_drew ?_ | refine blk_alloc ?_ _)); exact BK136.out) hg (Kd.R_away HO_6.out (fun _ hk => hk))); have n1_ := Aside0.mk (IsS113.grownH HI108.out (by repeat (first | (with_reducible first | exact HI108.out | apply IsS113.alloc | apply IsS113.drewN | apply IsS113.drew | apply IsS113.set_1 | apply IsS113.set_2 | apply IsS113.set_3 | refine IsS113.far ?_ NB108_136.out.1 NB108_136.out.2 _) | exact HI108.out)) hg (IsS113.own_ne HI108.out HO_6.out ⟨by decide, by decide⟩)); have n2_ := Aside0.mk (hb); have n3_ := Aside0.mk (ho); clear BK136; clear HI108; clear HB; clear HO_6; have BK136 := n0_; have HI108 := n1_; have HB := n2_; have HO160 := n3_; clear n0_ n1_ n2_ n3_; clear ho hb hg hat))
                          go_roundg kj30
                          case measure => have := HJ4.out; have := HK2.out; have := HJ19.out; have := HJ30.out; omega
                          case rel => exact ⟨(y158), (wrap64 (x7_2 - 1)), (x109001_30), (x109002_30), (x109003_30), (by first | rfl | (simp; done) | (simp [*]; done)), H', ⟨by have := HJ4.out; have := HK2.out; have := HJ19.out; have := HJ30.out; omega⟩, ⟨by (with_reducible repeat (first | apply Kd.R_alloc | apply Kd.R_drewN | apply Kd.R_drew)); exact Kd.R_mono HO160.out (fun _ hk => trivial)⟩, ⟨by repeat (first | (with_reducible first | exact HI108.out | apply IsS113.alloc | apply IsS113.drewN | apply IsS113.drew | apply IsS113.set_1 | apply IsS113.set_2 | apply IsS113.set_3 | refine IsS113.far ?_ NB108_136.out.1 NB108_136.out.2 _) | exact HI108.out)⟩, ⟨by repeat (first | (with_reducible first | exact HB.out | apply below_alloc | apply pw_below_drewN | apply below_drew1 | refine below_set ?_ (IsS113.ge HI108.out) | refine below_set ?_ GE136.out) | exact HB.out)⟩⟩
                        · rw [if_neg c55] at H
                          exact absurd H (by simp)
          · rw [if_neg c17] at H
            have c17b0 : decide (0 < x7_2) = false := decide_eq_false c17
            clear c17
            replace H := Option.bind_eq_some_iff.mp H
            obtain ⟨⟨t161, t162, t163, t164⟩, A590, H⟩ := H
            replace H : (if t161 = 0 then ((spec_l1Next.f t104 t162 t163 t164 2).bind fun bt165 => (spec_DrawPoolRun.l1 k2 x5_4 x6_2 (wrap64 (2000 + bt165.1)))) else (some (x5_4, x6_2))) = some (r1, r2) := H
            have A59 := Aside0.mk A590
            clear A590
            by_cases c60 : t161 = 0
            · rw [if_pos c60] at H
              have c60b0 : (t161 == 0) = true := beq_iff_eq.mpr c60
              have c60b1 : (t161 != 0) = false := bne_eq_false_iff_eq.mpr c60
              clear c60
              replace H := Option.bind_eq_some_iff.mp H
              obtain ⟨⟨t165, t166, t167, t168⟩, A610, H⟩ := H
              replace H : (spec_DrawPoolRun.l1 k2 x5_4 x6_2 (wrap64 (2000 + t165))) = some (r1, r2) := H
              have A61 := Aside0.mk A610
              clear A610
              have H' := Aside0.mk H
              clear H
              go_wp2_with (first | ((with_reducible refine gate_callee (f := 94) rfl ?_); refine goesL_ (some 68) rfl rfl Try.func94 (by kernel_rfl) rfl #[.pointer (some ⟨g108, 0, none⟩), .int .i64 60] rfl (by (try simp only [List.map_toArray, List.map_cons, List.map_nil]); first | done | rfl | (simp only [List.length_drop, List.length_take]; rfl)) ?_; (with_reducible refine (spec_l1Next.calls c_ g108 t104 x109001_2 x109002_2 x109003_2 60 t161 t162 t163 t164 w _ ?side1 ?side2 A59.out).mono ?_); (case side1 => repeat (first | (with_reducible first | exact HI108.out | apply IsS113.alloc | apply IsS113.drewN | apply IsS113.drew | apply IsS113.set_1 | apply IsS113.set_2 | apply IsS113.set_3) | exact HI108.out)); (case side2 => repeat (first | (with_reducible first | exact HB.out | apply below_alloc | apply pw_below_drewN | apply below_drew1 | refine below_set ?_ (IsS113.ge HI108.out)) | exact HB.out)); rintro e w62 ⟨rfl, hi, hb, hk⟩; refine ⟨_, rfl, ?_⟩; have n0_ := Aside0.mk (Kd.R_mono (Kd.R_keep (IsS113.apart (show IsS113 c_ w _ g108 t104 x109001_2 x109002_2 x109003_2 from by repeat (first | (with_reducible first | exact HI108.out | apply IsS113.alloc | apply IsS113.drewN | apply IsS113.drew | apply IsS113.set_1 | apply IsS113.set_2 | apply IsS113.set_3) | exact HI108.out)) (by (with_reducible repeat (first | apply Kd.R_alloc | apply Kd.R_drewN | apply Kd.R_drew)); exact HO_6.out) (by decide)) hk (fun _ h => h.2)) (fun _ h => h.1)); have n1_ := Aside0.mk (hb); have n2_ := Aside0.mk (hi); clear HO_6; clear HB; clear HI108; have HO_6 := n0_; have HB := n1_; have HI108 := n2_; clear n0_ n1_ n2_; (try clear hb); (try clear hb2); (try clear hk); (try clear hi)) | ((with_reducible refine gate_callee (f := 94) rfl ?_); refine goesL_ (some 71) rfl rfl Try.func94 (by kernel_rfl) rfl #[.pointer (some ⟨g108, 0, none⟩), .int .i64 2] rfl (by (try simp only [List.map_toArray, List.map_cons, List.map_nil]); first | done | rfl | (simp only [List.length_drop, List.length_take]; rfl)) ?_; (with_reducible refine (spec_l1Next.calls c_ g108 t104 t162 t163 t164 2 t165 t166 t167 t168 w _ ?side1 ?side2 A61.out).mono ?_); (case side1 => repeat (first | (with_reducible first | exact HI108.out | apply IsS113.alloc | apply IsS113.drewN | apply IsS113.drew | apply IsS113.set_1 | apply IsS113.set_2 | apply IsS113.set_3) | exact HI108.out)); (case side2 => repeat (first | (with_reducible first | exact HB.out | apply below_alloc | apply pw_below_drewN | apply below_drew1 | refine below_set ?_ (IsS113.ge HI108.out)) | exact HB.out)); rintro e w63 ⟨rfl, hi, hb, hk⟩; refine ⟨_, rfl, ?_⟩; have n0_ := Aside0.mk (Kd.R_mono (Kd.R_keep (IsS113.apart (show IsS113 c_ w _ g108 t104 t162 t163 t164 from by repeat (first | (with_reducible first | exact HI108.out | apply IsS113.alloc | apply IsS113.drewN | apply IsS113.drew | apply IsS113.set_1 | apply IsS113.set_2 | apply IsS113.set_3) | exact HI108.out)) (by (with_reducible repeat (first | apply Kd.R_alloc | apply Kd.R_drewN | apply Kd.R_drew)); exact HO_6.out) (by decide)) hk (fun _ h => h.2)) (fun _ h => h.1)); have n1_ := Aside0.mk (hb); have n2_ := Aside0.mk (hi); clear HO_6; clear HB; clear HI108; have HO_6 := n0_; have HB := n1_; have HI108 := n2_; clear n0_ n1_ n2_; (try clear hb); (try clear hb2); (try clear hk); (try clear hi)))
              go_loopg [6] k2 (fun kq v6 w' => ∃ (x6_3 : List (S67)), Aside0 (spec_DrawPoolRun.l1 kq x5_4 x6_3 (wrap64 (2000 + t165)) = some (r1, r2)) ∧ Aside0 (kq ≤ k2) ∧ Aside0 (Kd.R k67 67 w' w.heap.size (fun _ => True) v6 x6_3) ∧ Aside0 (Below w.heap.size w w'))
              case atStart => exact ⟨(x6_2), H', ⟨Nat.le_refl _⟩, ⟨by (with_reducible repeat (first | apply Kd.R_alloc | apply Kd.R_drewN | apply Kd.R_drew)); exact HO_6.out⟩, ⟨by repeat (first | (with_reducible first | exact HB.out | apply below_alloc | apply pw_below_drewN | apply below_drew1 | refine below_set ?_ (IsS113.ge HI108.out)) | exact HB.out)⟩⟩
              case round =>
                clear H'
                try clear c1
                try clear c2
                try clear p2
                try clear c3
                try clear c4
                try clear c5
                try clear c6
                try clear p6
                try clear c9
                try clear c9b0
                try clear c9b1
                try clear c17
                try clear c17b0
                try clear c24
                try clear c26
                try clear c26b0
                try clear c29
                try clear c32
                try clear c32b0
                try clear c32b1
                try clear c35
                try clear c37
                try clear c37b0
                try clear c37b1
                try clear c39
                try clear c39b0
                try clear c39b1
                try clear c40
                try clear c42
                try clear c45
                try clear c47
                try clear c50
                try clear c50b0
                try clear c50b1
                try clear c51
                try clear c52
                try clear c55
                try clear c56
                try clear c60
                try clear c60b0
                try clear c60b1
                try clear hcz15_0
                try clear hcz15_1
                try clear hcz15_2
                try clear hcz15_3
                try clear hcz25_0
                try clear hcz25_1
                try clear hcz25_2
                try clear hcz30_0
                try clear hcz30_1
                try clear hcz30_2
                try clear hcz36_0
                try clear hcz36_1
                try clear hcz36_2
                try clear hcz43_0
                try clear hcz43_1
                try clear hcz43_2
                try clear hcz48_0
                try clear hcz48_1
                try clear hcz48_2
                try clear hcz53_0
                try clear hcz53_1
                try clear hcz53_2
                try clear hcz57_0
                try clear hcz57_1
                try clear hcz57_2
                try clear hfz15_1
                try clear hfz15_2
                try clear hfz15_3
                try clear hfz25_0
                try clear hfz25_1
                try clear hfz25_2
                try clear hfz30_0
                try clear hfz30_1
                try clear hfz30_2
                try clear hfz36_0
                try clear hfz36_1
                try clear hfz36_2
                try clear hfz43_0
                try clear hfz43_1
                try clear hfz43_2
                try clear hfz48_0
                try clear hfz48_1
                try clear hfz48_2
                try clear hfz53_0
                try clear hfz53_1
                try clear hfz53_2
                try clear hfz57_0
                try clear hfz57_1
                try clear hfz57_2
                try clear p2
                try clear p6
                obtain ⟨x6_3, HA, HK3, HO_6, HB⟩ := hrel
                cases gk with
                | zero => exact absurd HA.out (by simp [spec_DrawPoolRun.l1])
                | succ k3 =>
                  have H := HA.out
                  clear HA
                  simp only [spec_DrawPoolRun.l1] at H
                  by_cases c64 : (x6_3.length : Int) < (wrap64 (2000 + t165))
                  · rw [if_pos c64] at H
                    have c64b0 : decide ((x6_3.length : Int) < (wrap64 (2000 + t165))) = true := decide_eq_true c64
                    clear c64
                    by_cases c65 : x6_3.length < 5864062014805
                    · rw [if_pos c65] at H
                      have LMc65 := Aside0.mk c65
                      clear c65
                      obtain ⟨y169, hy169⟩ : ∃ y_ : List (S67), y_ = (x6_3 ++ [(⟨2, 0, (x6_3.length : Int) % 5⟩ : S67)]) := ⟨_, rfl⟩
                      replace H : (spec_DrawPoolRun.l1 k3 x5_4 y169 (wrap64 (2000 + t165))) = some (r1, r2) := by first | (rw [hy169]; with_reducible exact H) | (have H2_ := (Option.bind_some _ _).symm.trans H; rw [hy169]; with_reducible exact H2_) | (have H2_ := (Option.bind_some _ _).symm.trans H; with_reducible exact H2_) | with_reducible exact H | (rw [hy169]; exact H) | exact H
                      have Ny169 := Aside0.mk hy169
                      clear hy169
                      have H' := Aside0.mk H
                      clear H
                      obtain ⟨Ao66, co66, eo66⟩ := Kd.R_slice HO_6.out
                      subst eo66
                      go_wp2_with (first | ((with_reducible refine gate_builtin (b := .append) (xs := #[.tmp 77, .tmp 82]) rfl ?_); at_builtin; refine Kd.R_append k67 (w0 := w) w.heap.size rfl (.tmp 77) (.tmp 82) 59 67 (.agg #[(.int .i64 0), (.int .i64 0), (.int .i64 0)]) 24 rfl Try.underlying59 info67 rfl (by decide) (by omega) (.slice Ao66 x6_3.length co66) x6_3 (⟨2, 0, (x6_3.length : Int) % 5⟩ : S67) [.int .i64 2, .int .i64 0, .int .i64 ((x6_3.length : Int) % 5)] (fun _ => True) (fun _ => False) rfl rfl ?aP (fun _ hk => hk.elim) ?aF ?aO ?aB ?aS ?aL ?_; (case aP => exact k67_mkM _ _ _ (⟨2, 0, (x6_3.length : Int) % 5⟩ : S67)); (case aB => exact (by repeat (first | (with_reducible first | exact HB.out | apply below_alloc | apply pw_below_drewN | apply below_drew1) | exact HB.out))); (case aF => exact (fun _ _ => trivial)); (case aO => exact (by (with_reducible repeat (first | apply Kd.R_alloc | apply Kd.R_drewN | apply Kd.R_drew)); exact HO_6.out)); (case aS => exact (below_size (by repeat (first | (with_reducible first | exact HB.out | apply below_alloc | apply pw_below_drewN | apply below_drew1) | exact HB.out)))); (case aL => have := LMc65.out; omega); intro v170 w67 ho hb hg hat; rw [← Ny169.out] at ho; have n0_ := Aside0.mk (hb); have n1_ := Aside0.mk (ho); clear HB; clear HO_6; have HB := n0_; have HO171 := n1_; clear n0_ n1_; clear ho hb hg hat))
                      go_roundg k3
                      case measure => have := HJ4.out; have := HK2.out; have := HK3.out; omega
                      case rel => exact ⟨(y169), H', ⟨by have := HJ4.out; have := HK2.out; have := HK3.out; omega⟩, ⟨by (with_reducible repeat (first | apply Kd.R_alloc | apply Kd.R_drewN | apply Kd.R_drew)); exact HO171.out⟩, ⟨by repeat (first | (with_reducible first | exact HB.out | apply below_alloc | apply pw_below_drewN | apply below_drew1) | exact HB.out)⟩⟩
                    · rw [if_neg c65] at H
                      exact absurd H (by simp)
                  · rw [if_neg c64] at H
                    have c64b0 : decide ((x6_3.length : Int) < (wrap64 (2000 + t165))) = false := decide_eq_false c64
                    clear c64
                    simp only [Option.some.injEq, Prod.mk.injEq] at H
                    obtain ⟨rfl, rfl⟩ := H
                    obtain ⟨Ao68, co68, eo68⟩ := Kd.R_slice HO_6.out
                    subst eo68
                    go_wp2
                    go_ret2
                    exact ⟨_, by first | rfl | (simp [errW_none, errW_some] <;> rfl) | (simp [*, errW_none, errW_some] <;> rfl), by (with_reducible repeat (first | apply Kd.R_alloc | apply Kd.R_drewN | apply Kd.R_drew)); exact HO_6.out, by repeat (first | (with_reducible first | exact HB.out | apply below_alloc | apply pw_below_drewN | apply below_drew1) | exact HB.out)⟩
            · rw [if_neg c60] at H
              have c60b0 : (t161 == 0) = false := beq_eq_false_iff_ne.mpr c60
              have c60b1 : (t161 != 0) = true := bne_iff_ne.mpr c60
              simp only [Option.some.injEq, Prod.mk.injEq] at H
              obtain ⟨rfl, rfl⟩ := H
              go_wp2_with (first | ((with_reducible refine gate_callee (f := 94) rfl ?_); refine goesL_ (some 68) rfl rfl Try.func94 (by kernel_rfl) rfl #[.pointer (some ⟨g108, 0, none⟩), .int .i64 60] rfl (by (try simp only [List.map_toArray, List.map_cons, List.map_nil]); first | done | rfl | (simp only [List.length_drop, List.length_take]; rfl)) ?_; (with_reducible refine (spec_l1Next.calls c_ g108 t104 x109001_2 x109002_2 x109003_2 60 t161 t162 t163 t164 w _ ?side1 ?side2 A59.out).mono ?_); (case side1 => repeat (first | (with_reducible first | exact HI108.out | apply IsS113.alloc | apply IsS113.drewN | apply IsS113.drew | apply IsS113.set_1 | apply IsS113.set_2 | apply IsS113.set_3) | exact HI108.out)); (case side2 => repeat (first | (with_reducible first | exact HB.out | apply below_alloc | apply pw_below_drewN | apply below_drew1 | refine below_set ?_ (IsS113.ge HI108.out)) | exact HB.out)); rintro e w69 ⟨rfl, hi, hb, hk⟩; refine ⟨_, rfl, ?_⟩; have n0_ := Aside0.mk (Kd.R_mono (Kd.R_keep (IsS113.apart (show IsS113 c_ w _ g108 t104 x109001_2 x109002_2 x109003_2 from by repeat (first | (with_reducible first | exact HI108.out | apply IsS113.alloc | apply IsS113.drewN | apply IsS113.drew | apply IsS113.set_1 | apply IsS113.set_2 | apply IsS113.set_3) | exact HI108.out)) (by (with_reducible repeat (first | apply Kd.R_alloc | apply Kd.R_drewN | apply Kd.R_drew)); exact HO_6.out) (by decide)) hk (fun _ h => h.2)) (fun _ h => h.1)); have n1_ := Aside0.mk (hb); have n2_ := Aside0.mk (hi); clear HO_6; clear HB; clear HI108; have HO_6 := n0_; have HB := n1_; have HI108 := n2_; clear n0_ n1_ n2_; (try clear hb); (try clear hb2); (try clear hk); (try clear hi)))
              go_ret2
              exact ⟨_, by first | rfl | (simp [errW_none, errW_some] <;> rfl) | (simp [*, errW_none, errW_some] <;> rfl), by (with_reducible repeat (first | apply Kd.R_alloc | apply Kd.R_drewN | apply Kd.R_drew)); exact HO_6.out, by repeat (first | (with_reducible first | exact HB.out | apply below_alloc | apply pw_below_drewN | apply below_drew1 | refine below_set ?_ (IsS113.ge HI108.out)) | exact HB.out)⟩

/-! ### spec_RoundBytes: function 19 -/
mutual
def spec_RoundBytes.j0 : Nat → Int → Bool → Option (Int)
  | 0, _, _ => none
  | k + 1, x0, x9 => if x9 = true then (some (-1)) else (spec_RoundBytes.l0 k x0 16)
def spec_RoundBytes.l0 : Nat → Int → Int → Option (Int)
  | 0, _, _ => none
  | k + 1, x0, x3 => if x3 < x0 then (spec_RoundBytes.l0 k x0 (wrap64 (x3 * 2))) else (some x3)
end
def spec_RoundBytes.f (k : Nat) (a0 : Int) : Option (Int) := if a0 < 0 then (spec_RoundBytes.j0 k a0 true) else (spec_RoundBytes.j0 k a0 (decide (a0 > 65536)))
theorem spec_RoundBytes.mono_l : ∀ k, (∀ y0 y1, LeO (spec_RoundBytes.j0 k y0 y1) (spec_RoundBytes.j0 (k + 1) y0 y1)) ∧ (∀ y0 y1, LeO (spec_RoundBytes.l0 k y0 y1) (spec_RoundBytes.l0 (k + 1) y0 y1))
  | 0 => ⟨fun _ _ r h => by simp [spec_RoundBytes.j0] at h, fun _ _ r h => by simp [spec_RoundBytes.l0] at h⟩
  | k + 1 => by
    obtain ⟨ih0, ih1⟩ := spec_RoundBytes.mono_l k
    refine ⟨?_, ?_⟩
    · intro y0 y1
      unfold spec_RoundBytes.j0
      repeat' first
      | (with_reducible exact ih0 _ _)
      | (with_reducible exact ih1 _ _)
      | (with_reducible exact LeO.refl _)
      | (with_reducible exact LeO.none _)
      | (with_reducible refine LeO.ite ?_ ?_)
      | (with_reducible refine LeO.bind ?_ (fun _ => ?_))
      | exact ih0 _ _
      | exact ih1 _ _
      | exact LeO.none _
      | refine LeO.ite ?_ ?_
      | refine LeO.bind ?_ (fun _ => ?_)
    · intro y0 y1
      unfold spec_RoundBytes.l0
      repeat' first
      | (with_reducible exact ih0 _ _)
      | (with_reducible exact ih1 _ _)
      | (with_reducible exact LeO.refl _)
      | (with_reducible exact LeO.none _)
      | (with_reducible refine LeO.ite ?_ ?_)
      | (with_reducible refine LeO.bind ?_ (fun _ => ?_))
      | exact ih0 _ _
      | exact ih1 _ _
      | exact LeO.none _
      | refine LeO.ite ?_ ?_
      | refine LeO.bind ?_ (fun _ => ?_)
theorem spec_RoundBytes.mono : ∀ a0 k, LeO (spec_RoundBytes.f k a0) (spec_RoundBytes.f (k + 1) a0) := by
  intro a0 k
  obtain ⟨ih0, ih1⟩ := spec_RoundBytes.mono_l k
  unfold spec_RoundBytes.f
  repeat' first
      | (with_reducible exact ih0 _ _)
      | (with_reducible exact ih1 _ _)
      | (with_reducible exact LeO.refl _)
      | (with_reducible exact LeO.none _)
      | (with_reducible refine LeO.ite ?_ ?_)
      | (with_reducible refine LeO.bind ?_ (fun _ => ?_))
      | exact ih0 _ _
      | exact ih1 _ _
      | exact LeO.none _
      | refine LeO.ite ?_ ?_
      | refine LeO.bind ?_ (fun _ => ?_)
set_option maxHeartbeats 8000000 in
set_option maxRecDepth 100000 in
theorem spec_RoundBytes.calls (k : Nat) (a0 : Int) (r : Int) (w : World) (h : spec_RoundBytes.f k a0 = some r) :
    Calls Try.prog 19 #[.int .i64 a0] w fun e w' => e = .returned (.int .i64 r) ∧ Drawn0 w w' := by
  have H : (if a0 < 0 then (spec_RoundBytes.j0 k a0 true) else (spec_RoundBytes.j0 k a0 (decide (a0 > 65536)))) = some r := h
  clear h
  have HC2 := Aside0.mk H
  clear H
  go_enter Try.func19, Try.ntmps19
  go_upto_region 1 with (fail)
  go_cut [9] (fun v9 wc => ∃ (kq : Nat) (x9_1 : Bool), v9 = .bool x9_1 ∧ Aside0 (spec_RoundBytes.j0 kq a0 x9_1 = some r) ∧ Aside0 (kq ≤ k) ∧ Drawn0 w wc)
  case first =>
    have H := HC2.out
    clear HC2
    by_cases c3 : a0 < 0
    · rw [if_pos c3] at H
      have c3b0 : decide (a0 < 0) = true := decide_eq_true c3
      clear c3
      (first | rw [c3b0] | (simp only [i64_w, i32_w]; rw [c3b0]) | skip)
      have H' := Aside0.mk H
      clear H
      go_wp2
      go_meet
      case rel => exact ⟨_, (true), (by first | rfl | (simp; done) | (simp [*]; done)), H', ⟨by first | omega | exact Nat.le_refl _⟩, by repeat (first | exact Drawn0.refl _ | apply Drawn0.step)⟩
    · rw [if_neg c3] at H
      have c3b0 : decide (a0 < 0) = false := decide_eq_false c3
      clear c3
      (first | rw [c3b0] | (simp only [i64_w, i32_w]; rw [c3b0]) | skip)
      have H' := Aside0.mk H
      clear H
      go_wp2
      go_meet
      case rel => exact ⟨_, (decide (a0 > 65536)), (by first | rfl | (simp; done) | (simp [*]; done)), H', ⟨by first | omega | exact Nat.le_refl _⟩, by repeat (first | exact Drawn0.refl _ | apply Drawn0.step)⟩
  case rest =>
    clear HC2
    try clear c1
    try clear p2
    try clear c3
    try clear c3b0
    obtain ⟨kq, x9_1, rfl, HA, HJ1, ⟨mc1, rfl⟩⟩ := hcut
    cases kq with
    | zero => exact absurd HA.out (by simp [spec_RoundBytes.j0])
    | succ kj1 =>
      have H := HA.out
      clear HA
      simp only [spec_RoundBytes.j0] at H
      by_cases c4 : x9_1 = true
      · subst c4
        have H1 : (some (-1)) = some r := by rw [if_pos rfl] at H; exact H
        clear H
        have H := H1
        clear H1
        obtain rfl := Option.some.inj H
        go_wp2
        go_ret
        exact ⟨by first | rfl | (simp; done) | (simp [*]; done), by repeat (first | exact Drawn0.refl _ | apply Drawn0.step)⟩
      · replace c4 := Bool.eq_false_iff.mpr c4
        subst c4
        have H1 : (spec_RoundBytes.l0 kj1 a0 16) = some r := by rw [if_neg (show ¬ (false = true) by decide)] at H; exact H
        clear H
        have H := H1
        clear H1
        have H' := Aside0.mk H
        clear H
        go_wp2
        go_loopg [3] kj1 (fun kq v3 w' => ∃ (x3_2 : Int), v3 = .int .i64 x3_2 ∧ Aside0 (spec_RoundBytes.l0 kq a0 x3_2 = some r) ∧ Aside0 (kq ≤ kj1) ∧ Drawn0 w w')
        case atStart => exact ⟨(16), (by first | rfl | (simp; done) | (simp [*]; done)), H', ⟨Nat.le_refl _⟩, by repeat (first | exact Drawn0.refl _ | apply Drawn0.step)⟩
        case round =>
          clear H'
          try clear c1
          try clear p2
          try clear c3
          try clear c3b0
          try clear c4
          try clear p2
          obtain ⟨x3_2, rfl, HA, HK2, ⟨m2, rfl⟩⟩ := hrel
          cases gk with
          | zero => exact absurd HA.out (by simp [spec_RoundBytes.l0])
          | succ k2 =>
            have H := HA.out
            clear HA
            simp only [spec_RoundBytes.l0] at H
            by_cases c5 : x3_2 < a0
            · rw [if_pos c5] at H
              have c5b0 : decide (x3_2 < a0) = true := decide_eq_true c5
              clear c5
              have H' := Aside0.mk H
              clear H
              go_wp2
              go_roundg k2
              case measure => have := HJ1.out; have := HK2.out; omega
              case rel => exact ⟨(wrap64 (x3_2 * 2)), (by first | rfl | (simp; done) | (simp [*]; done)), H', ⟨by have := HJ1.out; have := HK2.out; omega⟩, by repeat (first | exact Drawn0.refl _ | apply Drawn0.step)⟩
            · rw [if_neg c5] at H
              have c5b0 : decide (x3_2 < a0) = false := decide_eq_false c5
              clear c5
              obtain rfl := Option.some.inj H
              go_wp2
              go_ret
              exact ⟨by first | rfl | (simp; done) | (simp [*]; done), by repeat (first | exact Drawn0.refl _ | apply Drawn0.step)⟩

end Go.Proofs.Ytpmdgmnpkdoamaa.DFnPool
