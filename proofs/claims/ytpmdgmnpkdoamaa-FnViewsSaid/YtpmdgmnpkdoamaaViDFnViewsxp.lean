/- Proved here: what the functions answer that the law on  comes to (the lines were written by a program). Conditions: those that stand ahead in each theorem. -/
import Derived.Test.YtpmdgmnpkdoamaaViWSq
import Derived.Test.YtpmdgmnpkdoamaaViDFnViewsx0
import Derived.Test.YtpmdgmnpkdoamaaViDFnViewsx4
import Derived.Test.YtpmdgmnpkdoamaaViDFnViewsxo
import Derived.Test.YtpmdgmnpkdoamaaViDFnViewsx20
namespace Go.Proofs.Ytpmdgmnpkdoamaa.DFnViews
open Go.RowKit Go.Proofs.YtpmdgmnpkdoamaaW.PrintWords Go.Proofs.YtpmdgmnpkdoamaaW.PrintLast Go.Proofs.YtpmdgmnpkdoamaaW.PrintMore
attribute [local go_sem] max2_int min2_int max_two min_two max_three min_three max_four min_four   -- for this text's walks alone
set_option linter.unusedVariables false
set_option linter.unusedSimpArgs false

mutual
def laws_lwPlaces.j0 : Nat → Int → Int → Int → List Int → List Int → Bool → List Int → List Int → Int → List Int → List Int → Int → List Int → List Int → Int → Option (Bool)
 | 0, _, _, _, _, _, _, _, _, _, _, _, _, _, _, _ => none
 | k + 1, x2, x3, x5, x6, x15, x42, x738000, x738001, x738002, x739000, x739001, x739002, x740000, x740001, x740002 => if x42 = true then (some false) else (laws_lwPlaces.l0 k x2 x3 x5 x6 x15 0 x738000 x738001 x738002 x739000 x739001 x739002 x740000 x740001 x740002)
def laws_lwPlaces.l0 : Nat → Int → Int → Int → List Int → List Int → Int → List Int → List Int → Int → List Int → List Int → Int → List Int → List Int → Int → Option (Bool)
 | 0, _, _, _, _, _, _, _, _, _, _, _, _, _, _, _ => none
 | k + 1, x2, x3, x5, x6, x15, x16, x738000, x738001, x738002, x739000, x739001, x739002, x740000, x740001, x740002 => if x16 < (x15.length : Int) then ((laws_lwIndex.f k x739000 x16).bind fun t746 => (laws_lwPlaces.l1 k x2 x3 x5 x6 x15 x16 t746 x738002 0 x738000 x738001 x738002 x739000 x739001 x739002 x740000 x740001 x740002)) else (some true)
def laws_lwPlaces.l1 : Nat → Int → Int → Int → List Int → List Int → Int → List Int → Int → Int → List Int → List Int → Int → List Int → List Int → Int → List Int → List Int → Int → Option (Bool)
 | 0, _, _, _, _, _, _, _, _, _, _, _, _, _, _, _, _, _, _ => none
 | k + 1, x2, x3, x5, x6, x15, x16, x17, x18, x19, x738000, x738001, x738002, x739000, x739001, x739002, x740000, x740001, x740002 => if x19 < (x738000.length : Int) then (if x2 = 0 then (if 0 ≤ x19 then (if x19 < (x17.length : Int) then (if x19 = x3 then (laws_lwPlaces.j3 k x2 x3 x5 x6 x15 x16 x17 x18 x19 (wrap64 ((rd x17 x19) * x5)) x738000 x738001 x738002 x739000 x739001 x739002 x740000 x740001 x740002) else (laws_lwPlaces.j3 k x2 x3 x5 x6 x15 x16 x17 x18 x19 (rd x17 x19) x738000 x738001 x738002 x739000 x739001 x739002 x740000 x740001 x740002)) else (none)) else (none)) else (laws_lwPlaces.j3 k x2 x3 x5 x6 x15 x16 x17 x18 x19 0 x738000 x738001 x738002 x739000 x739001 x739002 x740000 x740001 x740002)) else (if x2 = 0 then (if 0 ≤ x16 then (if x16 < (x15.length : Int) then (if (rd x15 x16) = (wrap64 (x18 + (wrap64 (x740002 - x738002)))) then (laws_lwPlaces.l0 k x2 x3 x5 x6 x15 (wrap64 (x16 + 1)) x738000 x738001 x738002 x739000 x739001 x739002 x740000 x740001 x740002) else (some false)) else (none)) else (none)) else (if 0 ≤ x16 then (if x16 < (x15.length : Int) then (if (rd x15 x16) = x18 then (laws_lwPlaces.l0 k x2 x3 x5 x6 x15 (wrap64 (x16 + 1)) x738000 x738001 x738002 x739000 x739001 x739002 x740000 x740001 x740002) else (some false)) else (none)) else (none)))
def laws_lwPlaces.j3 : Nat → Int → Int → Int → List Int → List Int → Int → List Int → Int → Int → Int → List Int → List Int → Int → List Int → List Int → Int → List Int → List Int → Int → Option (Bool)
 | 0, _, _, _, _, _, _, _, _, _, _, _, _, _, _, _, _, _, _, _ => none
 | k + 1, x2, x3, x5, x6, x15, x16, x17, x18, x19, x20, x738000, x738001, x738002, x739000, x739001, x739002, x740000, x740001, x740002 => if x2 = 1 then (laws_lwPlaces.l2 k x2 x3 x5 x6 x15 x16 x17 x18 x19 x20 0 x738000 x738001 x738002 x739000 x739001 x739002 x740000 x740001 x740002) else (if x2 = 2 then (if 0 ≤ x19 then (if x19 < (x738000.length : Int) then (if (rd x738000 x19) = 1 then (if x19 < (x738001.length : Int) then (laws_lwPlaces.l1 k x2 x3 x5 x6 x15 x16 x17 (wrap64 (x18 + (wrap64 (x20 * (rd x738001 x19))))) (wrap64 (x19 + 1)) x738000 x738001 x738002 x739000 x739001 x739002 x740000 x740001 x740002) else (none)) else (if 0 ≤ (wrap64 ((wrap64 ((x739000.length : Int) - (x738000.length : Int))) + x19)) then (if (wrap64 ((wrap64 ((x739000.length : Int) - (x738000.length : Int))) + x19)) < (x17.length : Int) then (if x19 < (x738001.length : Int) then (laws_lwPlaces.l1 k x2 x3 x5 x6 x15 x16 x17 (wrap64 (x18 + (wrap64 ((rd x17 (wrap64 ((wrap64 ((x739000.length : Int) - (x738000.length : Int))) + x19))) * (rd x738001 x19))))) (wrap64 (x19 + 1)) x738000 x738001 x738002 x739000 x739001 x739002 x740000 x740001 x740002) else (none)) else (none)) else (none))) else (none)) else (none)) else (if 0 ≤ x19 then (if x19 < (x738001.length : Int) then (laws_lwPlaces.l1 k x2 x3 x5 x6 x15 x16 x17 (wrap64 (x18 + (wrap64 (x20 * (rd x738001 x19))))) (wrap64 (x19 + 1)) x738000 x738001 x738002 x739000 x739001 x739002 x740000 x740001 x740002) else (none)) else (none)))
def laws_lwPlaces.l2 : Nat → Int → Int → Int → List Int → List Int → Int → List Int → Int → Int → Int → Int → List Int → List Int → Int → List Int → List Int → Int → List Int → List Int → Int → Option (Bool)
 | 0, _, _, _, _, _, _, _, _, _, _, _, _, _, _, _, _, _, _, _, _ => none
 | k + 1, x2, x3, x5, x6, x15, x16, x17, x18, x19, x20, x21, x738000, x738001, x738002, x739000, x739001, x739002, x740000, x740001, x740002 => if x21 < (x6.length : Int) then (if 0 ≤ x21 then (if (rd x6 x21) = x19 then (if x21 < (x17.length : Int) then (laws_lwPlaces.l2 k x2 x3 x5 x6 x15 x16 x17 x18 x19 (rd x17 x21) (wrap64 (x21 + 1)) x738000 x738001 x738002 x739000 x739001 x739002 x740000 x740001 x740002) else (none)) else (laws_lwPlaces.l2 k x2 x3 x5 x6 x15 x16 x17 x18 x19 x20 (wrap64 (x21 + 1)) x738000 x738001 x738002 x739000 x739001 x739002 x740000 x740001 x740002)) else (none)) else (if x2 = 2 then (if 0 ≤ x19 then (if x19 < (x738000.length : Int) then (if (rd x738000 x19) = 1 then (if x19 < (x738001.length : Int) then (laws_lwPlaces.l1 k x2 x3 x5 x6 x15 x16 x17 (wrap64 (x18 + (wrap64 (x20 * (rd x738001 x19))))) (wrap64 (x19 + 1)) x738000 x738001 x738002 x739000 x739001 x739002 x740000 x740001 x740002) else (none)) else (if 0 ≤ (wrap64 ((wrap64 ((x739000.length : Int) - (x738000.length : Int))) + x19)) then (if (wrap64 ((wrap64 ((x739000.length : Int) - (x738000.length : Int))) + x19)) < (x17.length : Int) then (if x19 < (x738001.length : Int) then (laws_lwPlaces.l1 k x2 x3 x5 x6 x15 x16 x17 (wrap64 (x18 + (wrap64 ((rd x17 (wrap64 ((wrap64 ((x739000.length : Int) - (x738000.length : Int))) + x19))) * (rd x738001 x19))))) (wrap64 (x19 + 1)) x738000 x738001 x738002 x739000 x739001 x739002 x740000 x740001 x740002) else (none)) else (none)) else (none))) else (none)) else (none)) else (if 0 ≤ x19 then (if x19 < (x738001.length : Int) then (laws_lwPlaces.l1 k x2 x3 x5 x6 x15 x16 x17 (wrap64 (x18 + (wrap64 (x20 * (rd x738001 x19))))) (wrap64 (x19 + 1)) x738000 x738001 x738002 x739000 x739001 x739002 x740000 x740001 x740002) else (none)) else (none)))
end
def laws_lwPlaces.f (k : Nat) (l0_0 : List Int) (l0_1 : List Int) (a0_2 : Int) (l1_0 : List Int) (l1_1 : List Int) (a1_2 : Int) (a2 : Int) (a3 : Int) (l4_0 : List Int) (l4_1 : List Int) (a4_2 : Int) (a5 : Int) (l6 : List Int) : Option (Bool) := (zI.f k l1_0 l1_1 a1_2).bind fun t740 => (if t740 = true then ((impl_Offsets.f k l1_0 l1_1 a1_2).bind fun t741 => ((laws_lwCount.f k l1_0).bind fun t744 => (if (t741.length : Int) = t744 then (if a2 = 0 then ((laws_lwSame.f k l1_0 l4_0).bind fun t745 => (laws_lwPlaces.j0 k a2 a3 a5 l6 t741 (!t745) l0_0 l0_1 a0_2 l1_0 l1_1 a1_2 l4_0 l4_1 a4_2)) else (laws_lwPlaces.j0 k a2 a3 a5 l6 t741 false l0_0 l0_1 a0_2 l1_0 l1_1 a1_2 l4_0 l4_1 a4_2)) else (some false)))) else (some false))
theorem laws_lwPlaces.mono_l : ∀ k, (∀ y0 y1 y2 y3 y4 y5 y6 y7 y8 y9 y10 y11 y12 y13 y14, LeO (laws_lwPlaces.j0 k y0 y1 y2 y3 y4 y5 y6 y7 y8 y9 y10 y11 y12 y13 y14) (laws_lwPlaces.j0 (k + 1) y0 y1 y2 y3 y4 y5 y6 y7 y8 y9 y10 y11 y12 y13 y14)) ∧ (∀ y0 y1 y2 y3 y4 y5 y6 y7 y8 y9 y10 y11 y12 y13 y14, LeO (laws_lwPlaces.l0 k y0 y1 y2 y3 y4 y5 y6 y7 y8 y9 y10 y11 y12 y13 y14) (laws_lwPlaces.l0 (k + 1) y0 y1 y2 y3 y4 y5 y6 y7 y8 y9 y10 y11 y12 y13 y14)) ∧ (∀ y0 y1 y2 y3 y4 y5 y6 y7 y8 y9 y10 y11 y12 y13 y14 y15 y16 y17, LeO (laws_lwPlaces.l1 k y0 y1 y2 y3 y4 y5 y6 y7 y8 y9 y10 y11 y12 y13 y14 y15 y16 y17) (laws_lwPlaces.l1 (k + 1) y0 y1 y2 y3 y4 y5 y6 y7 y8 y9 y10 y11 y12 y13 y14 y15 y16 y17)) ∧ (∀ y0 y1 y2 y3 y4 y5 y6 y7 y8 y9 y10 y11 y12 y13 y14 y15 y16 y17 y18, LeO (laws_lwPlaces.j3 k y0 y1 y2 y3 y4 y5 y6 y7 y8 y9 y10 y11 y12 y13 y14 y15 y16 y17 y18) (laws_lwPlaces.j3 (k + 1) y0 y1 y2 y3 y4 y5 y6 y7 y8 y9 y10 y11 y12 y13 y14 y15 y16 y17 y18)) ∧ (∀ y0 y1 y2 y3 y4 y5 y6 y7 y8 y9 y10 y11 y12 y13 y14 y15 y16 y17 y18 y19, LeO (laws_lwPlaces.l2 k y0 y1 y2 y3 y4 y5 y6 y7 y8 y9 y10 y11 y12 y13 y14 y15 y16 y17 y18 y19) (laws_lwPlaces.l2 (k + 1) y0 y1 y2 y3 y4 y5 y6 y7 y8 y9 y10 y11 y12 y13 y14 y15 y16 y17 y18 y19))
 | 0 => ⟨fun _ _ _ _ _ _ _ _ _ _ _ _ _ _ _ r h => by simp [laws_lwPlaces.j0] at h, fun _ _ _ _ _ _ _ _ _ _ _ _ _ _ _ r h => by simp [laws_lwPlaces.l0] at h, fun _ _ _ _ _ _ _ _ _ _ _ _ _ _ _ _ _ _ r h => by simp [laws_lwPlaces.l1] at h, fun _ _ _ _ _ _ _ _ _ _ _ _ _ _ _ _ _ _ _ r h => by simp [laws_lwPlaces.j3] at h, fun _ _ _ _ _ _ _ _ _ _ _ _ _ _ _ _ _ _ _ _ r h => by simp [laws_lwPlaces.l2] at h⟩
 | k + 1 => by
  obtain ⟨ih0, ih1, ih2, ih3, ih4⟩ := laws_lwPlaces.mono_l k
  refine ⟨?_, ?_, ?_, ?_, ?_⟩
  ·intro y0 y1 y2 y3 y4 y5 y6 y7 y8 y9 y10 y11 y12 y13 y14
   unfold laws_lwPlaces.j0
   repeat' first
   | (with_reducible exact ih0 _ _ _ _ _ _ _ _ _ _ _ _ _ _ _)
   | (with_reducible exact ih1 _ _ _ _ _ _ _ _ _ _ _ _ _ _ _)
   | (with_reducible exact ih2 _ _ _ _ _ _ _ _ _ _ _ _ _ _ _ _ _ _)
   | (with_reducible exact ih3 _ _ _ _ _ _ _ _ _ _ _ _ _ _ _ _ _ _ _)
   | (with_reducible exact ih4 _ _ _ _ _ _ _ _ _ _ _ _ _ _ _ _ _ _ _ _)
   | (with_reducible exact impl_Offsets.mono _ _ _ _)
   | (with_reducible exact zI.mono _ _ _ _)
   | (with_reducible exact laws_lwCount.mono _ _)
   | (with_reducible exact laws_lwIndex.mono _ _ _)
   | (with_reducible exact laws_lwSame.mono _ _ _)
   | (with_reducible exact LeO.refl _)
   | (with_reducible exact LeO.none _)
   | (with_reducible refine LeO.ite ?_ ?_)
   | (with_reducible refine LeO.bind ?_ (fun _ => ?_))
   | exact ih0 _ _ _ _ _ _ _ _ _ _ _ _ _ _ _
   | exact ih1 _ _ _ _ _ _ _ _ _ _ _ _ _ _ _
   | exact ih2 _ _ _ _ _ _ _ _ _ _ _ _ _ _ _ _ _ _
   | exact ih3 _ _ _ _ _ _ _ _ _ _ _ _ _ _ _ _ _ _ _
   | exact ih4 _ _ _ _ _ _ _ _ _ _ _ _ _ _ _ _ _ _ _ _
   | exact impl_Offsets.mono _ _ _ _
   | exact zI.mono _ _ _ _
   | exact laws_lwCount.mono _ _
   | exact laws_lwIndex.mono _ _ _
   | exact laws_lwSame.mono _ _ _
   | exact LeO.none _
   | refine LeO.ite ?_ ?_
   | refine LeO.bind ?_ (fun _ => ?_)
  ·intro y0 y1 y2 y3 y4 y5 y6 y7 y8 y9 y10 y11 y12 y13 y14
   unfold laws_lwPlaces.l0
   repeat' first
   | (with_reducible exact ih0 _ _ _ _ _ _ _ _ _ _ _ _ _ _ _)
   | (with_reducible exact ih1 _ _ _ _ _ _ _ _ _ _ _ _ _ _ _)
   | (with_reducible exact ih2 _ _ _ _ _ _ _ _ _ _ _ _ _ _ _ _ _ _)
   | (with_reducible exact ih3 _ _ _ _ _ _ _ _ _ _ _ _ _ _ _ _ _ _ _)
   | (with_reducible exact ih4 _ _ _ _ _ _ _ _ _ _ _ _ _ _ _ _ _ _ _ _)
   | (with_reducible exact impl_Offsets.mono _ _ _ _)
   | (with_reducible exact zI.mono _ _ _ _)
   | (with_reducible exact laws_lwCount.mono _ _)
   | (with_reducible exact laws_lwIndex.mono _ _ _)
   | (with_reducible exact laws_lwSame.mono _ _ _)
   | (with_reducible exact LeO.refl _)
   | (with_reducible exact LeO.none _)
   | (with_reducible refine LeO.ite ?_ ?_)
   | (with_reducible refine LeO.bind ?_ (fun _ => ?_))
   | exact ih0 _ _ _ _ _ _ _ _ _ _ _ _ _ _ _
   | exact ih1 _ _ _ _ _ _ _ _ _ _ _ _ _ _ _
   | exact ih2 _ _ _ _ _ _ _ _ _ _ _ _ _ _ _ _ _ _
   | exact ih3 _ _ _ _ _ _ _ _ _ _ _ _ _ _ _ _ _ _ _
   | exact ih4 _ _ _ _ _ _ _ _ _ _ _ _ _ _ _ _ _ _ _ _
   | exact impl_Offsets.mono _ _ _ _
   | exact zI.mono _ _ _ _
   | exact laws_lwCount.mono _ _
   | exact laws_lwIndex.mono _ _ _
   | exact laws_lwSame.mono _ _ _
   | exact LeO.none _
   | refine LeO.ite ?_ ?_
   | refine LeO.bind ?_ (fun _ => ?_)
  ·intro y0 y1 y2 y3 y4 y5 y6 y7 y8 y9 y10 y11 y12 y13 y14 y15 y16 y17
   unfold laws_lwPlaces.l1
   repeat' first
   | (with_reducible exact ih0 _ _ _ _ _ _ _ _ _ _ _ _ _ _ _)
   | (with_reducible exact ih1 _ _ _ _ _ _ _ _ _ _ _ _ _ _ _)
   | (with_reducible exact ih2 _ _ _ _ _ _ _ _ _ _ _ _ _ _ _ _ _ _)
   | (with_reducible exact ih3 _ _ _ _ _ _ _ _ _ _ _ _ _ _ _ _ _ _ _)
   | (with_reducible exact ih4 _ _ _ _ _ _ _ _ _ _ _ _ _ _ _ _ _ _ _ _)
   | (with_reducible exact impl_Offsets.mono _ _ _ _)
   | (with_reducible exact zI.mono _ _ _ _)
   | (with_reducible exact laws_lwCount.mono _ _)
   | (with_reducible exact laws_lwIndex.mono _ _ _)
   | (with_reducible exact laws_lwSame.mono _ _ _)
   | (with_reducible exact LeO.refl _)
   | (with_reducible exact LeO.none _)
   | (with_reducible refine LeO.ite ?_ ?_)
   | (with_reducible refine LeO.bind ?_ (fun _ => ?_))
   | exact ih0 _ _ _ _ _ _ _ _ _ _ _ _ _ _ _
   | exact ih1 _ _ _ _ _ _ _ _ _ _ _ _ _ _ _
   | exact ih2 _ _ _ _ _ _ _ _ _ _ _ _ _ _ _ _ _ _
   | exact ih3 _ _ _ _ _ _ _ _ _ _ _ _ _ _ _ _ _ _ _
   | exact ih4 _ _ _ _ _ _ _ _ _ _ _ _ _ _ _ _ _ _ _ _
   | exact impl_Offsets.mono _ _ _ _
   | exact zI.mono _ _ _ _
   | exact laws_lwCount.mono _ _
   | exact laws_lwIndex.mono _ _ _
   | exact laws_lwSame.mono _ _ _
   | exact LeO.none _
   | refine LeO.ite ?_ ?_
   | refine LeO.bind ?_ (fun _ => ?_)
  ·intro y0 y1 y2 y3 y4 y5 y6 y7 y8 y9 y10 y11 y12 y13 y14 y15 y16 y17 y18
   unfold laws_lwPlaces.j3
   repeat' first
   | (with_reducible exact ih0 _ _ _ _ _ _ _ _ _ _ _ _ _ _ _)
   | (with_reducible exact ih1 _ _ _ _ _ _ _ _ _ _ _ _ _ _ _)
   | (with_reducible exact ih2 _ _ _ _ _ _ _ _ _ _ _ _ _ _ _ _ _ _)
   | (with_reducible exact ih3 _ _ _ _ _ _ _ _ _ _ _ _ _ _ _ _ _ _ _)
   | (with_reducible exact ih4 _ _ _ _ _ _ _ _ _ _ _ _ _ _ _ _ _ _ _ _)
   | (with_reducible exact impl_Offsets.mono _ _ _ _)
   | (with_reducible exact zI.mono _ _ _ _)
   | (with_reducible exact laws_lwCount.mono _ _)
   | (with_reducible exact laws_lwIndex.mono _ _ _)
   | (with_reducible exact laws_lwSame.mono _ _ _)
   | (with_reducible exact LeO.refl _)
   | (with_reducible exact LeO.none _)
   | (with_reducible refine LeO.ite ?_ ?_)
   | (with_reducible refine LeO.bind ?_ (fun _ => ?_))
   | exact ih0 _ _ _ _ _ _ _ _ _ _ _ _ _ _ _
   | exact ih1 _ _ _ _ _ _ _ _ _ _ _ _ _ _ _
   | exact ih2 _ _ _ _ _ _ _ _ _ _ _ _ _ _ _ _ _ _
   | exact ih3 _ _ _ _ _ _ _ _ _ _ _ _ _ _ _ _ _ _ _
   | exact ih4 _ _ _ _ _ _ _ _ _ _ _ _ _ _ _ _ _ _ _ _
   | exact impl_Offsets.mono _ _ _ _
   | exact zI.mono _ _ _ _
   | exact laws_lwCount.mono _ _
   | exact laws_lwIndex.mono _ _ _
   | exact laws_lwSame.mono _ _ _
   | exact LeO.none _
   | refine LeO.ite ?_ ?_
   | refine LeO.bind ?_ (fun _ => ?_)
  ·intro y0 y1 y2 y3 y4 y5 y6 y7 y8 y9 y10 y11 y12 y13 y14 y15 y16 y17 y18 y19
   unfold laws_lwPlaces.l2
   repeat' first
   | (with_reducible exact ih0 _ _ _ _ _ _ _ _ _ _ _ _ _ _ _)
   | (with_reducible exact ih1 _ _ _ _ _ _ _ _ _ _ _ _ _ _ _)
   | (with_reducible exact ih2 _ _ _ _ _ _ _ _ _ _ _ _ _ _ _ _ _ _)
   | (with_reducible exact ih3 _ _ _ _ _ _ _ _ _ _ _ _ _ _ _ _ _ _ _)
   | (with_reducible exact ih4 _ _ _ _ _ _ _ _ _ _ _ _ _ _ _ _ _ _ _ _)
   | (with_reducible exact impl_Offsets.mono _ _ _ _)
   | (with_reducible exact zI.mono _ _ _ _)
   | (with_reducible exact laws_lwCount.mono _ _)
   | (with_reducible exact laws_lwIndex.mono _ _ _)
   | (with_reducible exact laws_lwSame.mono _ _ _)
   | (with_reducible exact LeO.refl _)
   | (with_reducible exact LeO.none _)
   | (with_reducible refine LeO.ite ?_ ?_)
   | (with_reducible refine LeO.bind ?_ (fun _ => ?_))
   | exact ih0 _ _ _ _ _ _ _ _ _ _ _ _ _ _ _
   | exact ih1 _ _ _ _ _ _ _ _ _ _ _ _ _ _ _
   | exact ih2 _ _ _ _ _ _ _ _ _ _ _ _ _ _ _ _ _ _
   | exact ih3 _ _ _ _ _ _ _ _ _ _ _ _ _ _ _ _ _ _ _
   | exact ih4 _ _ _ _ _ _ _ _ _ _ _ _ _ _ _ _ _ _ _ _
   | exact impl_Offsets.mono _ _ _ _
   | exact zI.mono _ _ _ _
   | exact laws_lwCount.mono _ _
   | exact laws_lwIndex.mono _ _ _
   | exact laws_lwSame.mono _ _ _
   | exact LeO.none _
   | refine LeO.ite ?_ ?_
   | refine LeO.bind ?_ (fun _ => ?_)
theorem laws_lwPlaces.mono : ∀ a0 a1 a2 a3 a4 a5 a6 a7 a8 a9 a10 a11 a12 k, LeO (laws_lwPlaces.f k a0 a1 a2 a3 a4 a5 a6 a7 a8 a9 a10 a11 a12) (laws_lwPlaces.f (k + 1) a0 a1 a2 a3 a4 a5 a6 a7 a8 a9 a10 a11 a12) := by
 intro a0 a1 a2 a3 a4 a5 a6 a7 a8 a9 a10 a11 a12 k
 obtain ⟨ih0, ih1, ih2, ih3, ih4⟩ := laws_lwPlaces.mono_l k
 unfold laws_lwPlaces.f
 repeat' first
   | (with_reducible exact ih0 _ _ _ _ _ _ _ _ _ _ _ _ _ _ _)
   | (with_reducible exact ih1 _ _ _ _ _ _ _ _ _ _ _ _ _ _ _)
   | (with_reducible exact ih2 _ _ _ _ _ _ _ _ _ _ _ _ _ _ _ _ _ _)
   | (with_reducible exact ih3 _ _ _ _ _ _ _ _ _ _ _ _ _ _ _ _ _ _ _)
   | (with_reducible exact ih4 _ _ _ _ _ _ _ _ _ _ _ _ _ _ _ _ _ _ _ _)
   | (with_reducible exact impl_Offsets.mono _ _ _ _)
   | (with_reducible exact zI.mono _ _ _ _)
   | (with_reducible exact laws_lwCount.mono _ _)
   | (with_reducible exact laws_lwIndex.mono _ _ _)
   | (with_reducible exact laws_lwSame.mono _ _ _)
   | (with_reducible exact LeO.refl _)
   | (with_reducible exact LeO.none _)
   | (with_reducible refine LeO.ite ?_ ?_)
   | (with_reducible refine LeO.bind ?_ (fun _ => ?_))
   | exact ih0 _ _ _ _ _ _ _ _ _ _ _ _ _ _ _
   | exact ih1 _ _ _ _ _ _ _ _ _ _ _ _ _ _ _
   | exact ih2 _ _ _ _ _ _ _ _ _ _ _ _ _ _ _ _ _ _
   | exact ih3 _ _ _ _ _ _ _ _ _ _ _ _ _ _ _ _ _ _ _
   | exact ih4 _ _ _ _ _ _ _ _ _ _ _ _ _ _ _ _ _ _ _ _
   | exact impl_Offsets.mono _ _ _ _
   | exact zI.mono _ _ _ _
   | exact laws_lwCount.mono _ _
   | exact laws_lwIndex.mono _ _ _
   | exact laws_lwSame.mono _ _ _
   | exact LeO.none _
   | refine LeO.ite ?_ ?_
   | refine LeO.bind ?_ (fun _ => ?_)
set_option maxHeartbeats 8000000 in
set_option maxRecDepth 100000 in
theorem laws_lwPlaces.calls (k : Nat) (A0_0 : Option Addr) (c0_0 : Nat) (l0_0 : List Int) (A0_1 : Option Addr) (c0_1 : Nat) (l0_1 : List Int) (a0_2 : Int) (A1_0 : Option Addr) (c1_0 : Nat) (l1_0 : List Int) (A1_1 : Option Addr) (c1_1 : Nat) (l1_1 : List Int) (a1_2 : Int) (a2 : Int) (a3 : Int) (A4_0 : Option Addr) (c4_0 : Nat) (l4_0 : List Int) (A4_1 : Option Addr) (c4_1 : Nat) (l4_1 : List Int) (a4_2 : Int) (a5 : Int) (A6 : Option Addr) (c6 : Nat) (l6 : List Int) (r : Bool) (w : World) (hr0_0 : Kd.C (Kd.int .i64) w A0_0 l0_0.length l0_0) (hc0_0 : l0_0.length ≤ c0_0) (hr0_1 : Kd.C (Kd.int .i64) w A0_1 l0_1.length l0_1) (hc0_1 : l0_1.length ≤ c0_1) (hr1_0 : Kd.C (Kd.int .i64) w A1_0 l1_0.length l1_0) (hc1_0 : l1_0.length ≤ c1_0) (hr1_1 : Kd.C (Kd.int .i64) w A1_1 l1_1.length l1_1) (hc1_1 : l1_1.length ≤ c1_1) (hr4_0 : Kd.C (Kd.int .i64) w A4_0 l4_0.length l4_0) (hc4_0 : l4_0.length ≤ c4_0) (hr4_1 : Kd.C (Kd.int .i64) w A4_1 l4_1.length l4_1) (hc4_1 : l4_1.length ≤ c4_1) (hr6 : Kd.C (Kd.int .i64) w A6 l6.length l6) (hc6 : l6.length ≤ c6) (h : laws_lwPlaces.f k l0_0 l0_1 a0_2 l1_0 l1_1 a1_2 a2 a3 l4_0 l4_1 a4_2 a5 l6 = some r) :
  Calls Try.prog 71 #[.agg #[.slice A0_0 l0_0.length c0_0, .slice A0_1 l0_1.length c0_1, .int .i64 a0_2], .agg #[.slice A1_0 l1_0.length c1_0, .slice A1_1 l1_1.length c1_1, .int .i64 a1_2], .int .i64 a2, .int .i64 a3, .agg #[.slice A4_0 l4_0.length c4_0, .slice A4_1 l4_1.length c4_1, .int .i64 a4_2], .int .i64 a5, .slice A6 l6.length c6] w fun e w' => e = .returned (.bool r) ∧ Below w.heap.size w w' := by
 have hu32 := Try.underlying32
 have HR0_0 := qS.mk hr0_0
 have HC0_0 := qS.mk hc0_0
 clear hr0_0 hc0_0
 have HR0_1 := qS.mk hr0_1
 have HC0_1 := qS.mk hc0_1
 clear hr0_1 hc0_1
 have HR1_0 := qS.mk hr1_0
 have HC1_0 := qS.mk hc1_0
 clear hr1_0 hc1_0
 have HR1_1 := qS.mk hr1_1
 have HC1_1 := qS.mk hc1_1
 clear hr1_1 hc1_1
 have HR4_0 := qS.mk hr4_0
 have HC4_0 := qS.mk hc4_0
 clear hr4_0 hc4_0
 have HR4_1 := qS.mk hr4_1
 have HC4_1 := qS.mk hc4_1
 clear hr4_1 hc4_1
 have HR6 := qS.mk hr6
 have HC6 := qS.mk hc6
 clear hr6 hc6
 have HB := qS.mk (Below.refl w.heap.size w)
 have H : ((zI.f k l1_0 l1_1 a1_2).bind fun t740 => (if t740 = true then ((impl_Offsets.f k l1_0 l1_1 a1_2).bind fun t741 => ((laws_lwCount.f k l1_0).bind fun t744 => (if (t741.length : Int) = t744 then (if a2 = 0 then ((laws_lwSame.f k l1_0 l4_0).bind fun t745 => (laws_lwPlaces.j0 k a2 a3 a5 l6 t741 (!t745) l0_0 l0_1 a0_2 l1_0 l1_1 a1_2 l4_0 l4_1 a4_2)) else (laws_lwPlaces.j0 k a2 a3 a5 l6 t741 false l0_0 l0_1 a0_2 l1_0 l1_1 a1_2 l4_0 l4_1 a4_2)) else (some false)))) else (some false))) = some r := h
 clear h
 replace H := Option.bind_eq_some_iff.mp H
 obtain ⟨t740, A80, H⟩ := H
 try dsimp only at H
 have A8 := qS.mk A80
 clear A80
 by_cases c9 : t740 = true
 ·subst c9
  rw [if_pos rfl] at H
  replace H := Option.bind_eq_some_iff.mp H
  obtain ⟨t741, A100, H⟩ := H
  try dsimp only at H
  have A10 := qS.mk A100
  clear A100
  replace H := Option.bind_eq_some_iff.mp H
  obtain ⟨t744, A110, H⟩ := H
  try dsimp only at H
  have A11 := qS.mk A110
  clear A110
  by_cases c12 : (t741.length : Int) = t744
  ·rw [if_pos c12] at H
   have c12b0 : ((t741.length : Int) == t744) = true := beq_iff_eq.mpr c12
   have c12b1 : ((t741.length : Int) != t744) = false := bne_eq_false_iff_eq.mpr c12
   clear c12
   have HC13 := qS.mk H
   clear H
   go_enter Try.func71, Try.ntmps71
   go_upto_region 6 with (first | ((with_reducible refine gate_dst (N := 7) rfl ?_); refine bE #[.slice A0_0 l0_0.length c0_0, .slice A0_1 l0_1.length c0_1, .int .i64 a0_2] 32 ?_; intro gb737 hg w14 hbox hb; have BK737 := qS.mk (hbox); have GW737 := mG HB hg; have GE737 := mG HB hg; replace HB := mS HB hb; clear hb hbox hg) | ((with_reducible refine gate_dst (N := 8) rfl ?_); refine bE #[.slice A1_0 l1_0.length c1_0, .slice A1_1 l1_1.length c1_1, .int .i64 a1_2] 32 ?_; intro gb738 hg w15 hbox hb; have BK738 := qS.mk (hbox); have GW738 := mG HB hg; have GE738 := mG HB hg; have NB737_738 := mN BK737 hg; have NB738_737 := mM BK737 hg; replace BK737 := mB BK737 hb; replace HB := mS HB hb; clear hb hbox hg) | ((with_reducible refine gate_dst (N := 11) rfl ?_); refine bE #[.slice A4_0 l4_0.length c4_0, .slice A4_1 l4_1.length c4_1, .int .i64 a4_2] 32 ?_; intro gb739 hg w16 hbox hb; have BK739 := qS.mk (hbox); have GW739 := mG HB hg; have GE739 := mG HB hg; have NB737_739 := mN BK737 hg; have NB739_737 := mM BK737 hg; have NB738_739 := mN BK738 hg; have NB739_738 := mM BK738 hg; replace BK737 := mB BK737 hb; replace BK738 := mB BK738 hb; replace HB := mS HB hb; clear hb hbox hg; have hnb17 := NB738_737.out; have hnc17 := NB737_738.out; have hnb18 := NB738_739.out; have hnc18 := NB739_738.out; obtain ⟨hcz19_0, hcz19_1, hcz19_2, hfz19_0, hfz19_1, hfz19_2⟩ := bx3 BK738) | ((with_reducible refine gate_callee (f := 26) rfl ?_); refine gL (some 23) Try.func26 #[.agg #[.slice A1_0 l1_0.length c1_0, .slice A1_1 l1_1.length c1_1, .int .i64 a1_2]] ?_; (with_reducible refine (zI.calls k _ _ l1_0 _ _ l1_1 a1_2 true _ (cS (Kd.qW HR1_0.out HB.out)) HC1_0.out (cS (Kd.qW HR1_1.out HB.out)) HC1_1.out A8.out).mono ?_); rintro e w20 ⟨rfl, hb⟩; refine ⟨_, rfl, ?_⟩; replace BK737 := mB BK737 hb; replace BK738 := mB BK738 hb; replace BK739 := mB BK739 hb; replace HB := mS HB hb; (try clear hb); (try clear hb2); (try clear hk); (try clear hi); obtain ⟨hcz21_0, hcz21_1, hcz21_2, hfz21_0, hfz21_1, hfz21_2⟩ := bx3 BK738) | ((with_reducible refine gate_callee (f := 46) rfl ?_); refine gL (some 26) Try.func46 #[.agg #[.slice A1_0 l1_0.length c1_0, .slice A1_1 l1_1.length c1_1, .int .i64 a1_2]] ?_; (with_reducible refine (impl_Offsets.calls k _ _ l1_0 _ _ l1_1 a1_2 t741 _ (cS (Kd.qW HR1_0.out HB.out)) HC1_0.out (cS (Kd.qW HR1_1.out HB.out)) HC1_1.out A10.out).mono ?_); rintro e w22 ⟨v742, rfl, ho0, hb⟩; refine ⟨_, rfl, ?_⟩; have HO743 := qS.mk (Kd.R_lower ho0 (qF (lS HB))); replace BK737 := mB BK737 hb; replace BK738 := mB BK738 hb; replace BK739 := mB BK739 hb; replace HB := mS HB hb; (try clear hb); (try clear hb2); (try clear hk); (try clear hi); (try clear ho0); obtain ⟨Ao23, co23, eo23⟩ := Kd.qX HO743.out; subst eo23; obtain ⟨hcz24_0, hcz24_1, hcz24_2, hfz24_0, hfz24_1, hfz24_2⟩ := bx3 BK738) | ((with_reducible refine gate_callee (f := 110) rfl ?_); refine gL (some 31) Try.func110 #[.slice A1_0 l1_0.length c1_0] ?_; (with_reducible refine (laws_lwCount.calls k _ _ l1_0 t744 _ (cS (Kd.qW HR1_0.out HB.out)) HC1_0.out A11.out).mono ?_); rintro e w' ⟨rfl, ⟨nd, rfl⟩⟩; refine ⟨_, rfl, ?_⟩))
   (try simp only [Act.put, List.setIfInBounds_toArray, List.set_cons_zero, List.set_cons_succ])
   go_cut [42] (fun v42 wc => ∃ (kq : Nat) (x42_12 : Bool), v42 = .bool x42_12 ∧ qS (laws_lwPlaces.j0 kq a2 a3 a5 l6 t741 x42_12 l0_0 l0_1 a0_2 l1_0 l1_1 a1_2 l4_0 l4_1 a4_2 = some r) ∧ qS (kq ≤ k) ∧ qS (Kd.R (Kd.int .i64) 2 wc w.heap.size (fun _ => True) (.slice Ao23 t741.length co23) t741) ∧ qS (wc.heap[gb737]? = some (.cells #[(.slice A0_0 l0_0.length c0_0), (.slice A0_1 l0_1.length c0_1), .int .i64 a0_2] 32 (0, 0))) ∧ qS (wc.heap[gb738]? = some (.cells #[(.slice A1_0 l1_0.length c1_0), (.slice A1_1 l1_1.length c1_1), .int .i64 a1_2] 32 (0, 0))) ∧ qS (wc.heap[gb739]? = some (.cells #[(.slice A4_0 l4_0.length c4_0), (.slice A4_1 l4_1.length c4_1), .int .i64 a4_2] 32 (0, 0))) ∧ qS (Below w.heap.size w wc))
   case first =>
    have H := HC13.out
    clear HC13
    by_cases c25 : a2 = 0
    ·rw [if_pos c25] at H
     have c25b0 : (a2 == 0) = true := beq_iff_eq.mpr c25
     have c25b1 : (a2 != 0) = false := bne_eq_false_iff_eq.mpr c25
     clear c25
     (first | rw [c25b0] | (simp only [i64_w, i32_w]; rw [c25b0]) | skip)
     replace H := Option.bind_eq_some_iff.mp H
     obtain ⟨t745, A260, H⟩ := H
     try dsimp only at H
     have A26 := qS.mk A260
     clear A260
     have H' := qS.mk H
     clear H
     have hnb27 := NB738_737.out
     have hnc27 := NB737_738.out
     have hnb28 := NB738_739.out
     have hnc28 := NB739_738.out
     obtain ⟨hcz29_0, hcz29_1, hcz29_2, hfz29_0, hfz29_1, hfz29_2⟩ := bx3 BK738
     have hnb30 := NB739_737.out
     have hnc30 := NB737_739.out
     obtain ⟨hcz31_0, hcz31_1, hcz31_2, hfz31_0, hfz31_1, hfz31_2⟩ := bx3 BK739
     go_wp2_with (first | (go_at_call 74; (with_reducible refine (laws_lwSame.calls k _ _ l1_0 _ _ l4_0 t745 _ (cS (Kd.qW HR1_0.out HB.out)) HC1_0.out (cS (Kd.qW HR4_0.out HB.out)) HC4_0.out A26.out).mono ?_); rintro e w' ⟨rfl, ⟨nd, rfl⟩⟩))
     go_meet
     case rel => exact ⟨_, (!t745), rf, H', ⟨by first | omega | exact Nat.le_refl _⟩, ⟨rS HO743⟩, ⟨bS BK737⟩, ⟨bS BK738⟩, ⟨bS BK739⟩, ⟨lS HB⟩⟩
    ·rw [if_neg c25] at H
     have c25b0 : (a2 == 0) = false := beq_eq_false_iff_ne.mpr c25
     have c25b1 : (a2 != 0) = true := bne_iff_ne.mpr c25
     (first | rw [c25b0] | (simp only [i64_w, i32_w]; rw [c25b0]) | skip)
     have H' := qS.mk H
     clear H
     go_wp2
     go_meet
     case rel => exact ⟨_, (false), rf, H', ⟨by first | omega | exact Nat.le_refl _⟩, ⟨rS HO743⟩, ⟨bS BK737⟩, ⟨bS BK738⟩, ⟨bS BK739⟩, ⟨lS HB⟩⟩
   case rest =>
    clear HC13
    (try clear c6); (try clear c9); (try clear c12); (try clear c12b0); (try clear c12b1); (try clear hcz19_0); (try clear hcz19_1); (try clear hcz19_2); (try clear hcz21_0); (try clear hcz21_1); (try clear hcz21_2); (try clear hcz24_0); (try clear hcz24_1); (try clear hcz24_2); (try clear hfz19_0); (try clear hfz19_1); (try clear hfz19_2); (try clear hfz21_0); (try clear hfz21_1); (try clear hfz21_2); (try clear hfz24_0); (try clear hfz24_1); (try clear hfz24_2)
    obtain ⟨kq, x42_12, rfl, HA, HJ12, HO_15, BK737, BK738, BK739, HB⟩ := hcut
    cases kq with
    | zero => exact absurd HA.out (by simp [laws_lwPlaces.j0])
    | succ kj12 =>
     have H := HA.out
     clear HA
     simp only [laws_lwPlaces.j0] at H
     by_cases c32 : x42_12 = true
     ·subst c32
      rw [if_pos rfl] at H
      obtain rfl := Option.some.inj H
      go_wp2
      go_ret
      exact ⟨rg, lS HB⟩
     ·replace c32 := Bool.eq_false_iff.mpr c32
      subst c32
      rw [if_neg (show ¬ (false = true) by decide)] at H
      have H' := qS.mk H
      clear H
      go_wp2
      go_loopg [16] kj12 (fun kq v16 w' => ∃ (x16_2 : Int), v16 = .int .i64 x16_2 ∧ qS (laws_lwPlaces.l0 kq a2 a3 a5 l6 t741 x16_2 l0_0 l0_1 a0_2 l1_0 l1_1 a1_2 l4_0 l4_1 a4_2 = some r) ∧ qS (kq ≤ kj12) ∧ qS (Kd.R (Kd.int .i64) 2 w' w.heap.size (fun _ => True) (.slice Ao23 t741.length co23) t741) ∧ qS (w'.heap[gb737]? = some (.cells #[(.slice A0_0 l0_0.length c0_0), (.slice A0_1 l0_1.length c0_1), .int .i64 a0_2] 32 (0, 0))) ∧ qS (w'.heap[gb738]? = some (.cells #[(.slice A1_0 l1_0.length c1_0), (.slice A1_1 l1_1.length c1_1), .int .i64 a1_2] 32 (0, 0))) ∧ qS (w'.heap[gb739]? = some (.cells #[(.slice A4_0 l4_0.length c4_0), (.slice A4_1 l4_1.length c4_1), .int .i64 a4_2] 32 (0, 0))) ∧ qS (Below w.heap.size w w'))
      case atStart => exact ⟨(0), rf, H', ⟨Nat.le_refl _⟩, ⟨rS HO_15⟩, ⟨bS BK737⟩, ⟨bS BK738⟩, ⟨bS BK739⟩, ⟨lS HB⟩⟩
      case round =>
       clear H'
       (try clear c6); (try clear c9); (try clear c12); (try clear c12b0); (try clear c12b1); (try clear c32); (try clear hcz19_0); (try clear hcz19_1); (try clear hcz19_2); (try clear hcz21_0); (try clear hcz21_1); (try clear hcz21_2); (try clear hcz24_0); (try clear hcz24_1); (try clear hcz24_2); (try clear hfz19_0); (try clear hfz19_1); (try clear hfz19_2); (try clear hfz21_0); (try clear hfz21_1); (try clear hfz21_2); (try clear hfz24_0); (try clear hfz24_1); (try clear hfz24_2)
       obtain ⟨x16_2, rfl, HA, HK2, HO_15, BK737, BK738, BK739, HB⟩ := hrel
       cases gk with
       | zero => exact absurd HA.out (by simp [laws_lwPlaces.l0])
       | succ k2 =>
        have H := HA.out
        clear HA
        simp only [laws_lwPlaces.l0] at H
        by_cases c33 : x16_2 < (t741.length : Int)
        ·rw [if_pos c33] at H
         have c33b0 : decide (x16_2 < (t741.length : Int)) = true := decide_eq_true c33
         clear c33
         replace H := Option.bind_eq_some_iff.mp H
         obtain ⟨t746, A340, H⟩ := H
         try dsimp only at H
         have A34 := qS.mk A340
         clear A340
         have H' := qS.mk H
         clear H
         have hnb35 := NB738_737.out
         have hnc35 := NB737_738.out
         have hnb36 := NB738_739.out
         have hnc36 := NB739_738.out
         obtain ⟨hcz37_0, hcz37_1, hcz37_2, hfz37_0, hfz37_1, hfz37_2⟩ := bx3 BK738
         go_wp2_with (first | ((with_reducible refine gate_callee (f := 111) rfl ?_); refine gL (some 52) Try.func111 #[.slice A1_0 l1_0.length c1_0, .int .i64 x16_2] ?_; (with_reducible refine (laws_lwIndex.calls k2 _ _ l1_0 x16_2 t746 _ (cS (Kd.qW HR1_0.out HB.out)) HC1_0.out A34.out).mono ?_); rintro e w38 ⟨v747, rfl, ho0, hb⟩; refine ⟨_, rfl, ?_⟩; have HO748 := qS.mk (Kd.R_lower (Kd.R_new' ho0 (Kd.R_lt (rS HO_15))) (qF (lS HB))); replace HO_15 := qS.mk (Kd.R_elder' (rS HO_15) (Kd.R_base ho0) hb); replace BK737 := mB BK737 hb; replace BK738 := mB BK738 hb; replace BK739 := mB BK739 hb; replace HB := mS HB hb; (try clear hb); (try clear hb2); (try clear hk); (try clear hi); (try clear ho0); have hnb39 := NB737_739.out; have hnc39 := NB739_737.out; obtain ⟨hcz40_0, hcz40_1, hcz40_2, hfz40_0, hfz40_1, hfz40_2⟩ := bx3 BK737))
         go_loopg [18, 19] k2 (fun kq v18 v19 w' => ∃ (x18_3 : Int) (x19_3 : Int), v18 = .int .i64 x18_3 ∧ v19 = .int .i64 x19_3 ∧ qS (laws_lwPlaces.l1 kq a2 a3 a5 l6 t741 x16_2 t746 x18_3 x19_3 l0_0 l0_1 a0_2 l1_0 l1_1 a1_2 l4_0 l4_1 a4_2 = some r) ∧ qS (kq ≤ k2) ∧ qS (Kd.R (Kd.int .i64) 2 w' w.heap.size (fun k_ => some k_ ≠ (v747 : Value).ownBlock) (.slice Ao23 t741.length co23) t741) ∧ qS (Kd.R (Kd.int .i64) 2 w' w.heap.size (fun k_ => some k_ ≠ ((.slice Ao23 t741.length co23) : Value).ownBlock) v747 t746) ∧ qS (w'.heap[gb737]? = some (.cells #[(.slice A0_0 l0_0.length c0_0), (.slice A0_1 l0_1.length c0_1), .int .i64 a0_2] 32 (0, 0))) ∧ qS (w'.heap[gb738]? = some (.cells #[(.slice A1_0 l1_0.length c1_0), (.slice A1_1 l1_1.length c1_1), .int .i64 a1_2] 32 (0, 0))) ∧ qS (w'.heap[gb739]? = some (.cells #[(.slice A4_0 l4_0.length c4_0), (.slice A4_1 l4_1.length c4_1), .int .i64 a4_2] 32 (0, 0))) ∧ qS (Below w.heap.size w w'))
         case atStart => exact ⟨(a0_2), (0), rf, rf, H', ⟨Nat.le_refl _⟩, ⟨rT (Kd.qZ HO_15.out (fun _ hk => hk.2))⟩, ⟨rT (Kd.qZ HO748.out (fun _ hk => hk.2))⟩, ⟨bS BK737⟩, ⟨bS BK738⟩, ⟨bS BK739⟩, ⟨lS HB⟩⟩
         case round =>
          clear H'
          (try clear c6); (try clear c9); (try clear c12); (try clear c12b0); (try clear c12b1); (try clear c32); (try clear c33); (try clear c33b0); (try clear hcz19_0); (try clear hcz19_1); (try clear hcz19_2); (try clear hcz21_0); (try clear hcz21_1); (try clear hcz21_2); (try clear hcz24_0); (try clear hcz24_1); (try clear hcz24_2); (try clear hcz37_0); (try clear hcz37_1); (try clear hcz37_2); (try clear hcz40_0); (try clear hcz40_1); (try clear hcz40_2); (try clear hfz19_0); (try clear hfz19_1); (try clear hfz19_2); (try clear hfz21_0); (try clear hfz21_1); (try clear hfz21_2); (try clear hfz24_0); (try clear hfz24_1); (try clear hfz24_2); (try clear hfz37_0); (try clear hfz37_1); (try clear hfz37_2); (try clear hfz40_0); (try clear hfz40_1); (try clear hfz40_2)
          obtain ⟨x18_3, x19_3, rfl, rfl, HA, HK3, HO_15, HO_17, BK737, BK738, BK739, HB⟩ := hrel
          cases gk with
          | zero => exact absurd HA.out (by simp [laws_lwPlaces.l1])
          | succ k3 =>
           have H := HA.out
           clear HA
           simp only [laws_lwPlaces.l1] at H
           by_cases c41 : x19_3 < (l0_0.length : Int)
           ·rw [if_pos c41] at H
            have c41b0 : decide (x19_3 < (l0_0.length : Int)) = true := decide_eq_true c41
            clear c41
            have HC42 := qS.mk H
            clear H
            have hnb43 := NB737_738.out
            have hnc43 := NB738_737.out
            have hnb44 := NB737_739.out
            have hnc44 := NB739_737.out
            obtain ⟨hcz45_0, hcz45_1, hcz45_2, hfz45_0, hfz45_1, hfz45_2⟩ := bx3 BK737
            go_upto_if 63 with (fail)
            go_cut [20] (fun v20 wc => ∃ (kq : Nat) (x20_41 : Int), v20 = .int .i64 x20_41 ∧ qS (laws_lwPlaces.j3 kq a2 a3 a5 l6 t741 x16_2 t746 x18_3 x19_3 x20_41 l0_0 l0_1 a0_2 l1_0 l1_1 a1_2 l4_0 l4_1 a4_2 = some r) ∧ qS (kq ≤ k3) ∧ qS (Kd.R (Kd.int .i64) 2 wc w.heap.size (fun k_ => some k_ ≠ (v747 : Value).ownBlock) (.slice Ao23 t741.length co23) t741) ∧ qS (Kd.R (Kd.int .i64) 2 wc w.heap.size (fun k_ => some k_ ≠ ((.slice Ao23 t741.length co23) : Value).ownBlock) v747 t746) ∧ qS (wc.heap[gb737]? = some (.cells #[(.slice A0_0 l0_0.length c0_0), (.slice A0_1 l0_1.length c0_1), .int .i64 a0_2] 32 (0, 0))) ∧ qS (wc.heap[gb738]? = some (.cells #[(.slice A1_0 l1_0.length c1_0), (.slice A1_1 l1_1.length c1_1), .int .i64 a1_2] 32 (0, 0))) ∧ qS (wc.heap[gb739]? = some (.cells #[(.slice A4_0 l4_0.length c4_0), (.slice A4_1 l4_1.length c4_1), .int .i64 a4_2] 32 (0, 0))) ∧ qS (Below w.heap.size w wc))
            case first =>
             have H := HC42.out
             clear HC42
             by_cases c46 : a2 = 0
             ·rw [if_pos c46] at H
              have c46b0 : (a2 == 0) = true := beq_iff_eq.mpr c46
              have c46b1 : (a2 != 0) = false := bne_eq_false_iff_eq.mpr c46
              clear c46
              (first | rw [c46b0] | (simp only [i64_w, i32_w]; rw [c46b0]) | skip)
              replace H := gN H
              obtain ⟨c47, H⟩ := H
              have c47b0 : decide (0 ≤ x19_3) = true := decide_eq_true c47
              clear c47
              replace H := gN H
              obtain ⟨c48, H⟩ := H
              have c48b0 : decide (x19_3 < (t746.length : Int)) = true := decide_eq_true c48
              clear c48
              by_cases c49 : x19_3 = a3
              ·rw [if_pos c49] at H
               have c49b0 : (x19_3 == a3) = true := beq_iff_eq.mpr c49
               have c49b1 : (x19_3 != a3) = false := bne_eq_false_iff_eq.mpr c49
               clear c49
               have H' := qS.mk H
               clear H
               obtain ⟨Ao50, co50, eo50⟩ := Kd.qX HO_17.out
               subst eo50
               have p749 : 0 ≤ (x19_3 : Int) := of_decide_eq_true (by assumption)
               have q749 : x19_3 < (t746.length : Int) := of_decide_eq_true (by assumption)
               obtain ⟨ad749, e749, hx749_0⟩ := Kd.at_int (Kd.qY HO_17.out).2.2 x19_3 p749 q749
               cases e749
               replace p749 := eq_true p749
               replace q749 := eq_true q749
               go_wp2
               go_meet
               case rel => exact ⟨_, (wrap64 ((rd t746 x19_3) * a5)), rf, H', ⟨by have := HJ12.out; have := HK2.out; have := HK3.out; first | omega | exact Nat.le_refl _⟩, ⟨rS HO_15⟩, ⟨rS HO_17⟩, ⟨bS BK737⟩, ⟨bS BK738⟩, ⟨bS BK739⟩, ⟨lS HB⟩⟩
              ·rw [if_neg c49] at H
               have c49b0 : (x19_3 == a3) = false := beq_eq_false_iff_ne.mpr c49
               have c49b1 : (x19_3 != a3) = true := bne_iff_ne.mpr c49
               have H' := qS.mk H
               clear H
               obtain ⟨Ao51, co51, eo51⟩ := Kd.qX HO_17.out
               subst eo51
               have p749 : 0 ≤ (x19_3 : Int) := of_decide_eq_true (by assumption)
               have q749 : x19_3 < (t746.length : Int) := of_decide_eq_true (by assumption)
               obtain ⟨ad749, e749, hx749_0⟩ := Kd.at_int (Kd.qY HO_17.out).2.2 x19_3 p749 q749
               cases e749
               replace p749 := eq_true p749
               replace q749 := eq_true q749
               go_wp2
               go_meet
               case rel => exact ⟨_, (rd t746 x19_3), rf, H', ⟨by have := HJ12.out; have := HK2.out; have := HK3.out; first | omega | exact Nat.le_refl _⟩, ⟨rS HO_15⟩, ⟨rS HO_17⟩, ⟨bS BK737⟩, ⟨bS BK738⟩, ⟨bS BK739⟩, ⟨lS HB⟩⟩
             ·rw [if_neg c46] at H
              have c46b0 : (a2 == 0) = false := beq_eq_false_iff_ne.mpr c46
              have c46b1 : (a2 != 0) = true := bne_iff_ne.mpr c46
              (first | rw [c46b0] | (simp only [i64_w, i32_w]; rw [c46b0]) | skip)
              have H' := qS.mk H
              clear H
              go_wp2
              go_meet
              case rel => exact ⟨_, (0), rf, H', ⟨by have := HJ12.out; have := HK2.out; have := HK3.out; first | omega | exact Nat.le_refl _⟩, ⟨rS HO_15⟩, ⟨rS HO_17⟩, ⟨bS BK737⟩, ⟨bS BK738⟩, ⟨bS BK739⟩, ⟨lS HB⟩⟩
            case rest =>
             clear HC42
             (try clear c6); (try clear c9); (try clear c12); (try clear c12b0); (try clear c12b1); (try clear c32); (try clear c33); (try clear c33b0); (try clear c41); (try clear c41b0); (try clear hcz19_0); (try clear hcz19_1); (try clear hcz19_2); (try clear hcz21_0); (try clear hcz21_1); (try clear hcz21_2); (try clear hcz24_0); (try clear hcz24_1); (try clear hcz24_2); (try clear hcz37_0); (try clear hcz37_1); (try clear hcz37_2); (try clear hcz40_0); (try clear hcz40_1); (try clear hcz40_2); (try clear hcz45_0); (try clear hcz45_1); (try clear hcz45_2); (try clear hfz19_0); (try clear hfz19_1); (try clear hfz19_2); (try clear hfz21_0); (try clear hfz21_1); (try clear hfz21_2); (try clear hfz24_0); (try clear hfz24_1); (try clear hfz24_2); (try clear hfz37_0); (try clear hfz37_1); (try clear hfz37_2); (try clear hfz40_0); (try clear hfz40_1); (try clear hfz40_2); (try clear hfz45_0); (try clear hfz45_1); (try clear hfz45_2)
             obtain ⟨kq, x20_41, rfl, HA, HJ41, HO_15, HO_17, BK737, BK738, BK739, HB⟩ := hcut
             cases kq with
             | zero => exact absurd HA.out (by simp [laws_lwPlaces.j3])
             | succ kj41 =>
              have H := HA.out
              clear HA
              simp only [laws_lwPlaces.j3] at H
              by_cases c52 : a2 = 1
              ·rw [if_pos c52] at H
               have c52b0 : (a2 == 1) = true := beq_iff_eq.mpr c52
               have c52b1 : (a2 != 1) = false := bne_eq_false_iff_eq.mpr c52
               clear c52
               have H' := qS.mk H
               clear H
               go_wp2
               go_loopg [20, 21] kj41 (fun kq v20 v21 w' => ∃ (x20_5 : Int) (x21_5 : Int), v20 = .int .i64 x20_5 ∧ v21 = .int .i64 x21_5 ∧ qS (laws_lwPlaces.l2 kq a2 a3 a5 l6 t741 x16_2 t746 x18_3 x19_3 x20_5 x21_5 l0_0 l0_1 a0_2 l1_0 l1_1 a1_2 l4_0 l4_1 a4_2 = some r) ∧ qS (kq ≤ kj41) ∧ qS (Kd.R (Kd.int .i64) 2 w' w.heap.size (fun k_ => some k_ ≠ (v747 : Value).ownBlock) (.slice Ao23 t741.length co23) t741) ∧ qS (Kd.R (Kd.int .i64) 2 w' w.heap.size (fun k_ => some k_ ≠ ((.slice Ao23 t741.length co23) : Value).ownBlock) v747 t746) ∧ qS (w'.heap[gb737]? = some (.cells #[(.slice A0_0 l0_0.length c0_0), (.slice A0_1 l0_1.length c0_1), .int .i64 a0_2] 32 (0, 0))) ∧ qS (w'.heap[gb738]? = some (.cells #[(.slice A1_0 l1_0.length c1_0), (.slice A1_1 l1_1.length c1_1), .int .i64 a1_2] 32 (0, 0))) ∧ qS (w'.heap[gb739]? = some (.cells #[(.slice A4_0 l4_0.length c4_0), (.slice A4_1 l4_1.length c4_1), .int .i64 a4_2] 32 (0, 0))) ∧ qS (Below w.heap.size w w'))
               case atStart => exact ⟨(x20_41), (0), rf, rf, H', ⟨Nat.le_refl _⟩, ⟨rS HO_15⟩, ⟨rS HO_17⟩, ⟨bS BK737⟩, ⟨bS BK738⟩, ⟨bS BK739⟩, ⟨lS HB⟩⟩
               case round =>
                clear H'
                (try clear c6); (try clear c9); (try clear c12); (try clear c12b0); (try clear c12b1); (try clear c32); (try clear c33); (try clear c33b0); (try clear c41); (try clear c41b0); (try clear c52); (try clear c52b0); (try clear c52b1); (try clear hcz19_0); (try clear hcz19_1); (try clear hcz19_2); (try clear hcz21_0); (try clear hcz21_1); (try clear hcz21_2); (try clear hcz24_0); (try clear hcz24_1); (try clear hcz24_2); (try clear hcz37_0); (try clear hcz37_1); (try clear hcz37_2); (try clear hcz40_0); (try clear hcz40_1); (try clear hcz40_2); (try clear hcz45_0); (try clear hcz45_1); (try clear hcz45_2); (try clear hfz19_0); (try clear hfz19_1); (try clear hfz19_2); (try clear hfz21_0); (try clear hfz21_1); (try clear hfz21_2); (try clear hfz24_0); (try clear hfz24_1); (try clear hfz24_2); (try clear hfz37_0); (try clear hfz37_1); (try clear hfz37_2); (try clear hfz40_0); (try clear hfz40_1); (try clear hfz40_2); (try clear hfz45_0); (try clear hfz45_1); (try clear hfz45_2)
                obtain ⟨x20_5, x21_5, rfl, rfl, HA, HK5, HO_15, HO_17, BK737, BK738, BK739, HB⟩ := hrel
                cases gk with
                | zero => exact absurd HA.out (by simp [laws_lwPlaces.l2])
                | succ k5 =>
                 have H := HA.out
                 clear HA
                 simp only [laws_lwPlaces.l2] at H
                 by_cases c53 : x21_5 < (l6.length : Int)
                 ·rw [if_pos c53] at H
                  have c53b0 : decide (x21_5 < (l6.length : Int)) = true := decide_eq_true c53
                  clear c53
                  replace H := gN H
                  obtain ⟨c54, H⟩ := H
                  have c54b0 : decide (0 ≤ x21_5) = true := decide_eq_true c54
                  clear c54
                  by_cases c55 : (rd l6 x21_5) = x19_3
                  ·rw [if_pos c55] at H
                   have c55b0 : ((rd l6 x21_5) == x19_3) = true := beq_iff_eq.mpr c55
                   have c55b1 : ((rd l6 x21_5) != x19_3) = false := bne_eq_false_iff_eq.mpr c55
                   clear c55
                   replace H := gN H
                   obtain ⟨c56, H⟩ := H
                   have c56b0 : decide (x21_5 < (t746.length : Int)) = true := decide_eq_true c56
                   clear c56
                   have H' := qS.mk H
                   clear H
                   obtain ⟨ad750, e750, hx750_0, -, p750, q750⟩ := aI HR6 HB x21_5
                   cases e750
                   obtain ⟨Ao57, co57, eo57⟩ := Kd.qX HO_17.out
                   subst eo57
                   have p751 : 0 ≤ (x21_5 : Int) := of_decide_eq_true (by assumption)
                   have q751 : x21_5 < (t746.length : Int) := of_decide_eq_true (by assumption)
                   obtain ⟨ad751, e751, hx751_0⟩ := Kd.at_int (Kd.qY HO_17.out).2.2 x21_5 p751 q751
                   cases e751
                   replace p751 := eq_true p751
                   replace q751 := eq_true q751
                   go_wp2
                   go_roundg k5
                   case measure => have := HJ12.out; have := HK2.out; have := HK3.out; have := HJ41.out; have := HK5.out; omega
                   case rel => exact ⟨(rd t746 x21_5), (wrap64 (x21_5 + 1)), rf, rf, H', ⟨by have := HJ12.out; have := HK2.out; have := HK3.out; have := HJ41.out; have := HK5.out; omega⟩, ⟨rS HO_15⟩, ⟨rS HO_17⟩, ⟨bS BK737⟩, ⟨bS BK738⟩, ⟨bS BK739⟩, ⟨lS HB⟩⟩
                  ·rw [if_neg c55] at H
                   have c55b0 : ((rd l6 x21_5) == x19_3) = false := beq_eq_false_iff_ne.mpr c55
                   have c55b1 : ((rd l6 x21_5) != x19_3) = true := bne_iff_ne.mpr c55
                   have H' := qS.mk H
                   clear H
                   obtain ⟨ad750, e750, hx750_0, -, p750, q750⟩ := aI HR6 HB x21_5
                   cases e750
                   go_wp2
                   go_roundg k5
                   case measure => have := HJ12.out; have := HK2.out; have := HK3.out; have := HJ41.out; have := HK5.out; omega
                   case rel => exact ⟨(x20_5), (wrap64 (x21_5 + 1)), rf, rf, H', ⟨by have := HJ12.out; have := HK2.out; have := HK3.out; have := HJ41.out; have := HK5.out; omega⟩, ⟨rS HO_15⟩, ⟨rS HO_17⟩, ⟨bS BK737⟩, ⟨bS BK738⟩, ⟨bS BK739⟩, ⟨lS HB⟩⟩
                 ·rw [if_neg c53] at H
                  have c53b0 : decide (x21_5 < (l6.length : Int)) = false := decide_eq_false c53
                  clear c53
                  by_cases c58 : a2 = 2
                  ·rw [if_pos c58] at H
                   have c58b0 : (a2 == 2) = true := beq_iff_eq.mpr c58
                   have c58b1 : (a2 != 2) = false := bne_eq_false_iff_eq.mpr c58
                   clear c58
                   replace H := gN H
                   obtain ⟨c59, H⟩ := H
                   have c59b0 : decide (0 ≤ x19_3) = true := decide_eq_true c59
                   clear c59
                   replace H := gN H
                   obtain ⟨c60, H⟩ := H
                   have c60b0 : decide (x19_3 < (l0_0.length : Int)) = true := decide_eq_true c60
                   clear c60
                   by_cases c61 : (rd l0_0 x19_3) = 1
                   ·rw [if_pos c61] at H
                    have c61b0 : ((rd l0_0 x19_3) == 1) = true := beq_iff_eq.mpr c61
                    have c61b1 : ((rd l0_0 x19_3) != 1) = false := bne_eq_false_iff_eq.mpr c61
                    clear c61
                    replace H := gN H
                    obtain ⟨c62, H⟩ := H
                    have c62b0 : decide (x19_3 < (l0_1.length : Int)) = true := decide_eq_true c62
                    clear c62
                    have H' := qS.mk H
                    clear H
                    have hnb63 := NB737_738.out
                    have hnc63 := NB738_737.out
                    have hnb64 := NB737_739.out
                    have hnc64 := NB739_737.out
                    obtain ⟨hcz65_0, hcz65_1, hcz65_2, hfz65_0, hfz65_1, hfz65_2⟩ := bx3 BK737
                    obtain ⟨ad752, e752, hx752_0, -, p752, q752⟩ := aI HR0_0 HB x19_3
                    cases e752
                    obtain ⟨ad753, e753, hx753_0, -, p753, q753⟩ := aI HR0_1 HB x19_3
                    cases e753
                    go_wp2
                    go_roundg k5
                    case measure => have := HJ12.out; have := HK2.out; have := HK3.out; have := HJ41.out; have := HK5.out; omega
                    case rel => exact ⟨(wrap64 (x18_3 + (wrap64 (x20_5 * (rd l0_1 x19_3))))), (wrap64 (x19_3 + 1)), rf, rf, H', ⟨by have := HJ12.out; have := HK2.out; have := HK3.out; have := HJ41.out; have := HK5.out; omega⟩, ⟨rS HO_15⟩, ⟨rS HO_17⟩, ⟨bS BK737⟩, ⟨bS BK738⟩, ⟨bS BK739⟩, ⟨lS HB⟩⟩
                   ·rw [if_neg c61] at H
                    have c61b0 : ((rd l0_0 x19_3) == 1) = false := beq_eq_false_iff_ne.mpr c61
                    have c61b1 : ((rd l0_0 x19_3) != 1) = true := bne_iff_ne.mpr c61
                    obtain ⟨ji66, hji66⟩ : ∃ j_ : Int, (wrap64 ((wrap64 ((l1_0.length : Int) - (l0_0.length : Int))) + x19_3)) = j_ := ⟨_, rfl⟩
                    replace H : (if 0 ≤ (ji66) then (if (ji66) < (t746.length : Int) then (if x19_3 < (l0_1.length : Int) then (laws_lwPlaces.l1 k5 a2 a3 a5 l6 t741 x16_2 t746 (wrap64 (x18_3 + (wrap64 ((rd t746 (ji66)) * (rd l0_1 x19_3))))) (wrap64 (x19_3 + 1)) l0_0 l0_1 a0_2 l1_0 l1_1 a1_2 l4_0 l4_1 a4_2) else (none)) else (none)) else (none)) = some r := by first | (rw [hji66] at H; exact H) | (simp only [hji66] at H ⊢; exact H)
                    have hji66w : (IntKind.i64.wrap ((wrap64 ((l1_0.length : Int) - (l0_0.length : Int))) + x19_3)) = ji66 := (i64_w _).trans hji66
                    replace H := gN H
                    obtain ⟨c67, H⟩ := H
                    have c67b0 : decide (0 ≤ (ji66)) = true := decide_eq_true c67
                    clear c67
                    replace H := gN H
                    obtain ⟨c68, H⟩ := H
                    have c68b0 : decide ((ji66) < (t746.length : Int)) = true := decide_eq_true c68
                    clear c68
                    replace H := gN H
                    obtain ⟨c69, H⟩ := H
                    have c69b0 : decide (x19_3 < (l0_1.length : Int)) = true := decide_eq_true c69
                    clear c69
                    have H' := qS.mk H
                    clear H
                    have hnb70 := NB737_738.out
                    have hnc70 := NB738_737.out
                    have hnb71 := NB737_739.out
                    have hnc71 := NB739_737.out
                    obtain ⟨hcz72_0, hcz72_1, hcz72_2, hfz72_0, hfz72_1, hfz72_2⟩ := bx3 BK737
                    obtain ⟨ad752, e752, hx752_0, -, p752, q752⟩ := aI HR0_0 HB x19_3
                    cases e752
                    have hnb73 := NB738_739.out
                    have hnc73 := NB739_738.out
                    obtain ⟨hcz74_0, hcz74_1, hcz74_2, hfz74_0, hfz74_1, hfz74_2⟩ := bx3 BK738
                    obtain ⟨Ao75, co75, eo75⟩ := Kd.qX HO_17.out
                    subst eo75
                    have p754 : 0 ≤ ((ji66) : Int) := of_decide_eq_true (by assumption)
                    have q754 : (ji66) < (t746.length : Int) := of_decide_eq_true (by assumption)
                    obtain ⟨ad754, e754, hx754_0⟩ := Kd.at_int (Kd.qY HO_17.out).2.2 (ji66) p754 q754
                    cases e754
                    replace p754 := eq_true p754
                    replace q754 := eq_true q754
                    obtain ⟨ad755, e755, hx755_0, -, p755, q755⟩ := aI HR0_1 HB x19_3
                    cases e755
                    go_wp2
                    go_roundg k5
                    case measure => have := HJ12.out; have := HK2.out; have := HK3.out; have := HJ41.out; have := HK5.out; omega
                    case rel => exact ⟨(wrap64 (x18_3 + (wrap64 ((rd t746 (ji66)) * (rd l0_1 x19_3))))), (wrap64 (x19_3 + 1)), (by first | rfl | (simp; done) | (simp only [← hji66] <;> (first | rfl | simp)) | (simp [*]; done)), rf, H', ⟨by have := HJ12.out; have := HK2.out; have := HK3.out; have := HJ41.out; have := HK5.out; omega⟩, ⟨rS HO_15⟩, ⟨rS HO_17⟩, ⟨bS BK737⟩, ⟨bS BK738⟩, ⟨bS BK739⟩, ⟨lS HB⟩⟩
                  ·rw [if_neg c58] at H
                   have c58b0 : (a2 == 2) = false := beq_eq_false_iff_ne.mpr c58
                   have c58b1 : (a2 != 2) = true := bne_iff_ne.mpr c58
                   replace H := gN H
                   obtain ⟨c76, H⟩ := H
                   have c76b0 : decide (0 ≤ x19_3) = true := decide_eq_true c76
                   clear c76
                   replace H := gN H
                   obtain ⟨c77, H⟩ := H
                   have c77b0 : decide (x19_3 < (l0_1.length : Int)) = true := decide_eq_true c77
                   clear c77
                   have H' := qS.mk H
                   clear H
                   have hnb78 := NB737_738.out
                   have hnc78 := NB738_737.out
                   have hnb79 := NB737_739.out
                   have hnc79 := NB739_737.out
                   obtain ⟨hcz80_0, hcz80_1, hcz80_2, hfz80_0, hfz80_1, hfz80_2⟩ := bx3 BK737
                   obtain ⟨ad756, e756, hx756_0, -, p756, q756⟩ := aI HR0_1 HB x19_3
                   cases e756
                   go_wp2
                   go_roundg k5
                   case measure => have := HJ12.out; have := HK2.out; have := HK3.out; have := HJ41.out; have := HK5.out; omega
                   case rel => exact ⟨(wrap64 (x18_3 + (wrap64 (x20_5 * (rd l0_1 x19_3))))), (wrap64 (x19_3 + 1)), rf, rf, H', ⟨by have := HJ12.out; have := HK2.out; have := HK3.out; have := HJ41.out; have := HK5.out; omega⟩, ⟨rS HO_15⟩, ⟨rS HO_17⟩, ⟨bS BK737⟩, ⟨bS BK738⟩, ⟨bS BK739⟩, ⟨lS HB⟩⟩
              ·rw [if_neg c52] at H
               have c52b0 : (a2 == 1) = false := beq_eq_false_iff_ne.mpr c52
               have c52b1 : (a2 != 1) = true := bne_iff_ne.mpr c52
               by_cases c81 : a2 = 2
               ·rw [if_pos c81] at H
                have c81b0 : (a2 == 2) = true := beq_iff_eq.mpr c81
                have c81b1 : (a2 != 2) = false := bne_eq_false_iff_eq.mpr c81
                clear c81
                replace H := gN H
                obtain ⟨c82, H⟩ := H
                have c82b0 : decide (0 ≤ x19_3) = true := decide_eq_true c82
                clear c82
                replace H := gN H
                obtain ⟨c83, H⟩ := H
                have c83b0 : decide (x19_3 < (l0_0.length : Int)) = true := decide_eq_true c83
                clear c83
                by_cases c84 : (rd l0_0 x19_3) = 1
                ·rw [if_pos c84] at H
                 have c84b0 : ((rd l0_0 x19_3) == 1) = true := beq_iff_eq.mpr c84
                 have c84b1 : ((rd l0_0 x19_3) != 1) = false := bne_eq_false_iff_eq.mpr c84
                 clear c84
                 replace H := gN H
                 obtain ⟨c85, H⟩ := H
                 have c85b0 : decide (x19_3 < (l0_1.length : Int)) = true := decide_eq_true c85
                 clear c85
                 have H' := qS.mk H
                 clear H
                 have hnb86 := NB737_738.out
                 have hnc86 := NB738_737.out
                 have hnb87 := NB737_739.out
                 have hnc87 := NB739_737.out
                 obtain ⟨hcz88_0, hcz88_1, hcz88_2, hfz88_0, hfz88_1, hfz88_2⟩ := bx3 BK737
                 obtain ⟨ad757, e757, hx757_0, -, p757, q757⟩ := aI HR0_0 HB x19_3
                 cases e757
                 obtain ⟨ad758, e758, hx758_0, -, p758, q758⟩ := aI HR0_1 HB x19_3
                 cases e758
                 go_wp2
                 go_roundg kj41
                 case measure => have := HJ12.out; have := HK2.out; have := HK3.out; have := HJ41.out; omega
                 case rel => exact ⟨(wrap64 (x18_3 + (wrap64 (x20_41 * (rd l0_1 x19_3))))), (wrap64 (x19_3 + 1)), rf, rf, H', ⟨by have := HJ12.out; have := HK2.out; have := HK3.out; have := HJ41.out; omega⟩, ⟨rS HO_15⟩, ⟨rS HO_17⟩, ⟨bS BK737⟩, ⟨bS BK738⟩, ⟨bS BK739⟩, ⟨lS HB⟩⟩
                ·rw [if_neg c84] at H
                 have c84b0 : ((rd l0_0 x19_3) == 1) = false := beq_eq_false_iff_ne.mpr c84
                 have c84b1 : ((rd l0_0 x19_3) != 1) = true := bne_iff_ne.mpr c84
                 obtain ⟨ji89, hji89⟩ : ∃ j_ : Int, (wrap64 ((wrap64 ((l1_0.length : Int) - (l0_0.length : Int))) + x19_3)) = j_ := ⟨_, rfl⟩
                 replace H : (if 0 ≤ (ji89) then (if (ji89) < (t746.length : Int) then (if x19_3 < (l0_1.length : Int) then (laws_lwPlaces.l1 kj41 a2 a3 a5 l6 t741 x16_2 t746 (wrap64 (x18_3 + (wrap64 ((rd t746 (ji89)) * (rd l0_1 x19_3))))) (wrap64 (x19_3 + 1)) l0_0 l0_1 a0_2 l1_0 l1_1 a1_2 l4_0 l4_1 a4_2) else (none)) else (none)) else (none)) = some r := by first | (rw [hji89] at H; exact H) | (simp only [hji89] at H ⊢; exact H)
                 have hji89w : (IntKind.i64.wrap ((wrap64 ((l1_0.length : Int) - (l0_0.length : Int))) + x19_3)) = ji89 := (i64_w _).trans hji89
                 replace H := gN H
                 obtain ⟨c90, H⟩ := H
                 have c90b0 : decide (0 ≤ (ji89)) = true := decide_eq_true c90
                 clear c90
                 replace H := gN H
                 obtain ⟨c91, H⟩ := H
                 have c91b0 : decide ((ji89) < (t746.length : Int)) = true := decide_eq_true c91
                 clear c91
                 replace H := gN H
                 obtain ⟨c92, H⟩ := H
                 have c92b0 : decide (x19_3 < (l0_1.length : Int)) = true := decide_eq_true c92
                 clear c92
                 have H' := qS.mk H
                 clear H
                 have hnb93 := NB737_738.out
                 have hnc93 := NB738_737.out
                 have hnb94 := NB737_739.out
                 have hnc94 := NB739_737.out
                 obtain ⟨hcz95_0, hcz95_1, hcz95_2, hfz95_0, hfz95_1, hfz95_2⟩ := bx3 BK737
                 obtain ⟨ad757, e757, hx757_0, -, p757, q757⟩ := aI HR0_0 HB x19_3
                 cases e757
                 have hnb96 := NB738_739.out
                 have hnc96 := NB739_738.out
                 obtain ⟨hcz97_0, hcz97_1, hcz97_2, hfz97_0, hfz97_1, hfz97_2⟩ := bx3 BK738
                 obtain ⟨Ao98, co98, eo98⟩ := Kd.qX HO_17.out
                 subst eo98
                 have p759 : 0 ≤ ((ji89) : Int) := of_decide_eq_true (by assumption)
                 have q759 : (ji89) < (t746.length : Int) := of_decide_eq_true (by assumption)
                 obtain ⟨ad759, e759, hx759_0⟩ := Kd.at_int (Kd.qY HO_17.out).2.2 (ji89) p759 q759
                 cases e759
                 replace p759 := eq_true p759
                 replace q759 := eq_true q759
                 obtain ⟨ad760, e760, hx760_0, -, p760, q760⟩ := aI HR0_1 HB x19_3
                 cases e760
                 go_wp2
                 go_roundg kj41
                 case measure => have := HJ12.out; have := HK2.out; have := HK3.out; have := HJ41.out; omega
                 case rel => exact ⟨(wrap64 (x18_3 + (wrap64 ((rd t746 (ji89)) * (rd l0_1 x19_3))))), (wrap64 (x19_3 + 1)), (by first | rfl | (simp; done) | (simp only [← hji89] <;> (first | rfl | simp)) | (simp [*]; done)), rf, H', ⟨by have := HJ12.out; have := HK2.out; have := HK3.out; have := HJ41.out; omega⟩, ⟨rS HO_15⟩, ⟨rS HO_17⟩, ⟨bS BK737⟩, ⟨bS BK738⟩, ⟨bS BK739⟩, ⟨lS HB⟩⟩
               ·rw [if_neg c81] at H
                have c81b0 : (a2 == 2) = false := beq_eq_false_iff_ne.mpr c81
                have c81b1 : (a2 != 2) = true := bne_iff_ne.mpr c81
                replace H := gN H
                obtain ⟨c99, H⟩ := H
                have c99b0 : decide (0 ≤ x19_3) = true := decide_eq_true c99
                clear c99
                replace H := gN H
                obtain ⟨c100, H⟩ := H
                have c100b0 : decide (x19_3 < (l0_1.length : Int)) = true := decide_eq_true c100
                clear c100
                have H' := qS.mk H
                clear H
                have hnb101 := NB737_738.out
                have hnc101 := NB738_737.out
                have hnb102 := NB737_739.out
                have hnc102 := NB739_737.out
                obtain ⟨hcz103_0, hcz103_1, hcz103_2, hfz103_0, hfz103_1, hfz103_2⟩ := bx3 BK737
                obtain ⟨ad761, e761, hx761_0, -, p761, q761⟩ := aI HR0_1 HB x19_3
                cases e761
                go_wp2
                go_roundg kj41
                case measure => have := HJ12.out; have := HK2.out; have := HK3.out; have := HJ41.out; omega
                case rel => exact ⟨(wrap64 (x18_3 + (wrap64 (x20_41 * (rd l0_1 x19_3))))), (wrap64 (x19_3 + 1)), rf, rf, H', ⟨by have := HJ12.out; have := HK2.out; have := HK3.out; have := HJ41.out; omega⟩, ⟨rS HO_15⟩, ⟨rS HO_17⟩, ⟨bS BK737⟩, ⟨bS BK738⟩, ⟨bS BK739⟩, ⟨lS HB⟩⟩
           ·rw [if_neg c41] at H
            have c41b0 : decide (x19_3 < (l0_0.length : Int)) = false := decide_eq_false c41
            clear c41
            by_cases c104 : a2 = 0
            ·rw [if_pos c104] at H
             have c104b0 : (a2 == 0) = true := beq_iff_eq.mpr c104
             have c104b1 : (a2 != 0) = false := bne_eq_false_iff_eq.mpr c104
             clear c104
             replace H := gN H
             obtain ⟨c105, H⟩ := H
             have c105b0 : decide (0 ≤ x16_2) = true := decide_eq_true c105
             clear c105
             replace H := gN H
             obtain ⟨c106, H⟩ := H
             have c106b0 : decide (x16_2 < (t741.length : Int)) = true := decide_eq_true c106
             clear c106
             by_cases c107 : (rd t741 x16_2) = (wrap64 (x18_3 + (wrap64 (a4_2 - a0_2))))
             ·rw [if_pos c107] at H
              have c107b0 : ((rd t741 x16_2) == (wrap64 (x18_3 + (wrap64 (a4_2 - a0_2))))) = true := beq_iff_eq.mpr c107
              have c107b1 : ((rd t741 x16_2) != (wrap64 (x18_3 + (wrap64 (a4_2 - a0_2))))) = false := bne_eq_false_iff_eq.mpr c107
              clear c107
              have H' := qS.mk H
              clear H
              have hnb108 := NB737_738.out
              have hnc108 := NB738_737.out
              have hnb109 := NB737_739.out
              have hnc109 := NB739_737.out
              obtain ⟨hcz110_0, hcz110_1, hcz110_2, hfz110_0, hfz110_1, hfz110_2⟩ := bx3 BK737
              have hnb111 := NB739_738.out
              have hnc111 := NB738_739.out
              obtain ⟨hcz112_0, hcz112_1, hcz112_2, hfz112_0, hfz112_1, hfz112_2⟩ := bx3 BK739
              have p762 : 0 ≤ (x16_2 : Int) := of_decide_eq_true (by assumption)
              have q762 : x16_2 < (t741.length : Int) := of_decide_eq_true (by assumption)
              obtain ⟨ad762, e762, hx762_0⟩ := Kd.at_int (Kd.qY HO_15.out).2.2 x16_2 p762 q762
              cases e762
              replace p762 := eq_true p762
              replace q762 := eq_true q762
              go_wp2
              go_roundg k3
              case measure => have := HJ12.out; have := HK2.out; have := HK3.out; omega
              case rel => exact ⟨(wrap64 (x16_2 + 1)), rf, H', ⟨by have := HJ12.out; have := HK2.out; have := HK3.out; omega⟩, ⟨rT (Kd.qZ HO_15.out (fun _ hk => trivial))⟩, ⟨bS BK737⟩, ⟨bS BK738⟩, ⟨bS BK739⟩, ⟨lS HB⟩⟩
             ·rw [if_neg c107] at H
              have c107b0 : ((rd t741 x16_2) == (wrap64 (x18_3 + (wrap64 (a4_2 - a0_2))))) = false := beq_eq_false_iff_ne.mpr c107
              have c107b1 : ((rd t741 x16_2) != (wrap64 (x18_3 + (wrap64 (a4_2 - a0_2))))) = true := bne_iff_ne.mpr c107
              obtain rfl := Option.some.inj H
              have hnb113 := NB737_738.out
              have hnc113 := NB738_737.out
              have hnb114 := NB737_739.out
              have hnc114 := NB739_737.out
              obtain ⟨hcz115_0, hcz115_1, hcz115_2, hfz115_0, hfz115_1, hfz115_2⟩ := bx3 BK737
              have hnb116 := NB739_738.out
              have hnc116 := NB738_739.out
              obtain ⟨hcz117_0, hcz117_1, hcz117_2, hfz117_0, hfz117_1, hfz117_2⟩ := bx3 BK739
              have p762 : 0 ≤ (x16_2 : Int) := of_decide_eq_true (by assumption)
              have q762 : x16_2 < (t741.length : Int) := of_decide_eq_true (by assumption)
              obtain ⟨ad762, e762, hx762_0⟩ := Kd.at_int (Kd.qY HO_15.out).2.2 x16_2 p762 q762
              cases e762
              replace p762 := eq_true p762
              replace q762 := eq_true q762
              go_wp2
              go_ret
              exact ⟨rg, lS HB⟩
            ·rw [if_neg c104] at H
             have c104b0 : (a2 == 0) = false := beq_eq_false_iff_ne.mpr c104
             have c104b1 : (a2 != 0) = true := bne_iff_ne.mpr c104
             replace H := gN H
             obtain ⟨c118, H⟩ := H
             have c118b0 : decide (0 ≤ x16_2) = true := decide_eq_true c118
             clear c118
             replace H := gN H
             obtain ⟨c119, H⟩ := H
             have c119b0 : decide (x16_2 < (t741.length : Int)) = true := decide_eq_true c119
             clear c119
             by_cases c120 : (rd t741 x16_2) = x18_3
             ·rw [if_pos c120] at H
              have c120b0 : ((rd t741 x16_2) == x18_3) = true := beq_iff_eq.mpr c120
              have c120b1 : ((rd t741 x16_2) != x18_3) = false := bne_eq_false_iff_eq.mpr c120
              clear c120
              have H' := qS.mk H
              clear H
              have hnb121 := NB737_738.out
              have hnc121 := NB738_737.out
              have hnb122 := NB737_739.out
              have hnc122 := NB739_737.out
              obtain ⟨hcz123_0, hcz123_1, hcz123_2, hfz123_0, hfz123_1, hfz123_2⟩ := bx3 BK737
              have p763 : 0 ≤ (x16_2 : Int) := of_decide_eq_true (by assumption)
              have q763 : x16_2 < (t741.length : Int) := of_decide_eq_true (by assumption)
              obtain ⟨ad763, e763, hx763_0⟩ := Kd.at_int (Kd.qY HO_15.out).2.2 x16_2 p763 q763
              cases e763
              replace p763 := eq_true p763
              replace q763 := eq_true q763
              go_wp2
              go_roundg k3
              case measure => have := HJ12.out; have := HK2.out; have := HK3.out; omega
              case rel => exact ⟨(wrap64 (x16_2 + 1)), rf, H', ⟨by have := HJ12.out; have := HK2.out; have := HK3.out; omega⟩, ⟨rT (Kd.qZ HO_15.out (fun _ hk => trivial))⟩, ⟨bS BK737⟩, ⟨bS BK738⟩, ⟨bS BK739⟩, ⟨lS HB⟩⟩
             ·rw [if_neg c120] at H
              have c120b0 : ((rd t741 x16_2) == x18_3) = false := beq_eq_false_iff_ne.mpr c120
              have c120b1 : ((rd t741 x16_2) != x18_3) = true := bne_iff_ne.mpr c120
              obtain rfl := Option.some.inj H
              have hnb124 := NB737_738.out
              have hnc124 := NB738_737.out
              have hnb125 := NB737_739.out
              have hnc125 := NB739_737.out
              obtain ⟨hcz126_0, hcz126_1, hcz126_2, hfz126_0, hfz126_1, hfz126_2⟩ := bx3 BK737
              have p763 : 0 ≤ (x16_2 : Int) := of_decide_eq_true (by assumption)
              have q763 : x16_2 < (t741.length : Int) := of_decide_eq_true (by assumption)
              obtain ⟨ad763, e763, hx763_0⟩ := Kd.at_int (Kd.qY HO_15.out).2.2 x16_2 p763 q763
              cases e763
              replace p763 := eq_true p763
              replace q763 := eq_true q763
              go_wp2
              go_ret
              exact ⟨rg, lS HB⟩
        ·rw [if_neg c33] at H
         have c33b0 : decide (x16_2 < (t741.length : Int)) = false := decide_eq_false c33
         clear c33
         obtain rfl := Option.some.inj H
         go_wp2
         go_ret
         exact ⟨rg, lS HB⟩
  ·rw [if_neg c12] at H
   have c12b0 : ((t741.length : Int) == t744) = false := beq_eq_false_iff_ne.mpr c12
   have c12b1 : ((t741.length : Int) != t744) = true := bne_iff_ne.mpr c12
   obtain rfl := Option.some.inj H
   go_enter Try.func71, Try.ntmps71
   go_wp2_with (first | ((with_reducible refine gate_dst (N := 7) rfl ?_); refine bE #[.slice A0_0 l0_0.length c0_0, .slice A0_1 l0_1.length c0_1, .int .i64 a0_2] 32 ?_; intro gb737 hg w127 hbox hb; have BK737 := qS.mk (hbox); have GW737 := mG HB hg; have GE737 := mG HB hg; replace HB := mS HB hb; clear hb hbox hg) | ((with_reducible refine gate_dst (N := 8) rfl ?_); refine bE #[.slice A1_0 l1_0.length c1_0, .slice A1_1 l1_1.length c1_1, .int .i64 a1_2] 32 ?_; intro gb738 hg w128 hbox hb; have BK738 := qS.mk (hbox); have GW738 := mG HB hg; have GE738 := mG HB hg; have NB737_738 := mN BK737 hg; have NB738_737 := mM BK737 hg; replace BK737 := mB BK737 hb; replace HB := mS HB hb; clear hb hbox hg) | ((with_reducible refine gate_dst (N := 11) rfl ?_); refine bE #[.slice A4_0 l4_0.length c4_0, .slice A4_1 l4_1.length c4_1, .int .i64 a4_2] 32 ?_; intro gb739 hg w129 hbox hb; have BK739 := qS.mk (hbox); have GW739 := mG HB hg; have GE739 := mG HB hg; have NB737_739 := mN BK737 hg; have NB739_737 := mM BK737 hg; have NB738_739 := mN BK738 hg; have NB739_738 := mM BK738 hg; replace BK737 := mB BK737 hb; replace BK738 := mB BK738 hb; replace HB := mS HB hb; clear hb hbox hg; have hnb130 := NB738_737.out; have hnc130 := NB737_738.out; have hnb131 := NB738_739.out; have hnc131 := NB739_738.out; obtain ⟨hcz132_0, hcz132_1, hcz132_2, hfz132_0, hfz132_1, hfz132_2⟩ := bx3 BK738) | ((with_reducible refine gate_callee (f := 26) rfl ?_); refine gL (some 23) Try.func26 #[.agg #[.slice A1_0 l1_0.length c1_0, .slice A1_1 l1_1.length c1_1, .int .i64 a1_2]] ?_; (with_reducible refine (zI.calls k _ _ l1_0 _ _ l1_1 a1_2 true _ (cS (Kd.qW HR1_0.out HB.out)) HC1_0.out (cS (Kd.qW HR1_1.out HB.out)) HC1_1.out A8.out).mono ?_); rintro e w133 ⟨rfl, hb⟩; refine ⟨_, rfl, ?_⟩; replace BK737 := mB BK737 hb; replace BK738 := mB BK738 hb; replace BK739 := mB BK739 hb; replace HB := mS HB hb; (try clear hb); (try clear hb2); (try clear hk); (try clear hi); obtain ⟨hcz134_0, hcz134_1, hcz134_2, hfz134_0, hfz134_1, hfz134_2⟩ := bx3 BK738) | ((with_reducible refine gate_callee (f := 46) rfl ?_); refine gL (some 26) Try.func46 #[.agg #[.slice A1_0 l1_0.length c1_0, .slice A1_1 l1_1.length c1_1, .int .i64 a1_2]] ?_; (with_reducible refine (impl_Offsets.calls k _ _ l1_0 _ _ l1_1 a1_2 t741 _ (cS (Kd.qW HR1_0.out HB.out)) HC1_0.out (cS (Kd.qW HR1_1.out HB.out)) HC1_1.out A10.out).mono ?_); rintro e w135 ⟨v742, rfl, ho0, hb⟩; refine ⟨_, rfl, ?_⟩; have HO743 := qS.mk (Kd.R_lower ho0 (qF (lS HB))); replace BK737 := mB BK737 hb; replace BK738 := mB BK738 hb; replace BK739 := mB BK739 hb; replace HB := mS HB hb; (try clear hb); (try clear hb2); (try clear hk); (try clear hi); (try clear ho0); obtain ⟨Ao136, co136, eo136⟩ := Kd.qX HO743.out; subst eo136; obtain ⟨hcz137_0, hcz137_1, hcz137_2, hfz137_0, hfz137_1, hfz137_2⟩ := bx3 BK738) | ((with_reducible refine gate_callee (f := 110) rfl ?_); refine gL (some 31) Try.func110 #[.slice A1_0 l1_0.length c1_0] ?_; (with_reducible refine (laws_lwCount.calls k _ _ l1_0 t744 _ (cS (Kd.qW HR1_0.out HB.out)) HC1_0.out A11.out).mono ?_); rintro e w' ⟨rfl, ⟨nd, rfl⟩⟩; refine ⟨_, rfl, ?_⟩))
   go_ret
   exact ⟨rg, lS HB⟩
 ·replace c9 := Bool.eq_false_iff.mpr c9
  subst c9
  rw [if_neg (show ¬ (false = true) by decide)] at H
  obtain rfl := Option.some.inj H
  go_enter Try.func71, Try.ntmps71
  go_wp2_with (first | ((with_reducible refine gate_dst (N := 7) rfl ?_); refine bE #[.slice A0_0 l0_0.length c0_0, .slice A0_1 l0_1.length c0_1, .int .i64 a0_2] 32 ?_; intro gb737 hg w138 hbox hb; have BK737 := qS.mk (hbox); have GW737 := mG HB hg; have GE737 := mG HB hg; replace HB := mS HB hb; clear hb hbox hg) | ((with_reducible refine gate_dst (N := 8) rfl ?_); refine bE #[.slice A1_0 l1_0.length c1_0, .slice A1_1 l1_1.length c1_1, .int .i64 a1_2] 32 ?_; intro gb738 hg w139 hbox hb; have BK738 := qS.mk (hbox); have GW738 := mG HB hg; have GE738 := mG HB hg; have NB737_738 := mN BK737 hg; have NB738_737 := mM BK737 hg; replace BK737 := mB BK737 hb; replace HB := mS HB hb; clear hb hbox hg) | ((with_reducible refine gate_dst (N := 11) rfl ?_); refine bE #[.slice A4_0 l4_0.length c4_0, .slice A4_1 l4_1.length c4_1, .int .i64 a4_2] 32 ?_; intro gb739 hg w140 hbox hb; have BK739 := qS.mk (hbox); have GW739 := mG HB hg; have GE739 := mG HB hg; have NB737_739 := mN BK737 hg; have NB739_737 := mM BK737 hg; have NB738_739 := mN BK738 hg; have NB739_738 := mM BK738 hg; replace BK737 := mB BK737 hb; replace BK738 := mB BK738 hb; replace HB := mS HB hb; clear hb hbox hg; have hnb141 := NB738_737.out; have hnc141 := NB737_738.out; have hnb142 := NB738_739.out; have hnc142 := NB739_738.out; obtain ⟨hcz143_0, hcz143_1, hcz143_2, hfz143_0, hfz143_1, hfz143_2⟩ := bx3 BK738) | ((with_reducible refine gate_callee (f := 26) rfl ?_); refine gL (some 23) Try.func26 #[.agg #[.slice A1_0 l1_0.length c1_0, .slice A1_1 l1_1.length c1_1, .int .i64 a1_2]] ?_; (with_reducible refine (zI.calls k _ _ l1_0 _ _ l1_1 a1_2 false _ (cS (Kd.qW HR1_0.out HB.out)) HC1_0.out (cS (Kd.qW HR1_1.out HB.out)) HC1_1.out A8.out).mono ?_); rintro e w144 ⟨rfl, hb⟩; refine ⟨_, rfl, ?_⟩; replace BK737 := mB BK737 hb; replace BK738 := mB BK738 hb; replace BK739 := mB BK739 hb; replace HB := mS HB hb; (try clear hb); (try clear hb2); (try clear hk); (try clear hi)))
  go_ret
  exact ⟨rg, lS HB⟩

end Go.Proofs.Ytpmdgmnpkdoamaa.DFnViews
