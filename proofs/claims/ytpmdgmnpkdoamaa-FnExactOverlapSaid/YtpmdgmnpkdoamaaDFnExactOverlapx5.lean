/- Proved here: what the functions answer that the law on Overlap comes to (the lines were written by a program). Conditions: those that stand ahead in each theorem. -/
import Derived.Test.YtpmdgmnpkdoamaaDFnExactOverlapx0
import Derived.Test.YtpmdgmnpkdoamaaDFnExactOverlapx3
namespace Go.Proofs.Ytpmdgmnpkdoamaa.DFnExactOverlap
open Go.RowKit Go.Proofs.YtpmdgmnpkdoamaaW.PrintWords Go.Proofs.YtpmdgmnpkdoamaaW.PrintLast Go.Proofs.YtpmdgmnpkdoamaaW.PrintMore
attribute [local go_sem] max2_int min2_int max_two min_two max_three min_three max_four min_four   -- for this text's walks alone
set_option linter.unusedVariables false
set_option linter.unusedSimpArgs false

/-! ### impl_Overlap: function 44 -/
def impl_Overlap.f (k : Nat) (l0_0 : List Int) (l0_1 : List Int) (a0_2 : Int) (l1_0 : List Int) (l1_1 : List Int) (a1_2 : Int) : Option (Bool) :=
  (Go.Proofs.Ytpmdgmnpkdoamaa.PFnExactValidView.impl_ValidView.f k l0_0 l0_1 a0_2).bind fun ba => if ba = true then (Go.Proofs.Ytpmdgmnpkdoamaa.PFnExactValidView.impl_ValidView.f k l1_0 l1_1 a1_2).bind fun bb => if bb = true then
    (Go.Proofs.Ytpmdgmnpkdoamaa.PFnExactValidView.impl_count.f k l0_0).bind fun c => (Go.Proofs.Ytpmdgmnpkdoamaa.PFnExactValidView.impl_count.f k l1_0).bind fun d =>
      if Go.Proofs.Ytpmdgmnpkdoamaa.Odo.Good l0_0 l0_1 a0_2 c ∧ Go.Proofs.Ytpmdgmnpkdoamaa.Odo.Good l1_0 l1_1 a1_2 d then some (decide (∃ x ∈ Go.Proofs.Ytpmdgmnpkdoamaa.Odo.placesOf l1_0 l1_1 a1_2 d, x ∈ Go.Proofs.Ytpmdgmnpkdoamaa.Odo.placesOf l0_0 l0_1 a0_2 c)) else none else some false else some false
theorem impl_Overlap.mono : ∀ a0 a1 a2 a3 a4 a5 k, LeO (impl_Overlap.f k a0 a1 a2 a3 a4 a5) (impl_Overlap.f (k + 1) a0 a1 a2 a3 a4 a5) := by
  intro a0 a1 a2 a3 a4 a5 k
  unfold impl_Overlap.f
  refine LeO.bind (Go.Proofs.Ytpmdgmnpkdoamaa.PFnExactValidView.impl_ValidView.mono _ _ _ _) (fun ba => LeO.ite (LeO.bind (Go.Proofs.Ytpmdgmnpkdoamaa.PFnExactValidView.impl_ValidView.mono _ _ _ _) (fun bb => LeO.ite ?_ (LeO.refl _))) (LeO.refl _))
  exact LeO.bind (Go.Proofs.Ytpmdgmnpkdoamaa.PFnExactValidView.impl_count.mono _ _) (fun c => LeO.bind (Go.Proofs.Ytpmdgmnpkdoamaa.PFnExactValidView.impl_count.mono _ _) (fun d => LeO.refl _))
theorem impl_Overlap.calls (k : Nat) (A0_0 : Option Addr) (c0_0 : Nat) (l0_0 : List Int) (A0_1 : Option Addr) (c0_1 : Nat) (l0_1 : List Int) (a0_2 : Int) (A1_0 : Option Addr) (c1_0 : Nat) (l1_0 : List Int) (A1_1 : Option Addr) (c1_1 : Nat) (l1_1 : List Int) (a1_2 : Int) (r : Bool) (w : World) (hr0_0 : Kd.C (Kd.int .i64) w A0_0 l0_0.length l0_0) (hc0_0 : l0_0.length ≤ c0_0) (hr0_1 : Kd.C (Kd.int .i64) w A0_1 l0_1.length l0_1) (hc0_1 : l0_1.length ≤ c0_1) (hr1_0 : Kd.C (Kd.int .i64) w A1_0 l1_0.length l1_0) (hc1_0 : l1_0.length ≤ c1_0) (hr1_1 : Kd.C (Kd.int .i64) w A1_1 l1_1.length l1_1) (hc1_1 : l1_1.length ≤ c1_1) (h : impl_Overlap.f k l0_0 l0_1 a0_2 l1_0 l1_1 a1_2 = some r) :
    Calls Try.prog 44 #[.agg #[.slice A0_0 l0_0.length c0_0, .slice A0_1 l0_1.length c0_1, .int .i64 a0_2], .agg #[.slice A1_0 l1_0.length c1_0, .slice A1_1 l1_1.length c1_1, .int .i64 a1_2]] w fun e w' => e = .returned (.bool r) ∧ Below w.heap.size w w' := by
  unfold impl_Overlap.f at h
  obtain ⟨ba, hba, h⟩ := Option.bind_eq_some_iff.1 h
  have VA : Go.Proofs.Ytpmdgmnpkdoamaa.Odo.Vld A0_0 A0_1 c0_0 c0_1 l0_0 l0_1 a0_2 ba := fun w' h0 h1 => Go.Proofs.Ytpmdgmnpkdoamaa.PFnExactValidView.impl_ValidView.calls k A0_0 c0_0 l0_0 A0_1 c0_1 l0_1 a0_2 ba w' h0 hc0_0 h1 hc0_1 hba
  cases ba with
  | false =>
    obtain rfl : false = r := by simpa using h
    exact callsIn_wide.1 (Go.Proofs.Ytpmdgmnpkdoamaa.Odo.overlap_bad 4 (Nat.le_refl _) A0_0 A0_1 A1_0 A1_1 c0_0 c0_1 c1_0 c1_1 l0_0 l0_1 l1_0 l1_1 a0_2 a1_2 w hr0_0 hr0_1 VA)
  | true =>
    rw [if_pos rfl] at h
    obtain ⟨bb, hbb, h⟩ := Option.bind_eq_some_iff.1 h
    have VB : Go.Proofs.Ytpmdgmnpkdoamaa.Odo.Vld A1_0 A1_1 c1_0 c1_1 l1_0 l1_1 a1_2 bb := fun w' h0 h1 => Go.Proofs.Ytpmdgmnpkdoamaa.PFnExactValidView.impl_ValidView.calls k A1_0 c1_0 l1_0 A1_1 c1_1 l1_1 a1_2 bb w' h0 hc1_0 h1 hc1_1 hbb
    cases bb with
    | false =>
      obtain rfl : false = r := by simpa using h
      exact callsIn_wide.1 (Go.Proofs.Ytpmdgmnpkdoamaa.Odo.overlap_bad2 4 (Nat.le_refl _) A0_0 A0_1 A1_0 A1_1 c0_0 c0_1 c1_0 c1_1 l0_0 l0_1 l1_0 l1_1 a0_2 a1_2 w hr0_0 hr0_1 hr1_0 hr1_1 VA VB)
    | true =>
      rw [if_pos rfl] at h
      obtain ⟨c, hc, h⟩ := Option.bind_eq_some_iff.1 h
      obtain ⟨d, hd, h⟩ := Option.bind_eq_some_iff.1 h
      split at h
      · rename_i hg
        obtain rfl := Option.some.inj h
        exact callsIn_wide.1 (Go.Proofs.Ytpmdgmnpkdoamaa.Odo.overlap_in 4 (Nat.le_refl _) A0_0 A0_1 A1_0 A1_1 c0_0 c0_1 c1_0 c1_1 l0_0 l0_1 l1_0 l1_1 a0_2 a1_2 c d w hr0_0 hr0_1 hr1_0 hr1_1 VA VB
          (fun w' hr => Go.Proofs.Ytpmdgmnpkdoamaa.PFnExactValidView.impl_count.calls k A0_0 c0_0 l0_0 c w' hr hc0_0 hc) hg.1 (fun w' hr => Go.Proofs.Ytpmdgmnpkdoamaa.PFnExactValidView.impl_count.calls k A1_0 c1_0 l1_0 d w' hr hc1_0 hd) hg.2)
      · cases h

end Go.Proofs.Ytpmdgmnpkdoamaa.DFnExactOverlap
