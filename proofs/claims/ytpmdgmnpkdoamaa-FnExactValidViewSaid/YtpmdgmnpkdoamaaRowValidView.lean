/- Proved here: at every view the law on ValidView answers true. Condition: the argument is of its type. -/
import Derived.Test.YtpmdgmnpkdoamaaRows
import Derived.Test.YtpmdgmnpkdoamaaJoined
import Derived.Test.YtpmdgmnpkdoamaaFacts
import Derived.Test.YtpmdgmnpkdoamaaVvPure
import Derived.WalkKit
import Derived.ProofKit
import Derived.OpenShut
import Derived.ShutString
import Derived.ChangeOld
import Derived.Below
import Derived.SizedLaws
import Derived.ChangeSlices
import Derived.Lib.SmallJoins
import Derived.Carry
namespace Go.Proofs.Ytpmdgmnpkdoamaa.fnExactValidView
open Go.ChangeShapes Go.WideShapes Go.ChangeAt Go.RowKit
set_option linter.unusedVariables false
theorem own : ownKnob Try.prog.godebug = none := by kernel_rfl
theorem laidOut : laidOutB Try.prog = true := Facts.fact2
set_option maxRecDepth 100000 in
theorem lifted (os : Os) (started : os.Started) (H : Type) (enc : TypeId × Value → H) :
    ReturnsInHanded {} Try.checked os 6 .any (Rows.fnExactValidViewSpec.pre6 enc Try.prog Try.f6 Rows.fnExactValidViewRow.domain false) (Rows.fnExactValidViewSpec.post enc Try.prog Try.f6 false true false false) := by
  refine returnsInHanded_of_change_sized (C := Try.checked) own started (by kernel_rfl) Try.func6
    (ChangeSpec.witness6 (enc := enc) (C := Try.checked) false ⟨#[], #[.agg #[.slice none 0 0, .slice none 0 0, .int .i64 0]], []⟩ 8 (by kernel_rfl) (by kernel_rfl) (by kernel_rfl) (by kernel_rfl)) ?_
  intro W base args ds gs before hval0 hW hcnd hsz0 _
  have hsz : (DataW.weightsEach Try.prog (Try.f6.params.toList ++ Rows.fnExactValidViewSpec.plain.varTypes Try.prog) (ds ++ gs)).all (· ≤ reachBytes) = true := hsz0
  have hval : ∀ (j : Nat) t v, Try.f6.params[j]? = some t → args[j]? = some v → Value.okWide Try.prog W .any base t v := hval0
  have hW' := hW
  obtain ⟨p, q, hA0, hV, rfl, hfz, hnd⟩ := hW
  have hA : DataW.TrodAll enc Try.prog W 0 (fun _ => true) true Try.f6.params.toList args.toList ds p := hA0
  rw [Try.params6] at hA hval hsz
  obtain ⟨v0, vs0, d0, ds0, p0, q0, hargs, rfl, rfl, h0, r0⟩ := trodAll_cons hA
  obtain ⟨rfl, rfl, rfl⟩ := trodAll_nil r0
  obtain rfl : args = #[v0] := by cases args; simp_all
  obtain ⟨rfl, rfl⟩ := trodVars_none hV
  have k0 := h0
  have lt0 : ∀ x ∈ p0, x.block < W.heap.size := by obtain ⟨m, hm⟩ := k0; exact DataW.trod_lt m _ _ _ hm
  obtain ⟨c0, c1, c2, y0, y1, y2, m0, rfl, rfl, rfl, t0, t1, t2⟩ := Joins.open_agg3 Try.underlying29 (by kernel_rfl) (by kernel_rfl) (hval 0 29 v0 rfl rfl) h0
  obtain ⟨b0, cap0, xs, rfl, hc0, hx0, hr0⟩ := PFnExactValidView.field_ints Try.underlying27 Try.underlying2 (by kernel_rfl) t0
  obtain ⟨b1, cap1, ys, rfl, hc1, hx1, hr1⟩ := PFnExactValidView.field_ints Try.underlying27 Try.underlying2 (by kernel_rfl) t1
  obtain ⟨n2, e2, _, _⟩ := DataW.trod_int Try.underlying2 t2
  obtain rfl : c2 = .int .i64 n2 := by simpa using e2
  obtain ⟨kk, hkk⟩ := PFnExactValidView.law_words xs ys n2 hx0 hx1
  clear hA0 hval0
  refine (PFnExactValidView.laws_FnExactValidView.calls kk b0 cap0 xs b1 cap1 ys n2 true W hr0 hc0 hr1 hc1 hkk).mono fun e W' ⟨he, bel⟩ => ?_
  subst he
  exact ⟨_, rfl, _, _, _, [], _, [], hW', trodAll_mk1 (shut_bool Try.underlying4 _), (trodAll_cons_mk (Below.trod laidOut (by kernel_rfl) (of_decide_eq_true (by kernel_rfl)) k0 bel lt0) trodAll_mk0), rfl, bel.frame _, fun h => by cases h⟩
set_option maxHeartbeats 4000000 in
theorem closed : joinedFacts Try.pinned.checked.prog 6 Try.f6 Rows.fnExactValidViewSpec Rows.fnExactValidViewRow = true := joined_of_parts
  (by as_aux_lemma => kernel_rfl) Facts.fact2 Facts.fact3 (by as_aux_lemma => kernel_rfl) (by as_aux_lemma => kernel_rfl) (by as_aux_lemma => kernel_rfl) Facts.fact7 (by as_aux_lemma => kernel_rfl) Facts.fact9 (by as_aux_lemma => kernel_rfl) (by as_aux_lemma => kernel_rfl) (by as_aux_lemma => kernel_rfl) (by as_aux_lemma => kernel_rfl) (by as_aux_lemma => kernel_rfl) (by as_aux_lemma => kernel_rfl) (by as_aux_lemma => kernel_rfl) (by as_aux_lemma => kernel_rfl) (by as_aux_lemma => kernel_rfl) (by as_aux_lemma => kernel_rfl) (by as_aux_lemma => kernel_rfl) (by as_aux_lemma => kernel_rfl) (by as_aux_lemma => kernel_rfl) Facts.fact23 (by as_aux_lemma => kernel_rfl) Facts.fact25 Facts.fact26 Facts.fact27 Facts.fact28 (by as_aux_lemma => kernel_rfl) (by as_aux_lemma => kernel_rfl) (by as_aux_lemma => kernel_rfl) (by as_aux_lemma => kernel_rfl)
theorem over : Rows.fnExactValidViewRow.holds Try.pinned (OpenSpec.ofChange Rows.fnExactValidViewSpec) :=
  OpenClaim.holds_of_wide 6 Try.f6 rfl rfl rfl rfl rfl rfl rfl ⟨rfl, rfl, rfl, rfl, rfl⟩ rfl rfl rfl rfl rfl (by as_aux_lemma => kernel_rfl) Try.func6 closed
    (of_decide_eq_true (by kernel_rfl)) (by unfold Func.isWrapper; first | (rw [if_pos (by decide +kernel)]; kernel_rfl) | (rw [if_neg (by decide +kernel)]; exact ⟨rfl, rfl⟩))
    (fun os started H enc _ => lifted os started H enc)
theorem proved : Rows.FnExactValidViewSaid := over
end Go.Proofs.Ytpmdgmnpkdoamaa.fnExactValidView
namespace Go.Proofs.Ytpmdgmnpkdoamaa
/-- The row, under a short name, for the claim. -/
theorem fnExactValidView_holds : Rows.FnExactValidViewSaid := fnExactValidView.proved
#print axioms fnExactValidView_holds
end Go.Proofs.Ytpmdgmnpkdoamaa
