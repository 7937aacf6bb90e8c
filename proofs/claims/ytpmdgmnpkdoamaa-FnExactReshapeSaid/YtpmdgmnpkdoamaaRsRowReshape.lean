/- Proved here: at all arguments the law on Reshape answers true. Condition: the arguments are of their types. -/
import Derived.Test.YtpmdgmnpkdoamaaRows
import Derived.Test.YtpmdgmnpkdoamaaJoined
import Derived.Test.YtpmdgmnpkdoamaaFacts
import Derived.Test.YtpmdgmnpkdoamaaRsPureFnExactReshape
import Derived.WalkKit
import Derived.ProofKit
import Derived.OpenShut
import Derived.ShutString
import Derived.ChangeOld
import Derived.Below
import Derived.SizedLaws
import Derived.ChangeSlices
import Derived.Lib.SmallJoins
import Derived.Carry
namespace Go.Proofs.Ytpmdgmnpkdoamaa.fnExactReshape
open Go.ChangeShapes Go.WideShapes Go.ChangeAt Go.RowKit
set_option linter.unusedVariables false
theorem own : ownKnob Try.prog.godebug = none := by kernel_rfl
theorem laidOut : laidOutB Try.prog = true := Facts.fact2
set_option maxRecDepth 100000 in
theorem lifted (os : Os) (started : os.Started) (H : Type) (enc : TypeId × Value → H) :
    ReturnsInHanded {} Try.checked os 17 .any (Rows.fnExactReshapeSpec.pre6 enc Try.prog Try.f17 Rows.fnExactReshapeRow.domain false) (Rows.fnExactReshapeSpec.post enc Try.prog Try.f17 false true false false) := by
  refine returnsInHanded_of_change_sized (C := Try.checked) own started (by kernel_rfl) Try.func17
    (ChangeSpec.witness6 (enc := enc) (C := Try.checked) false ⟨#[], #[.agg #[.slice none 0 0, .slice none 0 0, .int .i64 0], .slice none 0 0], []⟩ 8 (by kernel_rfl) (by kernel_rfl) (by kernel_rfl) (by kernel_rfl)) ?_
  intro W base args ds gs before hval0 hW hcnd hsz0 _
  have hsz : (DataW.weightsEach Try.prog (Try.f17.params.toList ++ Rows.fnExactReshapeSpec.plain.varTypes Try.prog) (ds ++ gs)).all (· ≤ reachBytes) = true := hsz0
  have hval : ∀ (j : Nat) t v, Try.f17.params[j]? = some t → args[j]? = some v → Value.okWide Try.prog W .any base t v := hval0
  have hW' := hW
  obtain ⟨p, q, hA0, hV, rfl, hfz, hnd⟩ := hW
  have hA : DataW.TrodAll enc Try.prog W 0 (fun _ => true) true Try.f17.params.toList args.toList ds p := hA0
  rw [Try.params17] at hA hval hsz
  obtain ⟨v0, vs0, d0, ds0, p0, q0, hargs, rfl, rfl, h0, r0⟩ := trodAll_cons hA
  obtain ⟨v1, vs1, d1, ds1, p1, q1, rfl, rfl, rfl, h1, r1⟩ := trodAll_cons r0
  obtain ⟨rfl, rfl, rfl⟩ := trodAll_nil r1
  obtain rfl : args = #[v0, v1] := by cases args; simp_all
  obtain ⟨rfl, rfl⟩ := trodVars_none hV
  have k0 := h0
  have lt0 : ∀ x ∈ p0, x.block < W.heap.size := by obtain ⟨m, hm⟩ := k0; exact DataW.trod_lt m _ _ _ hm
  obtain ⟨cA0, cA1, cA2, yA0, yA1, yA2, m0, rfl, rfl, rfl, tA0, tA1, tA2⟩ := Joins.open_agg3 Try.underlying29 (by kernel_rfl) (by kernel_rfl) (hval 0 29 v0 rfl rfl) h0
  obtain ⟨bA0, capA0, xsA, rfl, hcA0, hxA0, hrA0⟩ := DFnExactReshape.field_ints Try.underlying27 Try.underlying2 (by kernel_rfl) tA0
  obtain ⟨bA1, capA1, ysA, rfl, hcA1, hxA1, hrA1⟩ := DFnExactReshape.field_ints Try.underlying27 Try.underlying2 (by kernel_rfl) tA1
  obtain ⟨nA2, eA2, _, _⟩ := DataW.trod_int Try.underlying2 tA2
  obtain rfl : cA2 = .int .i64 nA2 := by simpa using eA2
  have k1 := h1
  have lt1 : ∀ x ∈ p1, x.block < W.heap.size := by obtain ⟨m, hm⟩ := k1; exact DataW.trod_lt m _ _ _ hm
  obtain ⟨aLB, lenLB, capLB, rfl⟩ := okWide_slice Try.underlying27 (hval 1 27 v1 rfl rfl)
  obtain ⟨zLB, wLB⟩ : ∃ zs : List Int, ((aLB = none ∧ lenLB = 0 ∧ capLB = 0 ∧ zs = []) ∨ ∃ x, aLB = some x ∧ lenLB ≤ capLB ∧ capLB ≤ maxLen ∧ zs.length = capLB ∧ (∀ i, i < zs.length → W.cell? (x.add i) = some (.int .i64 (zs.getD i 0))) ∧ ∀ n ∈ zs, (Lit.int .i64 n).wf = true) := by
    obtain ⟨fuel, hf⟩ := h1
    rcases open_ints Try.underlying27 Try.underlying2 (by kernel_rfl) hf with ⟨hcs, _⟩ | ⟨x, l, c, zs, hcs, _, hl, hm, hz, _, hcell, hwz⟩
    · simp [Value.cells] at hcs
      obtain ⟨rfl, rfl, rfl⟩ := hcs
      exact ⟨[], .inl ⟨rfl, rfl, rfl, rfl⟩⟩
    · simp [Value.cells] at hcs
      obtain ⟨rfl, rfl, rfl⟩ := hcs
      exact ⟨zs, .inr ⟨_, rfl, hl, hm, by simpa using hz, hcell, hwz⟩⟩
  obtain ⟨lLB, rfl, hrLB, hmLB, hwLB, hcLB⟩ := Go.Proofs.YtpmdgmnpkdoamaaW.PrintWords.ReadsInt.ofRowC wLB
  have hCLB := Go.Proofs.YtpmdgmnpkdoamaaW.PrintWords.Kd.C_of_reads (d := (0 : Int)) (h1 := fun _ => rfl) hrLB
  obtain ⟨kk, hkk⟩ := DFnExactReshape.law_words xsA ysA nA2 lLB hxA0 hxA1
  clear hA0 hval0
  refine (DFnExactReshape.laws_FnExactReshape.calls kk bA0 capA0 xsA bA1 capA1 ysA nA2 aLB capLB lLB W hrA0 hcA0 hrA1 hcA1 hCLB hcLB hkk).mono fun e W' ⟨he, bel⟩ => ?_
  subst he
  exact ⟨_, rfl, _, _, _, [], _, [], hW', trodAll_mk1 (shut_bool Try.underlying4 _), (trodAll_cons_mk (Below.trod laidOut (by kernel_rfl) (of_decide_eq_true (by kernel_rfl)) k0 bel lt0) (trodAll_cons_mk (Below.trod laidOut (by kernel_rfl) (of_decide_eq_true (by kernel_rfl)) k1 bel lt1) trodAll_mk0)), rfl, bel.frame _, fun h => by cases h⟩
set_option maxHeartbeats 4000000 in
theorem closed : joinedFacts Try.pinned.checked.prog 17 Try.f17 Rows.fnExactReshapeSpec Rows.fnExactReshapeRow = true := joined_of_parts
  (by as_aux_lemma => kernel_rfl) Facts.fact2 Facts.fact3 (by as_aux_lemma => kernel_rfl) (by as_aux_lemma => kernel_rfl) (by as_aux_lemma => kernel_rfl) Facts.fact7 (by as_aux_lemma => kernel_rfl) Facts.fact9 (by as_aux_lemma => kernel_rfl) (by as_aux_lemma => kernel_rfl) (by as_aux_lemma => kernel_rfl) (by as_aux_lemma => kernel_rfl) (by as_aux_lemma => kernel_rfl) (by as_aux_lemma => kernel_rfl) (by as_aux_lemma => kernel_rfl) (by as_aux_lemma => kernel_rfl) (by as_aux_lemma => kernel_rfl) (by as_aux_lemma => kernel_rfl) (by as_aux_lemma => kernel_rfl) (by as_aux_lemma => kernel_rfl) (by as_aux_lemma => kernel_rfl) Facts.fact23 (by as_aux_lemma => kernel_rfl) Facts.fact25 Facts.fact26 Facts.fact27 Facts.fact28 (by as_aux_lemma => kernel_rfl) (by as_aux_lemma => kernel_rfl) (by as_aux_lemma => kernel_rfl) (by as_aux_lemma => kernel_rfl)
theorem over : Rows.fnExactReshapeRow.holds Try.pinned (OpenSpec.ofChange Rows.fnExactReshapeSpec) :=
  OpenClaim.holds_of_wide 17 Try.f17 rfl rfl rfl rfl rfl rfl rfl ⟨rfl, rfl, rfl, rfl, rfl⟩ rfl rfl rfl rfl rfl (by as_aux_lemma => kernel_rfl) Try.func17 closed
    (of_decide_eq_true (by kernel_rfl)) (by unfold Func.isWrapper; first | (rw [if_pos (by decide +kernel)]; kernel_rfl) | (rw [if_neg (by decide +kernel)]; exact ⟨rfl, rfl⟩))
    (fun os started H enc _ => lifted os started H enc)
theorem proved : Rows.FnExactReshapeSaid := over
end Go.Proofs.Ytpmdgmnpkdoamaa.fnExactReshape
namespace Go.Proofs.Ytpmdgmnpkdoamaa
/-- The row, under a short name, for the claim. -/
theorem fnExactReshape_holds : Rows.FnExactReshapeSaid := fnExactReshape.proved
#print axioms fnExactReshape_holds
end Go.Proofs.Ytpmdgmnpkdoamaa
