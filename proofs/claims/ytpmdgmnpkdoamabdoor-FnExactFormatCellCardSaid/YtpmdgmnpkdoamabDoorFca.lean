/- Proved here: what spec.l6Dec answers: the decimal numeral. Condition: the number is an int64. -/
import Derived.Test.YtpmdgmnpkdoamabDoorFba
import Derived.Test.YtpmdgmnpkdoamabDoorWWords
import Derived.Lib.ItoaNum
import Derived.Lib.ItoaMem
import Derived.Lib.ItoaLen
import Derived.Laws.Concat
import Derived.Deep.RegionWith
import Derived.Deep.RegionHeld3
import Derived.BigQuiet
namespace Go.Proofs.YtpmdgmnpkdoamabDoor.Vc
open Go.RowKit Fl Prom Go.Proofs.YtpmdgmnpkdoamabDoorW.PrintWords
set_option linter.unusedVariables false
set_option linter.unusedSimpArgs false
def SB (l : List UInt8) : Value := .string ⟨l.toArray⟩
theorem cat_run (a b : List UInt8) (h : a.length + b.length ≤ 1000000) (w : World) : (binOp .add 9 (SB a) (SB b)).run Tryd.prog w = .ok (SB (a ++ b)) w := by
  have := run_string_add_sum (P := Tryd.prog) (w := w) ⟨a.toArray⟩ ⟨b.toArray⟩ (by simp [ByteArray.size]; omega)
  unfold SB
  have e : (⟨a.toArray⟩ : ByteArray) ++ ⟨b.toArray⟩ = ⟨(a ++ b).toArray⟩ := by
    apply ByteArray.ext; simp
  rw [e] at this
  exact this
def DecP (v : Int) (w : World) : Prop := Calls Tryd.prog 107 #[.int .i64 v] w fun e w' => e = .returned (SB (Lib.itoa v)) ∧ Below w.heap.size w w'
theorem conv_one (b : Nat) (x : Int) (w : World) (h : w.cell? ⟨b, 0, none⟩ = some (.int .u8 x)) : (convert 48 9 (.slice (some ⟨b, 0, none⟩) 1 1)).run Tryd.prog w = .ok (.string (strOfNums [x])) w := by
  refine string_of_reads Tryd.underlying48 Tryd.underlying5 Tryd.underlying9 ⟨rfl, by decide, fun _ => ⟨⟨b, 0, none⟩, rfl, ?_⟩⟩
  intro j hj
  obtain rfl : j = 0 := by omega
  exact h
theorem new_cell (W : World) (x : Int) (b : Nat) (hb : b = W.heap.size) : (W.alloc (Obj.cells #[Value.int IntKind.u8 x] 5)).cell? ⟨b, 0, none⟩ = some (.int .u8 x) := by subst hb; simp
theorem bb2 {w c u : World} (hb : Below c.heap.size c u) (h : Below w.heap.size w c) : Below w.heap.size w u := h.trans (hb.mono h.size)
theorem str_one (x : Int) (h0 : 0 ≤ x) (h1 : x < 256) : strOfNums [x] = ⟨[UInt8.ofNat x.toNat].toArray⟩ := by
  simp [strOfNums]
theorem dec_digit (v : Int) (h : 0 ≤ v ∧ v < 10) : Value.string (strOfNums [48 + v]) = SB (Lib.itoa v) := by
  rw [str_one _ (by omega) (by omega)]
  unfold SB Lib.itoa
  rw [if_neg (by omega), Lib.decDigits_one (by omega)]
  rw [show (48 + v).toNat = 48 + v.toNat by omega]
theorem ret_str {a b : Value} (h : a = b) : Ending.returned a = .returned b := by rw [h]
set_option maxRecDepth 20000 in
theorem dec_small (v : Int) (h : 0 ≤ v ∧ v < 10) (w : World) : DecP v w := by
  unfold DecP
  have HD := Lib.hid (dec_digit v h)
  obtain ⟨h0, h1⟩ := h
  have n0 : ¬ v < 0 := by omega
  have hc : (convert 48 9 (.slice (some ⟨w.heap.size, 0, none⟩) 1 1)).run Tryd.prog (w.alloc (Obj.cells #[Value.int IntKind.u8 (48 + v)] 5)) = .ok (.string (strOfNums [48 + v])) (w.alloc (Obj.cells #[Value.int IntKind.u8 (48 + v)] 5)) :=
    conv_one _ _ _ (by simp)
  go_enter Tryd.func107, Tryd.ntmps107
  go_wp2
  go_ret
  exact ⟨ret_str HD.out, below_alloc (Below.refl _ _) _⟩
set_option maxRecDepth 20000 in
theorem dec_neg (v : Int) (h : -10 < v ∧ v < 0) (w : World) : DecP v w := by
  unfold DecP
  have HD := Lib.hid (show SB (45 :: Lib.itoa (-v)) = SB (Lib.itoa v) by
    unfold Lib.itoa
    rw [if_pos h.2, if_neg (by omega), show (-v).toNat = v.natAbs by omega])
  have IH := dec_small (-v) (by omega)
  obtain ⟨h0, h1⟩ := h
  have e1 : wrap64 (-v) = -v := by unfold wrap64; omega
  have hl := Lib.itoa_length_le (-v) (by omega) (by omega)
  have hcat : ∀ w, (binOp .add 9 (.string ⟨#[45]⟩) (SB (Lib.itoa (-v)))).run Tryd.prog w = .ok (SB (45 :: Lib.itoa (-v))) w := fun w => cat_run [45] (Lib.itoa (-v)) (by simp; omega) w
  go_enter Tryd.func107, Tryd.ntmps107
  go_wp2_with (go_at_call 107; refine (IH _).mono ?_; rintro e u ⟨rfl, hb⟩)
  go_ret
  exact ⟨ret_str HD.out, hb⟩
set_option maxHeartbeats 4000000 in
set_option maxRecDepth 20000 in
theorem dec_step (v : Int) (h : 10 ≤ v ∧ v ≤ 9223372036854775807) (IH : ∀ w, DecP (v / 10) w) (w : World) : DecP v w := by
  unfold DecP at *
  obtain ⟨D, hD⟩ : ∃ D, D = 48 + v % 10 := ⟨_, rfl⟩
  obtain ⟨Q, hQ⟩ : ∃ Q, Q = v / 10 := ⟨_, rfl⟩
  rw [← hQ] at IH
  have rD : 0 ≤ D ∧ D < 256 := by omega
  have rQ : -9223372036854775808 ≤ Q ∧ Q ≤ 9223372036854775807 := by omega
  have HD := Lib.hid (show SB (Lib.itoa Q ++ [UInt8.ofNat D.toNat]) = SB (Lib.itoa v) by
    subst hD hQ
    unfold Lib.itoa
    rw [if_neg (by omega), if_neg (by omega)]
    conv => rhs; rw [Lib.decDigits, dif_neg (by omega)]
    rw [show (v / 10).toNat = v.toNat / 10 by omega, show (48 + v % 10).toNat = 48 + v.toNat % 10 by omega])
  have hl := Lib.itoa_length_le Q rQ.1 rQ.2
  have hcat := fun w => cat_run (Lib.itoa Q) [UInt8.ofNat D.toNat] (by simp; omega) w
  have n0 : ¬ v < 0 := by omega
  have n1 : ¬ v < 10 := by omega
  have e1 : v.tdiv 10 = v / 10 := Int.tdiv_eq_ediv_of_nonneg (by omega)
  have e2 : v.tmod 10 = v % 10 := Int.tmod_eq_emod_of_nonneg (by omega)
  have hq : IntKind.i64.wrap (v.tdiv 10) = Q := by rw [wrap_i64]; unfold wrap64; omega
  have ha : IntKind.i64.wrap (48 + v.tmod 10) = D := by rw [wrap_i64]; unfold wrap64; omega
  have hq2 : IntKind.i64.wrap (v / 10) = Q := by rw [wrap_i64]; unfold wrap64; omega
  have ha2 : IntKind.i64.wrap (48 + v % 10) = D := by rw [wrap_i64]; unfold wrap64; omega
  have hc : IntKind.u8.wrap D = D := by simp [IntKind.wrap, IntKind.signed, IntKind.bits]; omega
  have hs := str_one D rD.1 rD.2
  have CV := Lib.hid (show ∀ b u, u.cell? ⟨b, 0, none⟩ = some (.int .u8 D) → (convert 48 9 (.slice (some ⟨b, 0, none⟩) 1 1)).run Tryd.prog u = .ok (SB [UInt8.ofNat D.toNat]) u by
    intro b u h
    have := conv_one b D u h
    rw [hs] at this
    exact this)
  clear hs hD hQ rD rQ hl e1 e2
  have d0 := CV.out w.heap.size (w.alloc (Obj.cells #[Value.int IntKind.u8 D] 5)).drew (new_cell w.drew _ _ rfl)
  have S0 : Below w.heap.size w w.drew := below_drew (Below.refl _ _)
  have IH := Lib.hid IH
  go_enter Tryd.func107, Tryd.ntmps107
  go_wp2
  refine wp_region_held_drew (S := (fun W' => Below w.heap.size w W')) (by kernel_rfl) S0 (fun hHeld => ?_)
  refine wpAnyH_take (i := 0) (v := ?_) rfl (by kernel_rfl) (by kernel_rfl) (by kernel_rfl) (fun _ _ _ h => h) (Or.inl ⟨by rfl, ?_⟩) hHeld ?_
  rotate_left
  · (intro z hSw; (try dsimp only at hSw); go_simp; try (with_reducible rfl))
  simp only [List.getElem_toArray, List.getElem_cons_zero, List.getElem_cons_succ, Act.put, List.setIfInBounds_toArray, List.set_cons_zero, List.set_cons_succ]
  refine wpAnyH_take (i := 1) (v := ?_) rfl (by kernel_rfl) (by kernel_rfl) (by kernel_rfl) (fun _ _ _ h => h) (Or.inl ⟨by rfl, ?_⟩) hHeld ?_
  rotate_left
  · (intro z hSw; (try dsimp only at hSw); go_simp; try (with_reducible rfl))
  simp only [List.getElem_toArray, List.getElem_cons_zero, List.getElem_cons_succ, Act.put, List.setIfInBounds_toArray, List.set_cons_zero, List.set_cons_succ]
  refine wpAnyH_take (i := 3) (v := ?_) rfl (by kernel_rfl) (by kernel_rfl) (by kernel_rfl) (fun _ _ _ h => h) (Or.inl ⟨by rfl, ?_⟩) hHeld ?_
  rotate_left
  · (intro z hSw; (try dsimp only at hSw); go_simp; try (with_reducible rfl))
  simp only [List.getElem_toArray, List.getElem_cons_zero, List.getElem_cons_succ, Act.put, List.setIfInBounds_toArray, List.set_cons_zero, List.set_cons_succ]
  refine wpAnyH_take (i := 4) (v := ?_) rfl (by kernel_rfl) (by kernel_rfl) (by kernel_rfl) (fun _ _ _ h => h) (Or.inl ⟨by rfl, ?_⟩) hHeld ?_
  rotate_left
  · (intro z hSw; (try dsimp only at hSw); go_simp; try (with_reducible rfl))
  simp only [List.getElem_toArray, List.getElem_cons_zero, List.getElem_cons_succ, Act.put, List.setIfInBounds_toArray, List.set_cons_zero, List.set_cons_succ]
  refine wpAnyH_take (i := 5) (v := ?_) rfl (by kernel_rfl) (by kernel_rfl) (by kernel_rfl) (fun _ _ _ h => h) (Or.inl ⟨by rfl, ?_⟩) hHeld ?_
  rotate_left
  · (intro z hSw; (try dsimp only at hSw); go_simp; try (with_reducible rfl))
  simp only [List.getElem_toArray, List.getElem_cons_zero, List.getElem_cons_succ, Act.put, List.setIfInBounds_toArray, List.set_cons_zero, List.set_cons_succ]
  refine wpAnyH_take (i := 6) (v := ?_) rfl (by kernel_rfl) (by kernel_rfl) (by kernel_rfl) (fun _ _ _ h => h) (Or.inl ⟨by rfl, ?_⟩) hHeld ?_
  rotate_left
  · (intro z hSw; (try dsimp only at hSw); go_simp; try (with_reducible rfl))
  simp only [List.getElem_toArray, List.getElem_cons_zero, List.getElem_cons_succ, Act.put, List.setIfInBounds_toArray, List.set_cons_zero, List.set_cons_succ]
  refine wpAnyH_ready (rs := [2, 7]) (by kernel_rfl) (by simp) ?_
  refine AllReadyH.cons rfl (fun K hK => ?_) (AllReadyH.cons rfl (fun K hK => ?_) AllReadyH.nil)
  · go_simp
    refine (IH.out _).mono ?_
    rintro e u ⟨rfl, hb⟩
    have d2 := CV.out u.heap.size (u.alloc (Obj.cells #[Value.int IntKind.u8 D] 5)) (new_cell _ _ _ rfl)
    refine hK.out _ _ (bb2 hb hHeld) (fun hHeld => ?_)
    clear hK K
    try simp only [List.getElem_toArray, List.getElem_cons_zero, List.getElem_cons_succ, Act.put, List.setIfInBounds_toArray, List.set_cons_zero, List.set_cons_succ]
    refine wpAnyH_ready (rs := [7]) (by kernel_rfl) (by simp) ?_
    refine AllReadyH.cons rfl (fun K hK => ?_) AllReadyH.nil
    go_simp
    refine hK.out _ _ (below_alloc hHeld _) (fun hHeld => ?_)
    clear hK K
    try simp only [List.getElem_toArray, List.getElem_cons_zero, List.getElem_cons_succ, Act.put, List.setIfInBounds_toArray, List.set_cons_zero, List.set_cons_succ]
    refine wpAnyH_ready (rs := [8]) (by kernel_rfl) (by simp) ?_
    refine AllReadyH.cons rfl (fun K hK => ?_) AllReadyH.nil
    go_simp
    refine hK.out _ _ (hHeld) (fun hHeld => ?_)
    clear hK K
    try simp only [List.getElem_toArray, List.getElem_cons_zero, List.getElem_cons_succ, Act.put, List.setIfInBounds_toArray, List.set_cons_zero, List.set_cons_succ]
    refine wpAnyH_take (i := 9) (v := ?_) rfl (by kernel_rfl) (by kernel_rfl) (by kernel_rfl) (fun _ _ _ h => h) (Or.inl ⟨by rfl, ?_⟩) hHeld ?_
    rotate_left
    · (intro z hSw; (try dsimp only at hSw); go_simp; try (with_reducible rfl))
    simp only [List.getElem_toArray, List.getElem_cons_zero, List.getElem_cons_succ, Act.put, List.setIfInBounds_toArray, List.set_cons_zero, List.set_cons_succ]
    refine wpAnyH_take (i := 10) (v := ?_) rfl (by kernel_rfl) (by kernel_rfl) (by kernel_rfl) (fun _ _ _ h => h) (Or.inl ⟨by rfl, ?_⟩) hHeld ?_
    rotate_left
    · (intro z hSw; (try dsimp only at hSw); go_simp; try (with_reducible rfl))
    simp only [List.getElem_toArray, List.getElem_cons_zero, List.getElem_cons_succ, Act.put, List.setIfInBounds_toArray, List.set_cons_zero, List.set_cons_succ]
    refine wpAnyH_done (by kernel_rfl) ?_ _
    go_wp2
    go_ret
    exact ⟨ret_str HD.out, hHeld⟩
  · go_simp
    refine hK.out _ _ (below_drew (below_alloc (Below.refl _ _) _)) (fun hHeld => ?_)
    clear hK K
    try simp only [List.getElem_toArray, List.getElem_cons_zero, List.getElem_cons_succ, Act.put, List.setIfInBounds_toArray, List.set_cons_zero, List.set_cons_succ]
    refine wpAnyH_ready (rs := [2, 8]) (by kernel_rfl) (by simp) ?_
    refine AllReadyH.cons rfl (fun K hK => ?_) (AllReadyH.cons rfl (fun K hK => ?_) AllReadyH.nil)
    · go_simp
      refine (IH.out _).mono ?_
      rintro e u ⟨rfl, hb⟩
      have d3 := CV.out w.heap.size u ((hb.cell (p := ⟨w.heap.size, 0, none⟩) (by simp)).trans (new_cell w.drew _ _ rfl))
      refine hK.out _ _ (bb2 hb hHeld) (fun hHeld => ?_)
      clear hK K
      try simp only [List.getElem_toArray, List.getElem_cons_zero, List.getElem_cons_succ, Act.put, List.setIfInBounds_toArray, List.set_cons_zero, List.set_cons_succ]
      refine wpAnyH_ready (rs := [8]) (by kernel_rfl) (by simp) ?_
      refine AllReadyH.cons rfl (fun K hK => ?_) AllReadyH.nil
      go_simp
      refine hK.out _ _ (hHeld) (fun hHeld => ?_)
      clear hK K
      try simp only [List.getElem_toArray, List.getElem_cons_zero, List.getElem_cons_succ, Act.put, List.setIfInBounds_toArray, List.set_cons_zero, List.set_cons_succ]
      refine wpAnyH_take (i := 9) (v := ?_) rfl (by kernel_rfl) (by kernel_rfl) (by kernel_rfl) (fun _ _ _ h => h) (Or.inl ⟨by rfl, ?_⟩) hHeld ?_
      rotate_left
      · (intro z hSw; (try dsimp only at hSw); go_simp; try (with_reducible rfl))
      simp only [List.getElem_toArray, List.getElem_cons_zero, List.getElem_cons_succ, Act.put, List.setIfInBounds_toArray, List.set_cons_zero, List.set_cons_succ]
      refine wpAnyH_take (i := 10) (v := ?_) rfl (by kernel_rfl) (by kernel_rfl) (by kernel_rfl) (fun _ _ _ h => h) (Or.inl ⟨by rfl, ?_⟩) hHeld ?_
      rotate_left
      · (intro z hSw; (try dsimp only at hSw); go_simp; try (with_reducible rfl))
      simp only [List.getElem_toArray, List.getElem_cons_zero, List.getElem_cons_succ, Act.put, List.setIfInBounds_toArray, List.set_cons_zero, List.set_cons_succ]
      refine wpAnyH_done (by kernel_rfl) ?_ _
      go_wp2
      go_ret
      exact ⟨ret_str HD.out, hHeld⟩
    · go_simp
      refine hK.out _ _ (hHeld) (fun hHeld => ?_)
      clear hK K
      try simp only [List.getElem_toArray, List.getElem_cons_zero, List.getElem_cons_succ, Act.put, List.setIfInBounds_toArray, List.set_cons_zero, List.set_cons_succ]
      refine wpAnyH_ready (rs := [2]) (by kernel_rfl) (by simp) ?_
      refine AllReadyH.cons rfl (fun K hK => ?_) AllReadyH.nil
      go_simp
      refine (IH.out _).mono ?_
      rintro e u ⟨rfl, hb⟩
      refine hK.out _ _ (bb2 hb hHeld) (fun hHeld => ?_)
      clear hK K
      try simp only [List.getElem_toArray, List.getElem_cons_zero, List.getElem_cons_succ, Act.put, List.setIfInBounds_toArray, List.set_cons_zero, List.set_cons_succ]
      refine wpAnyH_take (i := 9) (v := ?_) rfl (by kernel_rfl) (by kernel_rfl) (by kernel_rfl) (fun _ _ _ h => h) (Or.inl ⟨by rfl, ?_⟩) hHeld ?_
      rotate_left
      · (intro z hSw; (try dsimp only at hSw); go_simp; try (with_reducible rfl))
      simp only [List.getElem_toArray, List.getElem_cons_zero, List.getElem_cons_succ, Act.put, List.setIfInBounds_toArray, List.set_cons_zero, List.set_cons_succ]
      refine wpAnyH_take (i := 10) (v := ?_) rfl (by kernel_rfl) (by kernel_rfl) (by kernel_rfl) (fun _ _ _ h => h) (Or.inl ⟨by rfl, ?_⟩) hHeld ?_
      rotate_left
      · (intro z hSw; (try dsimp only at hSw); go_simp; try (with_reducible rfl))
      simp only [List.getElem_toArray, List.getElem_cons_zero, List.getElem_cons_succ, Act.put, List.setIfInBounds_toArray, List.set_cons_zero, List.set_cons_succ]
      refine wpAnyH_done (by kernel_rfl) ?_ _
      go_wp2
      go_ret
      exact ⟨ret_str HD.out, hHeld⟩
set_option maxHeartbeats 4000000 in
set_option maxRecDepth 20000 in
theorem dec_nstep (v : Int) (h : -9223372036854775808 ≤ v ∧ v ≤ -10) (IH : ∀ w, DecP (-((-v) / 10)) w) (w : World) : DecP v w := by
  unfold DecP at *
  obtain ⟨D, hD⟩ : ∃ D, D = 48 + (-v) % 10 := ⟨_, rfl⟩
  obtain ⟨Q, hQ⟩ : ∃ Q, Q = -((-v) / 10) := ⟨_, rfl⟩
  rw [← hQ] at IH
  have rD : 0 ≤ D ∧ D < 256 := by omega
  have rQ : -9223372036854775808 ≤ Q ∧ Q ≤ 9223372036854775807 := by omega
  have HD := Lib.hid (show SB (Lib.itoa Q ++ [UInt8.ofNat D.toNat]) = SB (Lib.itoa v) by
    subst hD hQ
    unfold Lib.itoa
    rw [if_pos (by omega), if_pos (by omega)]
    conv => rhs; rw [Lib.decDigits, dif_neg (by omega)]
    rw [show (-((-v) / 10)).natAbs = v.natAbs / 10 by omega, show (48 + (-v) % 10).toNat = 48 + v.natAbs % 10 by omega]
    rfl)
  have hl := Lib.itoa_length_le Q rQ.1 rQ.2
  have hcat := fun w => cat_run (Lib.itoa Q) [UInt8.ofNat D.toNat] (by simp; omega) w
  have n0 : v < 0 := by omega
  have n1 : ¬ v > -10 := by omega
  have e1 : v.tdiv 10 = -((-v) / 10) := by
    have h1 := Int.neg_tdiv (-v) 10
    rw [Int.neg_neg] at h1
    rw [h1, Int.tdiv_eq_ediv_of_nonneg (by omega)]
  have e2 : v.tmod 10 = -((-v) % 10) := by
    have h1 := Int.neg_tmod (-v) 10
    rw [Int.neg_neg] at h1
    rw [h1, Int.tmod_eq_emod_of_nonneg (by omega)]
  have hq : IntKind.i64.wrap (v.tdiv 10) = Q := by rw [wrap_i64]; unfold wrap64; omega
  have ha : IntKind.i64.wrap (48 - v.tmod 10) = D := by rw [wrap_i64]; unfold wrap64; omega

  have hc : IntKind.u8.wrap D = D := by simp [IntKind.wrap, IntKind.signed, IntKind.bits]; omega
  have hs := str_one D rD.1 rD.2
  have CV := Lib.hid (show ∀ b u, u.cell? ⟨b, 0, none⟩ = some (.int .u8 D) → (convert 48 9 (.slice (some ⟨b, 0, none⟩) 1 1)).run Tryd.prog u = .ok (SB [UInt8.ofNat D.toNat]) u by
    intro b u h
    have := conv_one b D u h
    rw [hs] at this
    exact this)
  clear hs hD hQ rD rQ hl e1 e2
  have d0 := CV.out w.heap.size (w.alloc (Obj.cells #[Value.int IntKind.u8 D] 5)).drew (new_cell w.drew _ _ rfl)
  have S0 : Below w.heap.size w w.drew := below_drew (Below.refl _ _)
  have IH := Lib.hid IH
  go_enter Tryd.func107, Tryd.ntmps107
  go_wp2
  refine wp_region_held_drew (S := (fun W' => Below w.heap.size w W')) (by kernel_rfl) S0 (fun hHeld => ?_)
  refine wpAnyH_take (i := 0) (v := ?_) rfl (by kernel_rfl) (by kernel_rfl) (by kernel_rfl) (fun _ _ _ h => h) (Or.inl ⟨by rfl, ?_⟩) hHeld ?_
  rotate_left
  · (intro z hSw; (try dsimp only at hSw); go_simp; try (with_reducible rfl))
  simp only [List.getElem_toArray, List.getElem_cons_zero, List.getElem_cons_succ, Act.put, List.setIfInBounds_toArray, List.set_cons_zero, List.set_cons_succ]
  refine wpAnyH_take (i := 1) (v := ?_) rfl (by kernel_rfl) (by kernel_rfl) (by kernel_rfl) (fun _ _ _ h => h) (Or.inl ⟨by rfl, ?_⟩) hHeld ?_
  rotate_left
  · (intro z hSw; (try dsimp only at hSw); go_simp; try (with_reducible rfl))
  simp only [List.getElem_toArray, List.getElem_cons_zero, List.getElem_cons_succ, Act.put, List.setIfInBounds_toArray, List.set_cons_zero, List.set_cons_succ]
  refine wpAnyH_take (i := 3) (v := ?_) rfl (by kernel_rfl) (by kernel_rfl) (by kernel_rfl) (fun _ _ _ h => h) (Or.inl ⟨by rfl, ?_⟩) hHeld ?_
  rotate_left
  · (intro z hSw; (try dsimp only at hSw); go_simp; try (with_reducible rfl))
  simp only [List.getElem_toArray, List.getElem_cons_zero, List.getElem_cons_succ, Act.put, List.setIfInBounds_toArray, List.set_cons_zero, List.set_cons_succ]
  refine wpAnyH_take (i := 4) (v := ?_) rfl (by kernel_rfl) (by kernel_rfl) (by kernel_rfl) (fun _ _ _ h => h) (Or.inl ⟨by rfl, ?_⟩) hHeld ?_
  rotate_left
  · (intro z hSw; (try dsimp only at hSw); go_simp; try (with_reducible rfl))
  simp only [List.getElem_toArray, List.getElem_cons_zero, List.getElem_cons_succ, Act.put, List.setIfInBounds_toArray, List.set_cons_zero, List.set_cons_succ]
  refine wpAnyH_take (i := 5) (v := ?_) rfl (by kernel_rfl) (by kernel_rfl) (by kernel_rfl) (fun _ _ _ h => h) (Or.inl ⟨by rfl, ?_⟩) hHeld ?_
  rotate_left
  · (intro z hSw; (try dsimp only at hSw); go_simp; try (with_reducible rfl))
  simp only [List.getElem_toArray, List.getElem_cons_zero, List.getElem_cons_succ, Act.put, List.setIfInBounds_toArray, List.set_cons_zero, List.set_cons_succ]
  refine wpAnyH_take (i := 6) (v := ?_) rfl (by kernel_rfl) (by kernel_rfl) (by kernel_rfl) (fun _ _ _ h => h) (Or.inl ⟨by rfl, ?_⟩) hHeld ?_
  rotate_left
  · (intro z hSw; (try dsimp only at hSw); go_simp; try (with_reducible rfl))
  simp only [List.getElem_toArray, List.getElem_cons_zero, List.getElem_cons_succ, Act.put, List.setIfInBounds_toArray, List.set_cons_zero, List.set_cons_succ]
  refine wpAnyH_ready (rs := [2, 7]) (by kernel_rfl) (by simp) ?_
  refine AllReadyH.cons rfl (fun K hK => ?_) (AllReadyH.cons rfl (fun K hK => ?_) AllReadyH.nil)
  · go_simp
    refine (IH.out _).mono ?_
    rintro e u ⟨rfl, hb⟩
    have d2 := CV.out u.heap.size (u.alloc (Obj.cells #[Value.int IntKind.u8 D] 5)) (new_cell _ _ _ rfl)
    refine hK.out _ _ (bb2 hb hHeld) (fun hHeld => ?_)
    clear hK K
    try simp only [List.getElem_toArray, List.getElem_cons_zero, List.getElem_cons_succ, Act.put, List.setIfInBounds_toArray, List.set_cons_zero, List.set_cons_succ]
    refine wpAnyH_ready (rs := [7]) (by kernel_rfl) (by simp) ?_
    refine AllReadyH.cons rfl (fun K hK => ?_) AllReadyH.nil
    go_simp
    refine hK.out _ _ (below_alloc hHeld _) (fun hHeld => ?_)
    clear hK K
    try simp only [List.getElem_toArray, List.getElem_cons_zero, List.getElem_cons_succ, Act.put, List.setIfInBounds_toArray, List.set_cons_zero, List.set_cons_succ]
    refine wpAnyH_ready (rs := [8]) (by kernel_rfl) (by simp) ?_
    refine AllReadyH.cons rfl (fun K hK => ?_) AllReadyH.nil
    go_simp
    refine hK.out _ _ (hHeld) (fun hHeld => ?_)
    clear hK K
    try simp only [List.getElem_toArray, List.getElem_cons_zero, List.getElem_cons_succ, Act.put, List.setIfInBounds_toArray, List.set_cons_zero, List.set_cons_succ]
    refine wpAnyH_take (i := 9) (v := ?_) rfl (by kernel_rfl) (by kernel_rfl) (by kernel_rfl) (fun _ _ _ h => h) (Or.inl ⟨by rfl, ?_⟩) hHeld ?_
    rotate_left
    · (intro z hSw; (try dsimp only at hSw); go_simp; try (with_reducible rfl))
    simp only [List.getElem_toArray, List.getElem_cons_zero, List.getElem_cons_succ, Act.put, List.setIfInBounds_toArray, List.set_cons_zero, List.set_cons_succ]
    refine wpAnyH_take (i := 10) (v := ?_) rfl (by kernel_rfl) (by kernel_rfl) (by kernel_rfl) (fun _ _ _ h => h) (Or.inl ⟨by rfl, ?_⟩) hHeld ?_
    rotate_left
    · (intro z hSw; (try dsimp only at hSw); go_simp; try (with_reducible rfl))
    simp only [List.getElem_toArray, List.getElem_cons_zero, List.getElem_cons_succ, Act.put, List.setIfInBounds_toArray, List.set_cons_zero, List.set_cons_succ]
    refine wpAnyH_done (by kernel_rfl) ?_ _
    go_wp2
    go_ret
    exact ⟨ret_str HD.out, hHeld⟩
  · go_simp
    refine hK.out _ _ (below_drew (below_alloc (Below.refl _ _) _)) (fun hHeld => ?_)
    clear hK K
    try simp only [List.getElem_toArray, List.getElem_cons_zero, List.getElem_cons_succ, Act.put, List.setIfInBounds_toArray, List.set_cons_zero, List.set_cons_succ]
    refine wpAnyH_ready (rs := [2, 8]) (by kernel_rfl) (by simp) ?_
    refine AllReadyH.cons rfl (fun K hK => ?_) (AllReadyH.cons rfl (fun K hK => ?_) AllReadyH.nil)
    · go_simp
      refine (IH.out _).mono ?_
      rintro e u ⟨rfl, hb⟩
      have d3 := CV.out w.heap.size u ((hb.cell (p := ⟨w.heap.size, 0, none⟩) (by simp)).trans (new_cell w.drew _ _ rfl))
      refine hK.out _ _ (bb2 hb hHeld) (fun hHeld => ?_)
      clear hK K
      try simp only [List.getElem_toArray, List.getElem_cons_zero, List.getElem_cons_succ, Act.put, List.setIfInBounds_toArray, List.set_cons_zero, List.set_cons_succ]
      refine wpAnyH_ready (rs := [8]) (by kernel_rfl) (by simp) ?_
      refine AllReadyH.cons rfl (fun K hK => ?_) AllReadyH.nil
      go_simp
      refine hK.out _ _ (hHeld) (fun hHeld => ?_)
      clear hK K
      try simp only [List.getElem_toArray, List.getElem_cons_zero, List.getElem_cons_succ, Act.put, List.setIfInBounds_toArray, List.set_cons_zero, List.set_cons_succ]
      refine wpAnyH_take (i := 9) (v := ?_) rfl (by kernel_rfl) (by kernel_rfl) (by kernel_rfl) (fun _ _ _ h => h) (Or.inl ⟨by rfl, ?_⟩) hHeld ?_
      rotate_left
      · (intro z hSw; (try dsimp only at hSw); go_simp; try (with_reducible rfl))
      simp only [List.getElem_toArray, List.getElem_cons_zero, List.getElem_cons_succ, Act.put, List.setIfInBounds_toArray, List.set_cons_zero, List.set_cons_succ]
      refine wpAnyH_take (i := 10) (v := ?_) rfl (by kernel_rfl) (by kernel_rfl) (by kernel_rfl) (fun _ _ _ h => h) (Or.inl ⟨by rfl, ?_⟩) hHeld ?_
      rotate_left
      · (intro z hSw; (try dsimp only at hSw); go_simp; try (with_reducible rfl))
      simp only [List.getElem_toArray, List.getElem_cons_zero, List.getElem_cons_succ, Act.put, List.setIfInBounds_toArray, List.set_cons_zero, List.set_cons_succ]
      refine wpAnyH_done (by kernel_rfl) ?_ _
      go_wp2
      go_ret
      exact ⟨ret_str HD.out, hHeld⟩
    · go_simp
      refine hK.out _ _ (hHeld) (fun hHeld => ?_)
      clear hK K
      try simp only [List.getElem_toArray, List.getElem_cons_zero, List.getElem_cons_succ, Act.put, List.setIfInBounds_toArray, List.set_cons_zero, List.set_cons_succ]
      refine wpAnyH_ready (rs := [2]) (by kernel_rfl) (by simp) ?_
      refine AllReadyH.cons rfl (fun K hK => ?_) AllReadyH.nil
      go_simp
      refine (IH.out _).mono ?_
      rintro e u ⟨rfl, hb⟩
      refine hK.out _ _ (bb2 hb hHeld) (fun hHeld => ?_)
      clear hK K
      try simp only [List.getElem_toArray, List.getElem_cons_zero, List.getElem_cons_succ, Act.put, List.setIfInBounds_toArray, List.set_cons_zero, List.set_cons_succ]
      refine wpAnyH_take (i := 9) (v := ?_) rfl (by kernel_rfl) (by kernel_rfl) (by kernel_rfl) (fun _ _ _ h => h) (Or.inl ⟨by rfl, ?_⟩) hHeld ?_
      rotate_left
      · (intro z hSw; (try dsimp only at hSw); go_simp; try (with_reducible rfl))
      simp only [List.getElem_toArray, List.getElem_cons_zero, List.getElem_cons_succ, Act.put, List.setIfInBounds_toArray, List.set_cons_zero, List.set_cons_succ]
      refine wpAnyH_take (i := 10) (v := ?_) rfl (by kernel_rfl) (by kernel_rfl) (by kernel_rfl) (fun _ _ _ h => h) (Or.inl ⟨by rfl, ?_⟩) hHeld ?_
      rotate_left
      · (intro z hSw; (try dsimp only at hSw); go_simp; try (with_reducible rfl))
      simp only [List.getElem_toArray, List.getElem_cons_zero, List.getElem_cons_succ, Act.put, List.setIfInBounds_toArray, List.set_cons_zero, List.set_cons_succ]
      refine wpAnyH_done (by kernel_rfl) ?_ _
      go_wp2
      go_ret
      exact ⟨ret_str HD.out, hHeld⟩
theorem dec_run (n : Nat) : ∀ (v : Int), -9223372036854775808 ≤ v → v ≤ 9223372036854775807 → v.natAbs < 10 ^ n → ∀ w, DecP v w := by
  induction n with
  | zero =>
    intro v h0 h1 h2 w
    have : v = 0 := by simp at h2; omega
    subst this
    exact dec_small 0 (by omega) w
  | succ n ih =>
    intro v h0 h1 h2 w
    have hp : 10 ^ (n + 1) = 10 * 10 ^ n := by rw [Nat.pow_succ]; omega
    by_cases a : 0 ≤ v ∧ v < 10
    · exact dec_small v a w
    by_cases b : -10 < v ∧ v < 0
    · exact dec_neg v b w
    by_cases c : 0 ≤ v
    · exact dec_step v (by omega) (fun u => ih (v / 10) (by omega) (by omega) (by omega) u) w
    · exact dec_nstep v (by omega) (fun u => ih (-((-v) / 10)) (by omega) (by omega) (by omega) u) w
theorem spec_dec (v : Int) (h0 : -9223372036854775808 ≤ v) (h1 : v ≤ 9223372036854775807) (w : World) : Calls Tryd.prog 107 #[.int .i64 v] w fun e w' => e = .returned (SB (Lib.itoa v)) ∧ Below w.heap.size w w' :=
  dec_run 19 v h0 h1 (by have : (10 : Nat) ^ 19 = 10000000000000000000 := by decide
                         omega) w
end Go.Proofs.YtpmdgmnpkdoamabDoor.Vc
