/- Proved here: what spec.l6Float answers of a positive finite float: its odd part and its exponent in decimal. Condition: the float is an odd number times a power of two. -/
import Derived.Test.YtpmdgmnpkdoamabDoorFca
import Derived.Test.YtpmdgmnpkdoamabDoorFcb
import Derived.Deep.LoopGhost
namespace Go.Proofs.YtpmdgmnpkdoamabDoor.Vc
open Go.RowKit Fl Prom Go.Proofs.YtpmdgmnpkdoamabDoorW.PrintWords
open Ieee (single double Format Datum)
set_option linter.unusedVariables false
set_option linter.unusedSimpArgs false
theorem val_nan {s : Bool} {A x : Nat} (h : Val s A x) : fnan x = false := by
  obtain ⟨m, e, h1, _⟩ := h
  rw [fnan_eq, h1]; rfl
theorem ord_twice {A x y : Nat} (h : Val false A x) (hA : A ≠ 0) (hy : Val false (2 * A) y ∨ double.read y = .infinity false) : FloatKind.f64.format.order x y = some .lt := by
  rcases hy with hy | hy
  · have := ord_pos h hy
    rw [cmpn_lt (by omega)] at this
    exact this
  · obtain ⟨m, e, h1, _⟩ := h
    show double.order x y = _
    unfold Format.order
    rw [h1, hy]
    rfl
set_option maxRecDepth 20000 in
set_option maxHeartbeats 8000000 in
theorem sfl_pos (o t x : Nat) (hV : Val false (o * 2 ^ t) x) (ho : o % 2 = 1) (w : World) :
    Calls Tryd.prog 108 #[.float .f64 x] w fun e w' => e = .returned (SB (Lib.itoa o ++ 112 :: Lib.itoa ((t : Int) - 1200))) ∧ Below w.heap.size w w' := by
  obtain ⟨p, hp⟩ : ∃ p : Nat, p = 1200 := ⟨_, rfl⟩
  have hA : ∀ k, o * 2 ^ k ≠ 0 := fun k => Nat.mul_ne_zero (by omega) (by have := Nat.two_pow_pos k; omega)
  have hs := odd_small hV ho
  have o1 : FloatKind.f64.format.order x 0 = some .gt := (ord_pos hV v_zero).trans (by rw [cmpn_gt (by have := hA t; omega)])
  obtain ⟨y, hy, hyv⟩ := val_mul2 hV (hA t)
  have o2 := ord_twice hV (hA t) hyv
  have hmul := mul_run hy
  have hnan := val_nan hV
  have ST := Lib.hid (And.intro hV (And.intro ho (And.intro hs hp)))
  have HA := Lib.hid hA
  clear hV ho hs hA hy hyv hp
  go_enter Tryd.func108, Tryd.ntmps108
  go_wp2_with (go_at_call 143; refine (spec_nan _ _).mono ?_; rintro e w' ⟨rfl, rfl⟩; rw [hnan])
  clear o1 o2 hmul hnan
  go_loopg [0, 3] t (fun kq v0 v3 wr => ∃ x' t' : Nat, v0 = .float .f64 x' ∧ v3 = .int .i64 ((t : Int) - t') ∧ w = wr ∧ Aside0 (Val false (o * 2 ^ t') x' ∧ t' ≤ t ∧ kq = t'))
  case atStart => exact ⟨x, t, rfl, by rw [Int.sub_self], rfl, ⟨ST.out.1, Nat.le_refl _, rfl⟩⟩
  case round =>
    obtain ⟨x', t', rfl, rfl, rfl, ht⟩ := hrel
    rcases Nat.lt_or_ge (o * 2 ^ t') (2 ^ 52 * 2 ^ (p + 1)) with hc | hc
    · have hoc : FloatKind.f64.format.order x' 4845873199050653696 = some .lt := (ord_pos ht.out.1 (v_c53 ST.out.2.2.2)).trans (by rw [cmpn_lt hc])
      have HC := Lib.hid hc
      clear hc
      go_wp2
      clear hoc
      go_loopg [0, 3] (p - t') (fun kq v0 v3 wr => ∃ x2 t2 : Nat, v0 = .float .f64 x2 ∧ v3 = .int .i64 ((t : Int) - t2) ∧ w = wr ∧ Aside0 (Val false (o * 2 ^ t2) x2 ∧ o * 2 ^ t2 < 2 ^ 52 * 2 ^ (p + 1) ∧ t2 ≤ t + p ∧ kq = p - t2))
      case atStart => exact ⟨x', t', rfl, rfl, rfl, ⟨ht.out.1, HC.out, by have := ht.out; omega, rfl⟩⟩
      case round =>
        clear ht HC
        obtain ⟨x2, t2, rfl, rfl, rfl, ht⟩ := hrel
        have hM := whole_lt ht.out.2.1
        obtain ⟨M, hMe⟩ : ∃ M, M = o * 2 ^ t2 / 2 ^ p := ⟨_, rfl⟩
        rw [← hMe] at hM
        have hci : ∀ u, (convert 23 2 (.float .f64 x2)).run Tryd.prog u = .ok (.int .i64 (M : Int)) u := fun u => trunc_run (by rw [val_whole ST.out.2.2.2 ht.out.1, hMe]) (by omega) u
        have hcf := conv_id (M : Int)
        have hvm := val_near_int ST.out.2.2.2 hM
        rcases Nat.lt_or_ge t2 p with hlt | hge
        · have hne : M * 2 ^ p < o * 2 ^ t2 := by
            have h1 : M * 2 ^ p ≤ o * 2 ^ t2 := by rw [hMe]; exact Nat.div_mul_le_self _ _
            have h2 : M * 2 ^ p ≠ o * 2 ^ t2 := by
              rw [hMe]
              intro he
              have := (whole_iff (p := p) ST.out.2.1).1 he
              omega
            omega
          have hoc : FloatKind.f64.format.order x2 (FloatKind.f64.nearest (M : Int)) = some .gt := (ord_pos ht.out.1 hvm).trans (by rw [cmpn_gt hne])
          obtain ⟨y2, hy2, hv2⟩ := mul2_at ST.out.2.2.2 ht.out.1 (HA.out t2) ht.out.2.1
          have hmul := mul_run hy2
          have HV := Lib.hid (show Val false (o * 2 ^ (t2 + 1)) y2 by
            have e : 2 * (o * 2 ^ t2) = o * 2 ^ (t2 + 1) := by rw [Nat.pow_succ]; simp [Nat.mul_comm, Nat.mul_left_comm]
            rw [e] at hv2
            exact hv2)
          have HL := Lib.hid hlt
          clear hM hMe hvm hne hy2 hv2 hlt
          go_wp2
          go_roundg (p - (t2 + 1))
          case measure => (have := ht.out; have := HL.out; omega)
          case rel => exact ⟨y2, t2 + 1, rfl, by (have h1 := ht.out; have h2 := HL.out; have h3 := ST.out.2.2; congr 1; unfold wrap64; omega), rfl, ⟨HV.out, bound_iff ST.out.2.2.1.1 (by have := HL.out; omega), by have h2 := HL.out; have := ht.out; omega, rfl⟩⟩
        · have hoc : FloatKind.f64.format.order x2 (FloatKind.f64.nearest (M : Int)) = some .eq := (ord_pos ht.out.1 hvm).trans (by rw [hMe, (whole_iff (p := p) ST.out.2.1).2 hge, cmp_eq])
          have HM := Lib.hid (And.intro hM (And.intro (hMe.trans (whole_val hge)) hge))
          clear hM hMe hvm hge
          go_wp2
          clear hoc hci hcf
          go_loopg [4, 3] (t2 - p) (fun kq v4 v3 wr => ∃ N r : Nat, v4 = .int .i64 (N : Int) ∧ v3 = .int .i64 ((t : Int) - 1200 - r) ∧ w = wr ∧ Aside0 (N = o * 2 ^ r ∧ r ≤ t + p ∧ N < 2 ^ 53 ∧ kq = r))
          case atStart => exact ⟨M, t2 - p, rfl, by (have h1 := HM.out.2.2; have h2 := ST.out.2.2.2; congr 1; omega), rfl, ⟨HM.out.2.1, by have := ht.out; omega, HM.out.1, rfl⟩⟩
          case round =>
            clear ht HM
            obtain ⟨N, r, rfl, rfl, rfl, hN⟩ := hrel
            have f1 : (N : Int).tdiv 2 = (N : Int) / 2 := Int.tdiv_eq_ediv_of_nonneg (by omega)
            have f2 : (N : Int).tmod 2 = (N : Int) % 2 := Int.tmod_eq_emod_of_nonneg (by omega)
            rcases Nat.eq_zero_or_pos r with hr | hr
            · have hNo : N = o := by rw [hN.out.1, hr]; simp
              have f3 : (N : Int) % 2 = 1 := by have := ST.out.2.1; omega
              have HF := Lib.hid (And.intro hNo hr)
              have hs := ST.out.2.2.1
              have D1 := Lib.hid (fun u => spec_dec (N : Int) (by omega) (by omega) u)
              have D2 := Lib.hid (fun u => spec_dec ((t : Int) - 1200) (by omega) (by omega) u)
              have l1 := Lib.itoa_length_le (N : Int) (by omega) (by omega)
              have l2 := Lib.itoa_length_le ((t : Int) - 1200) (by omega) (by omega)
              have hc1 : ∀ u, (binOp .add 9 (SB (Lib.itoa N)) (.string ⟨#[112]⟩)).run Tryd.prog u = .ok (SB (Lib.itoa N ++ [112])) u := fun u => cat_run (Lib.itoa N) [112] (by simp; omega) u
              have hc2 := fun u => cat_run (Lib.itoa N ++ [112]) (Lib.itoa ((t : Int) - 1200)) (by simp; omega) u
              have f4 : (t : Int) - 1200 - (r : Int) = (t : Int) - 1200 := by omega
              clear hNo hr hs l1 l2
              go_wp2_with fail
              refine (D1.out _).mono ?_
              rintro e u1 ⟨rfl, hb1⟩
              have B1 := Lib.hid hb1
              clear hb1
              go_wp2_with fail
              refine (D2.out _).mono ?_
              rintro e u2 ⟨rfl, hb2⟩
              have B2 := Lib.hid (B1.out.trans (hb2.mono B1.out.size))
              clear hb2
              go_wp2_with fail
              go_ret
              refine ⟨ret_str ?_, B2.out⟩
              rw [HF.out.1]
              rfl
            · have f3 : (N : Int) % 2 = 0 := by
                obtain ⟨d, hd⟩ : ∃ d, r = d + 1 := ⟨r - 1, by omega⟩
                have h1 := hN.out.1
                rw [hd, Nat.pow_succ, ← Nat.mul_assoc] at h1
                omega
              have HN := Lib.hid (show N / 2 = o * 2 ^ (r - 1) by
                obtain ⟨d, hd⟩ : ∃ d, r = d + 1 := ⟨r - 1, by omega⟩
                have h1 := hN.out.1
                rw [hd, Nat.pow_succ, ← Nat.mul_assoc] at h1
                rw [h1, Nat.mul_div_cancel _ (by decide), show r - 1 = d by omega])
              have HR := Lib.hid hr
              clear hr
              go_wp2
              go_roundg (r - 1)
              case measure => (have := hN.out; have := HR.out; omega)
              case rel => exact ⟨N / 2, r - 1, by (have := hN.out; congr 1; unfold wrap64; omega), by (have h1 := hN.out; have h2 := HR.out; have h3 := ST.out.2.2; congr 1; unfold wrap64; omega), rfl, ⟨HN.out, by have := hN.out; omega, by have := hN.out; omega, rfl⟩⟩
    · have hr := room ST.out.2.2.1.1 hc
      have hA := HA.out t'
      obtain ⟨y', hy', hv'⟩ := div2_at ST.out.2.2.2 ht.out.1 hc
      have hdiv := div_run hy'
      have HV := Lib.hid (show Val false (o * 2 ^ (t' - 1)) y' by
        have e : t' = (t' - 1) + 1 := by omega
        rw [e, Nat.pow_succ, ← Nat.mul_assoc, Nat.mul_div_cancel _ (by decide)] at hv'
        exact hv')
      have hoc : FloatKind.f64.format.order x' 4845873199050653696 = some .gt ∨ FloatKind.f64.format.order x' 4845873199050653696 = some .eq := by
        have h0 := ord_pos ht.out.1 (v_c53 ST.out.2.2.2)
        rcases Nat.eq_or_lt_of_le hc with h | h
        · right; refine h0.trans ?_; rw [h]; rw [cmp_eq]
        · left; refine h0.trans ?_; rw [cmpn_gt h]
      have HR := Lib.hid hr
      clear hc hy' hv' hA hr
      rcases hoc with hoc | hoc
      all_goals go_wp2
      all_goals go_roundg (t' - 1)
      case measure => (have := ht.out; have := HR.out; omega)
      case rel => exact ⟨y', t' - 1, rfl, by (have h1 := ht.out; have h2 := HR.out; have h3 := ST.out.2.2.1.2; congr 1; unfold wrap64; omega), rfl, ⟨HV.out, by have := ht.out; omega, rfl⟩⟩
      case measure => (have := ht.out; have := HR.out; omega)
      case rel => exact ⟨y', t' - 1, rfl, by (have h1 := ht.out; have h2 := HR.out; have h3 := ST.out.2.2.1.2; congr 1; unfold wrap64; omega), rfl, ⟨HV.out, by have := ht.out; omega, rfl⟩⟩
end Go.Proofs.YtpmdgmnpkdoamabDoor.Vc
