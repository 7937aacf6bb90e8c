/- Proved here: what impl.formatFloat answers of every float: its text. Conditions: the word is a double's; the table of powers of ten holds what it was laid with. -/
import Derived.Test.YtpmdgmnpkdoamabGreatDoorCtFcj
import Derived.Deep.LoopGhost
namespace Go.Proofs.YtpmdgmnpkdoamabGreatDoor.Vc
open Go.RowKit Fl Prom Go.Proofs.YtpmdgmnpkdoamabGreatDoorW.PrintWords
open Ieee (double Format Datum)
set_option linter.unusedVariables false
set_option linter.unusedSimpArgs false
def FFL (x : Nat) (l : List UInt8) : Prop := ∀ w, Tab w → Calls Tryz.prog 64 #[.float .f64 x] w fun e w' => e = .returned (SB l) ∧ Below w.heap.size w w'
theorem ffl_nan {x : Nat} (h : fnan x = true) : FFL x [110, 97, 110] := by
  intro w _
  have o1 : (FloatKind.f64.format.order x x != some Ordering.eq) = true := h
  go_enter Tryz.func64, Tryz.ntmps64
  go_wp2
  go_ret
  exact ⟨rfl, Below.refl _ _⟩
theorem isinf_inf (w : World) : Calls Tryz.prog 121 #[.float .f64 INF, .int .i64 1] w fun e w' => e = .returned (.bool true) ∧ w = w' := by
  have o1 : (FloatKind.f64.format.order INF 9218868437227405311 == some Ordering.gt) = true := by decide
  generalize INF = x at *
  go_enter Tryz.func121, Tryz.ntmps121
  go_wp2
  go_ret
  exact ⟨rfl, rfl⟩
theorem isinf_ninf1 (w : World) : Calls Tryz.prog 121 #[.float .f64 (negZero + INF), .int .i64 1] w fun e w' => e = .returned (.bool false) ∧ w = w' := by
  have o1 : (FloatKind.f64.format.order (negZero + INF) 9218868437227405311 == some Ordering.gt) = false := by decide
  generalize negZero + INF = x at *
  go_enter Tryz.func121, Tryz.ntmps121
  go_wp2
  go_ret
  exact ⟨rfl, rfl⟩
theorem isinf_ninf (w : World) : Calls Tryz.prog 121 #[.float .f64 (negZero + INF), .int .i64 (-1)] w fun e w' => e = .returned (.bool true) ∧ w = w' := by
  have o1 : (FloatKind.f64.format.order (Fl.flip (negZero + INF)) 9218868437227405311 == some Ordering.gt) = true := by decide
  have hn := neg_float (negZero + INF) (by decide)
  generalize negZero + INF = x at *
  go_enter Tryz.func121, Tryz.ntmps121
  go_wp2
  go_ret
  exact ⟨rfl, rfl⟩
theorem ffl_inf : FFL INF [105, 110, 102] := by
  intro w _
  have o1 : (FloatKind.f64.format.order INF INF != some Ordering.eq) = false := by decide
  have F := isinf_inf
  generalize INF = x at *
  go_enter Tryz.func64, Tryz.ntmps64
  go_wp2_with (go_at_call 121; refine (F _).mono ?_; rintro e w' ⟨rfl, rfl⟩)
  go_ret
  exact ⟨rfl, Below.refl _ _⟩
theorem ffl_ninf : FFL (negZero + INF) [45, 105, 110, 102] := by
  intro w _
  have o1 : (FloatKind.f64.format.order (negZero + INF) (negZero + INF) != some Ordering.eq) = false := by decide
  have F : ∀ g : Int, g = 1 → ∀ w, Calls Tryz.prog 121 #[.float .f64 (negZero + INF), .int .i64 g] w fun e w' => e = .returned (.bool false) ∧ w = w' := (by rintro g rfl w; exact isinf_ninf1 w)
  have F2 : ∀ g : Int, g = -1 → ∀ w, Calls Tryz.prog 121 #[.float .f64 (negZero + INF), .int .i64 g] w fun e w' => e = .returned (.bool true) ∧ w = w' := (by rintro g rfl w; exact isinf_ninf w)
  generalize negZero + INF = x at *
  go_enter Tryz.func64, Tryz.ntmps64
  go_wp2_with fail
  refine (F _ rfl _).mono ?_
  rintro e w' ⟨rfl, rfl⟩
  go_wp2_with fail
  refine (F2 _ rfl _).mono ?_
  rintro e w' ⟨rfl, rfl⟩
  go_wp2
  go_ret
  exact ⟨rfl, Below.refl _ _⟩
theorem ffl_zero : FFL 0 [48] := by
  intro w _
  have o1 : (FloatKind.f64.format.order 0 0 != some Ordering.eq) = false := by decide
  have o2 : (FloatKind.f64.format.order 0 0 == some Ordering.eq) = true := by decide
  go_enter Tryz.func64, Tryz.ntmps64
  go_wp2_with (first | (go_at_call 121; refine (isinf_run (by decide) v_zero _ (by simp) _).mono ?_; rintro e w' ⟨rfl, rfl⟩) | (go_at_call 122; refine (signbit_any _ (by decide) _).mono ?_; rintro e w' ⟨rfl, rfl⟩))
  go_ret
  exact ⟨rfl, Below.refl _ _⟩
theorem v_nzero : Val true 0 negZero := ⟨0, -1074, by decide, by omega, by omega, by decide, by rw [Nat.zero_mul]⟩
theorem ffl_nzero : FFL negZero [45, 48] := by
  intro w _
  have o1 : (FloatKind.f64.format.order negZero negZero != some Ordering.eq) = false := by decide
  have o2 : (FloatKind.f64.format.order negZero 0 == some Ordering.eq) = true := by decide
  have F := fun g hg w => isinf_run (x := negZero) (by decide) v_nzero g hg w
  have F2 : ∀ w, Calls Tryz.prog 122 #[.float .f64 negZero] w fun e w' => e = .returned (.bool true) ∧ w = w' := fun w => (signbit_any negZero (by decide) w).mono (by
    rintro e w' ⟨rfl, rfl⟩
    exact ⟨by rw [decide_eq_true (show 9223372036854775808 ≤ negZero from Nat.le_refl _)], rfl⟩)
  generalize negZero = x at *
  go_enter Tryz.func64, Tryz.ntmps64
  go_wp2_with (first | (go_at_call 121; refine (F _ (by simp) _).mono ?_; rintro e w' ⟨rfl, rfl⟩) | (go_at_call 122; refine (F2 _).mono ?_; rintro e w' ⟨rfl, rfl⟩))
  go_ret
  exact ⟨rfl, Below.refl _ _⟩
/-- Its digits and the odd part. -/
theorem full_odd {o t m : Nat} {e : Int} (ho : o % 2 = 1) (h : o * 2 ^ t = m * 2 ^ (e + 1200).toNat) (h3 : m < 2 ^ 53) (he : -1126 ≤ e) : ∃ r : Nat, r ≤ 52 ∧ m = o * 2 ^ r ∧ e + (r : Int) = (t : Int) - 1200 := by
  generalize hE : (e + 1200).toNat = E at h
  have hEt : E ≤ t := by
    rcases Nat.lt_or_ge t E with hlt | hge
    · exfalso
      have : o * 2 ^ t = m * 2 ^ (E - t) * 2 ^ t := by rw [h, Nat.mul_assoc, ← Nat.pow_add]; congr 2; omega
      have h6 := Nat.eq_of_mul_eq_mul_right (Nat.two_pow_pos t) this
      obtain ⟨d, hd⟩ : ∃ d, E - t = d + 1 := ⟨E - t - 1, by omega⟩
      rw [hd, Nat.pow_succ, ← Nat.mul_assoc] at h6
      omega
    · exact hge
  have h6 : o * 2 ^ (t - E) = m := by
    have : o * 2 ^ (t - E) * 2 ^ E = m * 2 ^ E := by rw [Nat.mul_assoc, ← Nat.pow_add, ← h]; congr 2; omega
    exact Nat.eq_of_mul_eq_mul_right (Nat.two_pow_pos E) this
  refine ⟨t - E, ?_, h6.symm, by omega⟩
  have hpm : 2 ^ (t - E) ≤ m := by rw [← h6]; exact Nat.le_mul_of_pos_left _ (by omega)
  have : 2 ^ (t - E) < 2 ^ 53 := by omega
  have := (Nat.pow_lt_pow_iff_right (a := 2) (by omega)).1 this
  omega
/-- A number with its sign. -/
def sg (s : Bool) (n : Nat) : Int := if s then -(n : Int) else (n : Int)
theorem nrm_trunc {s : Bool} {m z : Nat} (h : Nrm s m 0 z) : (double.read z).toInt .zero = some (sg s m) := by
  obtain ⟨p, hp⟩ : ∃ p : Nat, p = 1200 := ⟨_, rfl⟩
  have h1 := val_trunc (nrm_val h)
  rw [← hp] at h1
  rw [h1, show ((0 : Int) + 1200).toNat = p by omega, Nat.mul_div_cancel _ (Nat.two_pow_pos p)]
  unfold sg
  cases s <;> simp
theorem sg_itoa (s : Bool) (o : Nat) (h : 0 < o) : Lib.itoa (sg s o) = if s then 45 :: Lib.itoa o else Lib.itoa o := by
  cases s
  · rfl
  · unfold sg
    simp only [if_true]
    rw [Lib.itoa_neg o h, Lib.itoa_nonneg]
theorem sg_half (s : Bool) (N : Nat) (h : N % 2 = 0) : (sg s N).tdiv 2 = sg s (N / 2) := by
  unfold sg
  cases s
  · simp only [Bool.false_eq_true, if_false]; rw [Int.tdiv_eq_ediv_of_nonneg (by omega)]; omega
  · simp only [if_true]; rw [Int.neg_tdiv, Int.tdiv_eq_ediv_of_nonneg (by omega)]; omega
theorem sg_even (s : Bool) (N : Nat) (h : N % 2 = 0) : (sg s N).tmod 2 = 0 := by
  unfold sg
  cases s
  · simp only [Bool.false_eq_true, if_false]; rw [Int.tmod_eq_emod_of_nonneg (by omega)]; omega
  · simp only [if_true]; rw [Int.neg_tmod, Int.tmod_eq_emod_of_nonneg (by omega)]; omega
theorem sg_odd (s : Bool) (N : Nat) (h : N % 2 = 1) : (sg s N).tmod 2 = if s then -1 else 1 := by
  unfold sg
  cases s
  · simp only [Bool.false_eq_true, if_false]; rw [Int.tmod_eq_emod_of_nonneg (by omega)]; omega
  · simp only [if_true]; rw [Int.neg_tmod, Int.tmod_eq_emod_of_nonneg (by omega)]; omega
theorem sg_bound (s : Bool) {N : Nat} (h : N < 2 ^ 53) : -9007199254740992 ≤ sg s N ∧ sg s N ≤ 9007199254740992 := by
  unfold sg
  cases s <;> simp <;> omega
set_option maxRecDepth 20000 in
set_option maxHeartbeats 8000000 in
theorem ffl_fin {s : Bool} {o t x : Nat} (hx : x < 18446744073709551616) (hV : Val s (o * 2 ^ t) x) (ho : o % 2 = 1) : FFL x ((if s then 45 :: Lib.itoa o else Lib.itoa o) ++ 112 :: Lib.itoa ((t : Int) - 1200)) := by
  intro w hT
  obtain ⟨L, hL⟩ : ∃ L, L = (if s then 45 :: Lib.itoa o else Lib.itoa o) ++ 112 :: Lib.itoa ((t : Int) - 1200) := ⟨_, rfl⟩
  rw [← hL]
  have HL := Lib.hid hL
  clear hL
  have hA : o * 2 ^ t ≠ 0 := Nat.mul_ne_zero (by omega) (by have := Nat.two_pow_pos t; omega)
  have hs := odd_small hV ho
  obtain ⟨m, e, hF, hAm, m2, m3, e1, e2⟩ := full_ex hx hV hA
  obtain ⟨r0, hr0, hmr, her⟩ := full_odd ho hAm m3 e1
  have hn : (FloatKind.f64.format.order x x != some Ordering.eq) = false := val_nan hV
  have o1 := full_ne hF
  have HV := Lib.hid hV
  have F164 := Lib.hid (fun u => Frexp_full hF m2 m3 u)
  have HT := Lib.hid hT
  have ST := Lib.hid (And.intro ho (And.intro hs (And.intro hmr (And.intro her (And.intro hr0 (And.intro m3 (And.intro e1 (And.intro e2 hx))))))))
  clear hx hV ho hs hA hF hAm m2 m3 e1 e2 hr0 hmr her hT
  go_enter Tryz.func64, Tryz.ntmps64
  go_wp2_with (first | (go_at_call 121; refine (isinf_run ST.out.2.2.2.2.2.2.2.2 HV.out _ (by simp) _).mono ?_; rintro e w' ⟨rfl, rfl⟩) | (go_at_call 123; refine (F164.out _).mono ?_; rintro q w' ⟨y, rfl, hy, rfl⟩; have HY := Lib.hid hy; clear hy) | (go_at_call 124; refine (Ldexp_nrm HY.out _).mono ?_; rintro q w' ⟨z, rfl, hz, rfl⟩; have HZ := Lib.hid hz; clear hz; have hci : ∀ u, (convert 53 2 (.float .f64 z)).run Tryz.prog u = .ok (.int .i64 (sg s m)) u := (fun u => trunc_run (nrm_trunc HZ.out) (by have := sg_bound s ST.out.2.2.2.2.2.1; omega) u)))
  go_loopg [5, 4] r0 (fun kq v5 v4 wr => ∃ N r : Nat, v5 = .int .i64 (sg s N) ∧ v4 = .int .i64 ((t : Int) - 1200 - r) ∧ w = wr ∧ Aside0 (N = o * 2 ^ r ∧ r ≤ 52 ∧ N < 2 ^ 53 ∧ kq = r))
  case atStart => exact ⟨m, r0, rfl, by (have h1 := ST.out; congr 1; unfold wrap64; omega), rfl, ⟨ST.out.2.2.1, ST.out.2.2.2.2.1, ST.out.2.2.2.2.2.1, rfl⟩⟩
  case round =>
    clear hci
    obtain ⟨N, r, rfl, rfl, rfl, hN⟩ := hrel
    rcases Nat.eq_zero_or_pos r with hr | hr
    · have hNo : N = o := by rw [hN.out.1, hr]; simp
      have HF := Lib.hid (And.intro hNo hr)
      have f4 : (t : Int) - 1200 - (r : Int) = (t : Int) - 1200 := by omega
      have hb := sg_bound s hN.out.2.2.1
      have hs := ST.out.2.1
      have D1 := Lib.hid (fun u hu => fmtint_run (sg s N) (by omega) (by omega) u hu)
      have D2 := Lib.hid (fun u hu => itoa_run ((t : Int) - 1200) (by omega) (by omega) u hu)
      have l1 := Lib.itoa_length_le (sg s N) (by omega) (by omega)
      have l2 := Lib.itoa_length_le ((t : Int) - 1200) (by omega) (by omega)
      have hc1 : ∀ u, (binOp .add 9 (SB (Lib.itoa (sg s N))) (.string ⟨#[112]⟩)).run Tryz.prog u = .ok (SB (Lib.itoa (sg s N) ++ [112])) u := fun u => cat_run (Lib.itoa (sg s N)) [112] (by simp; omega) u
      have hc2 := fun u => cat_run (Lib.itoa (sg s N) ++ [112]) (Lib.itoa ((t : Int) - 1200)) (by simp; omega) u
      have f3 : (sg s N).tmod 2 = 1 ∨ (sg s N).tmod 2 = -1 := by
        rw [sg_odd s N (by have := ST.out.1; omega)]
        cases s
        · left; rfl
        · right; rfl
      clear hNo hr hs hb l1 l2
      rcases f3 with f3 | f3
      all_goals go_wp2_with fail
      all_goals refine (D1.out _ HT.out).mono ?_
      all_goals rintro e u1 ⟨rfl, hb1⟩
      all_goals have B1 := Lib.hid hb1
      all_goals clear hb1
      all_goals go_wp2_with fail
      all_goals refine (D2.out _ (tab_below HT.out B1.out)).mono ?_
      all_goals rintro e u2 ⟨rfl, hb2⟩
      all_goals have B2 := Lib.hid (B1.out.trans (hb2.mono B1.out.size))
      all_goals clear hb2
      all_goals go_wp2_with fail
      all_goals go_ret
      all_goals refine ⟨ret_str ?_, B2.out⟩
      all_goals rw [HL.out, ← sg_itoa s o (by have := ST.out.1; omega), HF.out.1]
      all_goals rfl
    · obtain ⟨d, hd⟩ : ∃ d, r = d + 1 := ⟨r - 1, by omega⟩
      subst hd
      have h1 := hN.out.1
      rw [Nat.pow_succ, ← Nat.mul_assoc] at h1
      have ev : N % 2 = 0 := by omega
      have f3 := sg_even s N ev
      have f5 := sg_half s N ev
      have HN := Lib.hid (show N / 2 = o * 2 ^ d by rw [h1, Nat.mul_div_cancel _ (by decide)])
      clear hr h1 ev
      go_wp2
      go_roundg d
      case measure => (have := hN.out; omega)
      case rel => exact ⟨N / 2, d, by (have h4 := sg_bound s (N := N / 2) (by have := hN.out; omega); congr 1; unfold wrap64; omega), by (have h1 := hN.out; have h3 := ST.out.2.1; congr 1; unfold wrap64; omega), rfl, ⟨HN.out, by have := hN.out; omega, by have := hN.out; omega, rfl⟩⟩
theorem impl_float {x : Nat} {l : List UInt8} (hx : x < 18446744073709551616) (h : FTx x l) : FFL x l := by
  rcases h with ⟨h, rfl⟩ | ⟨rfl, rfl⟩ | ⟨rfl, rfl⟩ | ⟨rfl, rfl⟩ | ⟨rfl, rfl⟩ | ⟨o, t, ho, hV, rfl⟩ | ⟨o, t, ho, hV, rfl⟩
  · exact ffl_nan h
  · exact ffl_zero
  · exact ffl_nzero
  · exact ffl_inf
  · exact ffl_ninf
  · exact ffl_fin (s := false) hx hV ho
  · exact ffl_fin (s := true) hx hV ho
end Go.Proofs.YtpmdgmnpkdoamabGreatDoor.Vc
