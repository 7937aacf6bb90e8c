/- Proved here: impl.ParseCell reads a valid cell's text as the same cell, and refuses the empty text. Conditions: the words are of their kind; the tables hold what the program lays; the variable that bytealg reads holds a number. -/
import Derived.Test.YtpmdgmnpkdoamabGreatDoorCtPce
import Derived.Test.YtpmdgmnpkdoamabGreatDoorCtFcn
import Derived.Lib.BufferRead
namespace Go.Proofs.YtpmdgmnpkdoamabGreatDoor.Vc
open Go.RowKit Fl Prom Drw Go.Proofs.YtpmdgmnpkdoamabGreatDoorW.PrintWords
set_option linter.unusedVariables false
set_option linter.unusedSimpArgs false
theorem pf_text {x : Nat} {l : List UInt8} (hx : x < 18446744073709551616) (h : FTx x l) : ∃ y, y < 18446744073709551616 ∧ PF l y ∧ (y = x ∨ fnan y = true ∧ fnan x = true) := by
  rcases h with ⟨h, rfl⟩ | ⟨rfl, rfl⟩ | ⟨rfl, rfl⟩ | ⟨rfl, rfl⟩ | ⟨rfl, rfl⟩ | ⟨o, t, ho, hV, rfl⟩ | ⟨o, t, ho, hV, rfl⟩
  · exact ⟨_, by decide, pf_nan, .inr ⟨by decide, h⟩⟩
  · exact ⟨_, by decide, pf_zero, .inl rfl⟩
  · exact ⟨_, by decide, pf_nzero, .inl rfl⟩
  · exact ⟨_, by decide, pf_inf, .inl rfl⟩
  · exact ⟨_, by decide, pf_ninf, .inl rfl⟩
  · exact ⟨_, hx, pf_fin (s := false) hx hV ho, .inl rfl⟩
  · exact ⟨_, hx, pf_fin (s := true) hx hV ho, .inl rfl⟩
theorem same_of {x y : Nat} (h : y = x ∨ fnan y = true ∧ fnan x = true) : sameF y x = true := by
  rcases h with rfl | ⟨h1, h2⟩
  · exact same_self _
  · rw [same_nan_l h1]; exact h2
/-- What impl.ParseCell answers of a valid cell's text. -/
def PT (i : Int) (f g : Nat) (w : World) (e : Ending) (w' : World) : Prop := ∃ f' g', f' < 18446744073709551616 ∧ g' < 18446744073709551616 ∧ sameF f' f = true ∧ sameF g' g = true ∧ PR 0 i f' g' w e w'
theorem parse_text {dt i : Int} {f g : Nat} {l : List UInt8} (hf : f < 18446744073709551616) (hg : g < 18446744073709551616) (hv : vcell dt i f g = true) (h : CTx dt i f g l) (v : Value) (w : World) (hT : Table.Holds w) (hM : MLen w) (hc : CVT w v l) :
    Calls Tryz.prog 25 #[.int .i64 dt, v] w (PT i f g w) := by
  have hd := vcell_dt hv
  obtain ⟨n, rfl⟩ : ∃ n : Nat, dt = (n : Int) + 1 := ⟨(dt - 1).toNat, by omega⟩
  have hn : n < 9 := by omega
  have hlen := ctx_len h
  rcases h with ⟨h, _⟩ | ⟨_, ⟨hk, rfl⟩ | ⟨hk, h⟩ | ⟨hk, l1, l2, h1, h2, rfl⟩⟩
  · rw [hv] at h; cases h
  · have hi := vcell_i64 hv hk
    rw [vcell_int (isd_of n hn) hk] at hv
    simp only [Bool.and_eq_true, decide_eq_true_eq] at hv
    obtain ⟨⟨⟨b1, b2⟩, rfl⟩, rfl⟩ := hv
    obtain ⟨e1, e2⟩ := low_high n hn hk
    rw [e1] at b1
    rw [e2] at b2
    refine (parse_int n hn v _ w hT hM hc hk i (int_any i hi.1 hi.2) b1 b2).mono ?_
    intro e w' h
    exact ⟨0, 0, by decide, by decide, by decide, by decide, h⟩
  · rw [vcell_float (isd_of n hn) (by omega) hk] at hv
    simp only [Bool.and_eq_true, Bool.or_eq_true, decide_eq_true_eq] at hv
    obtain ⟨⟨rfl, rfl⟩, hok⟩ := hv
    obtain ⟨y, hy, hp, hs⟩ := pf_text hf h
    by_cases h7 : (n : Int) + 1 = 7
    · have hok : f32ok f = true := by
        rcases hok with h8 | h8
        · omega
        · exact h8
      refine (parse_f32 n hn v _ w hT hM hc hk h7 y hy hp).mono ?_
      rintro e w' ⟨z, hz, h⟩
      refine ⟨z, 0, hz.1, by decide, ?_, by decide, h⟩
      rcases hs with rfl | ⟨n1, n2⟩
      · rw [through_same hy hz]; exact hok
      · exact same_of (.inr ⟨hz.2.1 n1, n2⟩)
    · refine (parse_f64 n hn v _ w hT hM hc hk h7 y hp).mono ?_
      intro e w' h
      exact ⟨y, 0, hy, by decide, same_of hs, by decide, h⟩
  · have hi : i = 0 := by
      unfold vcell at hv
      rw [if_pos (isd_of n hn), if_neg (by omega), if_neg (by omega)] at hv
      simpa using hv
    subst hi
    obtain ⟨x, hx, hp1, hs1⟩ := pf_text hf h1
    obtain ⟨y, hy, hp2, hs2⟩ := pf_text hg h2
    have hno : (44 : UInt8) ∉ l1 := by
      intro hm
      rcases h1 with ⟨_, rfl⟩ | ⟨_, rfl⟩ | ⟨_, rfl⟩ | ⟨_, rfl⟩ | ⟨_, rfl⟩ | ⟨o, t, ho, hV, rfl⟩ | ⟨o, t, ho, hV, rfl⟩
      · exact absurd hm (by decide)
      · exact absurd hm (by decide)
      · exact absurd hm (by decide)
      · exact absurd hm (by decide)
      · exact absurd hm (by decide)
      · rcases List.mem_append.1 hm with hm | hm
        · exact Num.itoa_no 44 (by left; decide) _ hm
        · rcases List.mem_cons.1 hm with hm | hm
          · exact absurd hm (by decide)
          · exact Num.itoa_no 44 (by left; decide) _ hm
      · rcases List.mem_cons.1 hm with hm | hm
        · exact absurd hm (by decide)
        · rcases List.mem_append.1 hm with hm | hm
          · exact Num.itoa_no 44 (by left; decide) _ hm
          · rcases List.mem_cons.1 hm with hm | hm
            · exact absurd hm (by decide)
            · exact Num.itoa_no 44 (by left; decide) _ hm
    refine (parse_cx n hn v _ w hT hM hc hk l1 l2 (Num.cut_one 44 l1 l2 hno) hlen x y hp1 hp2).mono ?_
    intro e w' h
    exact ⟨x, y, hx, hy, same_of hs1, same_of hs2, h⟩
theorem parse_none (dt : Int) (v : Value) (w : World) (hT : Table.Holds w) (hM : MLen w) (hc : CVT w v []) : Calls Tryz.prog 25 #[.int .i64 dt, v] w (PR 14 0 0 0 w) := by
  by_cases hd : isdt dt = true
  · have hd' : 1 ≤ dt ∧ dt ≤ 9 := by unfold isdt at hd; simpa using hd
    obtain ⟨n, rfl⟩ : ∃ n : Nat, dt = (n : Int) + 1 := ⟨(dt - 1).toNat, by omega⟩
    have hn : n < 9 := by omega
    rcases kinds ((n : Int) + 1) with hk | hk | hk
    · exact parse_ibad n hn v _ w hT hM hc hk rfl
    · exact parse_fbad n hn v _ w hT hM hc hk rfl
    · exact parse_cxbad n hn v _ w hT hM hc hk rfl
  · exact parse_nodt dt v w (by simpa using hd)
theorem bv_cvt {base : Nat} {w : World} {v : Value} {l : List UInt8} (h : BV base w v l) : CVT w v l := by
  intro u hu
  rcases h with ⟨rfl, rfl | ⟨b, rfl⟩⟩ | ⟨b, c, cs, fz, rfl, h2, h3, h4, h5, h6, h7, h8⟩
  · exact Lib.run_convert_nil_bytes (P := Tryz.prog) u 52 9 5 0 Tryz.underlying52 Tryz.underlying5 Tryz.underlying9
  · exact run_convert_bytes_back (P := Tryz.prog) u 52 9 5 ⟨b, 0, none⟩ 0 [] Tryz.underlying52 Tryz.underlying5 Tryz.underlying9 (fun j hj => by simp at hj)
  · refine run_convert_bytes_back (P := Tryz.prog) u 52 9 5 ⟨b, 0, none⟩ c l Tryz.underlying52 Tryz.underlying5 Tryz.underlying9 (fun j hj => ?_)
    have e : (⟨b, 0, none⟩ : Addr).add j = ⟨b, j, none⟩ := by unfold Addr.add; split <;> simp_all
    rw [e, cell_of_row u b j cs 5 fz ((hu.block b h3).trans h4), h8 j hj]
    simp [List.getD, hj]
theorem ctx_pos {dt i : Int} {f g : Nat} {l : List UInt8} (hv : vcell dt i f g = true) (h : CTx dt i f g l) : 0 < l.length := by
  have hit : ∀ z : Int, 0 < (Lib.itoa z).length := by
    intro z
    unfold Lib.itoa
    split
    · simp
    · rw [Lib.decDigits_length]
      by_cases hz : z.toNat < 10
      · have := congrArg List.length (Lib.decDigits_one hz)
        rw [Lib.decDigits_length] at this
        simp at this
        omega
      · have e := Lib.decDigits_length z.toNat
        rw [Lib.decDigits, dif_neg hz, List.length_append] at e
        simp at e
        omega
  have hft : ∀ x l, FTx x l → 0 < l.length := by
    intro x l h
    rcases h with ⟨_, rfl⟩ | ⟨_, rfl⟩ | ⟨_, rfl⟩ | ⟨_, rfl⟩ | ⟨_, rfl⟩ | ⟨o, t, ho, hV, rfl⟩ | ⟨o, t, ho, hV, rfl⟩
    · decide
    · decide
    · decide
    · decide
    · decide
    · simp; omega
    · simp
  rcases h with ⟨h, _⟩ | ⟨_, ⟨hk, rfl⟩ | ⟨hk, h⟩ | ⟨hk, l1, l2, h1, h2, rfl⟩⟩
  · rw [hv] at h; cases h
  · exact hit i
  · exact hft _ _ h
  · simp; omega
end Go.Proofs.YtpmdgmnpkdoamabGreatDoor.Vc
