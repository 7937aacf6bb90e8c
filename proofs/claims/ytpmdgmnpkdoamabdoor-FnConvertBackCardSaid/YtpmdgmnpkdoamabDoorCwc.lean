/- Proved here: what impl.Convert answers of a valid cell and of one that is not, in one theorem each. Conditions: the words are of their kind; the table of dtypes holds what the program lays in it. -/
import Derived.Test.YtpmdgmnpkdoamabDoorCwb
namespace Go.Proofs.YtpmdgmnpkdoamabDoor.Vc
open Go.RowKit Fl Prom
set_option linter.unusedVariables false
set_option linter.unusedSimpArgs false
theorem convert_ok {a b : Int} (ha : isdt a = true) (hb : isdt b = true) (i : Int) (f g : Nat) (hf : f < 18446744073709551616) (hg : g < 18446744073709551616) (hv : vcell a i f g = true) (w : World) (hT : Table.Holds w) :
    Calls Tryd.prog 31 #[.int .i64 a, .int .i64 b, .agg #[.int .i64 i, .float .f64 f, .float .f64 g]] w fun e w' => ∃ j x y, (Cv a b i f g j x y ∧ x < 18446744073709551616 ∧ y < 18446744073709551616) ∧ CellR j x y w e w' := by
  obtain ⟨n, hn, rfl⟩ : ∃ n : Nat, n < 9 ∧ a = (n : Int) + 1 := ⟨(a - 1).toNat, by have := isdt_yes ha; omega, by have := isdt_yes ha; omega⟩
  obtain ⟨m, hm, rfl⟩ : ∃ m : Nat, m < 9 ∧ b = (m : Int) + 1 := ⟨(b - 1).toNat, by have := isdt_yes hb; omega, by have := isdt_yes hb; omega⟩
  by_cases h0 : n = m
  · exact convert_1 n m hn hm h0 i f g hf hg w hT hv
  by_cases h1 : m = 0
  · exact convert_2 n m hn hm h0 h1 i f g hf hg w hT hv
  by_cases h2 : kindI ((n : Int) + 1) ≤ 1 <;> by_cases h3 : kindI ((m : Int) + 1) = 1
  · exact convert_3 n m hn hm h0 h2 h1 h3 i f g hf hg w hT hv
  · by_cases h7 : (m : Int) + 1 = 7
    · exact convert_4 n m hn hm h0 h2 h1 h3 h7 i f g hf hg w hT hv
    · exact convert_5 n m hn hm h0 h2 h1 h3 h7 i f g hf hg w hT hv
  · exact convert_6 n m hn hm h0 h2 h1 h3 i f g hf hg w hT hv
  · by_cases h7 : (m : Int) + 1 = 7
    · exact convert_7 n m hn hm h0 h2 h1 h3 h7 i f g hf hg w hT hv
    · exact convert_8 n m hn hm h0 h2 h1 h3 h7 i f g hf hg w hT hv
theorem convert_zero {a b : Int} (hb : isdt b = true) (i : Int) (f g : Nat) (hf : f < 18446744073709551616) (hg : g < 18446744073709551616) (hv : vcell a i f g = false) (w : World) (hT : Table.Holds w) :
    Calls Tryd.prog 31 #[.int .i64 a, .int .i64 b, .agg #[.int .i64 i, .float .f64 f, .float .f64 g]] w (CellR 0 0 0 w) := by
  cases ha : isdt a
  · exact convert_no1 a b ha i f g hf hg w hT
  · exact convert_no3 a b ha hb i f g hf hg w hT hv
theorem vzero {a : Int} (ha : isdt a = true) : vcell a 0 0 0 = true := by
  have : a = 1 ∨ a = 2 ∨ a = 3 ∨ a = 4 ∨ a = 5 ∨ a = 6 ∨ a = 7 ∨ a = 8 ∨ a = 9 := by have := isdt_yes ha; omega
  rcases this with rfl | rfl | rfl | rfl | rfl | rfl | rfl | rfl | rfl <;> decide
theorem canc_below (a b : Int) (w : World) (hT : Table.Holds w) : Calls Tryd.prog 16 #[.int .i64 a, .int .i64 b, .int .i64 0] w fun e w' => e = .returned (.bool (canc a b 0)) ∧ Below w.heap.size w w' := by
  refine (impl_canc a b 0 w (kinds_of hT)).mono ?_
  rintro e w' ⟨rfl, n, rfl⟩
  exact ⟨rfl, below_drewN (Below.refl _ _) n⟩
theorem canc_prom {a b : Int} (ha : isdt a = true) (hb : isdt b = true) (h : canc a b 0 = true) : prom a b = b := by
  rw [canc_yes ha hb, if_pos rfl] at h
  simpa using h
theorem no_dt {a i : Int} {f g : Nat} (h : vcell a i f g = true) : isdt a = true := by
  cases ha : isdt a
  · rw [vcell_no ha] at h; cases h
  · rfl
end Go.Proofs.YtpmdgmnpkdoamabDoor.Vc
