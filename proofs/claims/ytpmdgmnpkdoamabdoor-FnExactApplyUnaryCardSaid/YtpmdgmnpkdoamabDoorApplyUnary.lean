/- Proved here: at all arguments the law on ApplyUnary answers true. Conditions: the words are of their kind; the table of dtypes holds what the program lays. -/
import Derived.Test.YtpmdgmnpkdoamabDoorLawUn
namespace Go.Proofs.YtpmdgmnpkdoamabDoor.Vc
open Go.RowKit Fl Prom
theorem impl_unary_any (op : Int) (h : 1 ≤ op ∧ op ≤ 4) (n : Nat) (hn : n < 9) (i : Int) (f g : Nat) (hf : f < 18446744073709551616) (hg : g < 18446744073709551616) (w : World) (hT : Table.Holds w) :
    Calls Tryd.prog 84 #[.int .i64 op, .int .i64 ((n : Int) + 1), .agg #[.int .i64 i, .float .f64 f, .float .f64 g]] w (UnP op (kindI ((n : Int) + 1)) ((n : Int) + 1) i f g w) := by
  obtain rfl | rfl | rfl | rfl : op = 1 ∨ op = 2 ∨ op = 3 ∨ op = 4 := by omega
  · exact impl_unary1 n hn i f g hf hg w hT
  · exact impl_unary2 n hn i f g hf hg w hT
  · exact impl_unary3 n hn i f g hf hg w hT
  · exact impl_unary4 n hn i f g hf hg w hT
theorem good_case (op : Int) (h : 1 ≤ op ∧ op ≤ 4) (a i : Int) (f g : Nat) (hf : f < 18446744073709551616) (hg : g < 18446744073709551616) (h1 : isdt a = true) (h2 : hasU op a = true) (hv : vcell a i f g = true)
    (R : Int) (rf rg : Nat) (hrf : rf < 18446744073709551616) (hrg : rg < 18446744073709551616) (hR : unI op (kindI a) a i f g = (R, rf, rg)) (w : World) (hT : Table.Holds w)
    (hS : ∀ w, Calls Tryd.prog 27 #[.int .i64 op, .int .i64 a, .agg #[.int .i64 i, .float .f64 f, .float .f64 g]] w (SpW 0 a R rf rg w)) :
    Calls Tryd.prog 7 #[.int .i64 op, .int .i64 a, .agg #[.int .i64 i, .float .f64 f, .float .f64 g]] w fun e w' => e = .returned (.bool true) ∧ Below w.heap.size w w' := by
  obtain ⟨n, hn, rfl⟩ : ∃ n : Nat, n < 9 ∧ a = (n : Int) + 1 := ⟨(a - 1).toNat, by have := isdt_yes h1; omega, by have := isdt_yes h1; omega⟩
  refine law_unary op ((n : Int) + 1) i f g 0 ((n : Int) + 1) R rf rg hrf hrg w hT hS (fun w hT => impl_au_good op n i f g R rf rg hf hg h (by rw [h1, h2]; rfl) hv w hT (fun w hT => ?_))
  refine (impl_unary_any op h n hn i f g hf hg w hT).mono fun e w' hp => ?_
  unfold UnP at hp
  rw [hR] at hp
  exact hp
theorem low_range (a : Int) : -9223372036854775808 ≤ lowI a ∧ highI a ≤ 9223372036854775807 := by unfold lowI highI; constructor <;> grind
theorem ints_of {a : Int} (h1 : isdt a = true) (hk : kindI a = 1) : a = 2 ∨ a = 3 ∨ a = 4 ∨ a = 5 ∨ a = 6 := by
  have := isdt_yes h1
  unfold kindI at hk
  grind
theorem law_applyUnary (op a i : Int) (f g : Nat) (hf : f < 18446744073709551616) (hg : g < 18446744073709551616) (w : World) (hT : Table.Holds w) :
    Calls Tryd.prog 7 #[.int .i64 op, .int .i64 a, .agg #[.int .i64 i, .float .f64 f, .float .f64 g]] w fun e w' => e = .returned (.bool true) ∧ Below w.heap.size w w' := by
  have z : (0 : Nat) < 18446744073709551616 := by decide
  by_cases h : op < 1 ∨ op > 4
  · exact law_unary op a i f g 3 0 0 0 0 z z w hT (fun w => sp_of_ans z z (spec_au_bad op a i f g h w)) (fun w _ => impl_au_bad op a i f g h w)
  have h' : 1 ≤ op ∧ op ≤ 4 := by omega
  cases hs : (isdt a && hasU op a)
  · exact law_unary op a i f g 4 0 0 0 0 z z w hT (fun w => sp_of_ans z z (spec_au_unserved op a i f g h' hs w)) (fun w hT => impl_au_unserved op a i f g h' hs w hT)
  have h1 : isdt a = true := by
    cases e : isdt a
    · rw [e] at hs; cases hs
    · rfl
  have h2 : hasU op a = true := by rw [h1] at hs; simpa using hs
  cases hv : vcell a i f g
  · exact law_unary op a i f g 14 0 0 0 0 z z w hT (fun w => sp_of_ans z z (spec_au_invalid op a i f g hf hg h' h1 h2 hv w)) (fun w hT => impl_au_invalid op a i f g hf hg h' hs hv w hT)
  have kr := kind_range a
  have hv' := hv
  have fmod : f % negZero < 18446744073709551616 := Nat.lt_of_le_of_lt (Nat.mod_le _ _) hf
  by_cases k2 : kindI a < 2
  · rw [vcell_int h1 k2] at hv'
    simp only [Bool.and_eq_true, decide_eq_true_eq] at hv'
    obtain ⟨⟨⟨v1, v2⟩, rfl⟩, rfl⟩ := hv'
    have hi := low_range a
    rcases (by omega : kindI a = 0 ∨ kindI a = 1) with hk | hk
    · obtain rfl | rfl | rfl | rfl : op = 1 ∨ op = 2 ∨ op = 3 ∨ op = 4 := by omega
      · unfold hasU at h2; rw [hk] at h2; simp at h2
      · exact good_case 2 h' a i 0 0 z z h1 h2 hv (wrap64 (1 - i)) 0 0 z z (by unfold unI; rw [if_neg (by decide), if_pos rfl, if_pos hk]) w hT (fun w => spec_au_2_0 a i h1 h2 hk hv w)
      · unfold hasU at h2; rw [hk] at h2; simp at h2
      · exact good_case 4 h' a i 0 0 z z h1 h2 hv i 0 0 z z (by unfold unI; rw [if_neg (by decide), if_neg (by decide), if_neg (by decide), if_neg (by omega)]) w hT (fun w => spec_au_4_0 a i h1 h2 hk hv w)
    · have hc := ints_of h1 hk
      obtain rfl | rfl | rfl | rfl : op = 1 ∨ op = 2 ∨ op = 3 ∨ op = 4 := by omega
      · exact good_case 1 h' a i 0 0 z z h1 h2 hv (cutI a (wrap64 (-i))) 0 0 z z (by unfold unI; rw [if_pos rfl, if_pos hk]) w hT (fun w => spec_au_1_1 a i hc h1 h2 hk hv w)
      · refine good_case 2 h' a i 0 0 z z h1 h2 hv (cutI a (wrap64 (-1 - i))) 0 0 z z ?_ w hT (fun w => spec_au_2_1 a i hc h1 h2 hk hv w)
        unfold unI
        rw [if_neg (by decide), if_pos rfl, if_neg (by omega), compl64 i (by omega), show wrap64 (-1 - i) = -1 - i by unfold wrap64; omega]
      · by_cases hn : i < 0
        · exact good_case 3 h' a i 0 0 z z h1 h2 hv (cutI a (wrap64 (-i))) 0 0 z z (by unfold unI; rw [if_neg (by decide), if_neg (by decide), if_pos rfl, if_neg (by omega), if_pos hn]) w hT (fun w => spec_au_3_1n a i hc hn h1 h2 hk hv w)
        · exact good_case 3 h' a i 0 0 z z h1 h2 hv i 0 0 z z (by unfold unI; rw [if_neg (by decide), if_neg (by decide), if_pos rfl, if_neg (by omega), if_neg hn]) w hT (fun w => spec_au_3_1p a i hn h1 h2 hk hv w)
      · exact good_case 4 h' a i 0 0 z z h1 h2 hv i 0 0 z z (by unfold unI; rw [if_neg (by decide), if_neg (by decide), if_neg (by decide), if_neg (by omega)]) w hT (fun w => spec_au_4_1 a i h1 h2 hk hv w)
  · by_cases k3 : kindI a = 2
    · rw [vcell_float h1 k2 k3] at hv'
      simp only [Bool.and_eq_true, decide_eq_true_eq] at hv'
      obtain ⟨⟨rfl, rfl⟩, _⟩ := hv'
      obtain rfl | rfl | rfl | rfl : op = 1 ∨ op = 2 ∨ op = 3 ∨ op = 4 := by omega
      · exact good_case 1 h' a 0 f 0 hf z h1 h2 hv 0 (Fl.flip f) 0 (flip_lt hf) z (by unfold unI; rw [if_pos rfl, if_neg (by omega), if_pos k3]) w hT (fun w => spec_au_1_2 a f hf h1 h2 k3 hv w)
      · unfold hasU at h2; rw [k3] at h2; simp at h2
      · have e : unI 3 (kindI a) a 0 f 0 = (0, f % negZero, 0) := by unfold unI; rw [if_neg (by decide), if_neg (by decide), if_pos rfl, if_pos k3]
        cases hlt : flt f 0
        · cases heq : feq f 0
          · exact good_case 3 h' a 0 f 0 hf z h1 h2 hv 0 (f % negZero) 0 fmod z e w hT (fun w => spec_au_3_2p a f hf hlt heq h1 h2 k3 hv w)
          · exact good_case 3 h' a 0 f 0 hf z h1 h2 hv 0 (f % negZero) 0 fmod z e w hT (fun w => spec_au_3_2z a f hf hlt heq h1 h2 k3 hv w)
        · exact good_case 3 h' a 0 f 0 hf z h1 h2 hv 0 (f % negZero) 0 fmod z e w hT (fun w => spec_au_3_2n a f hf hlt h1 h2 k3 hv w)
      · exact good_case 4 h' a 0 f 0 hf z h1 h2 hv 0 f 0 hf z (by unfold unI; rw [if_neg (by decide), if_neg (by decide), if_neg (by decide), if_neg (by omega)]) w hT (fun w => spec_au_4_2 a f hf h1 h2 k3 hv w)
    · rw [vcell_cplx h1 k2 k3] at hv'
      obtain rfl := of_decide_eq_true hv'
      have k4 : kindI a = 3 := by omega
      obtain rfl | rfl | rfl | rfl : op = 1 ∨ op = 2 ∨ op = 3 ∨ op = 4 := by omega
      · exact good_case 1 h' a 0 f g hf hg h1 h2 hv 0 (Fl.flip f) (Fl.flip g) (flip_lt hf) (flip_lt hg) (by unfold unI; rw [if_pos rfl, if_neg (by omega), if_neg k3]) w hT (fun w => spec_au_1_3 a f hf g hg h1 h2 k4 hv w)
      · unfold hasU at h2; rw [k4] at h2; simp at h2
      · unfold hasU at h2; rw [k4] at h2; simp at h2
      · exact good_case 4 h' a 0 f g hf hg h1 h2 hv 0 f (Fl.flip g) hf (flip_lt hg) (by unfold unI; rw [if_neg (by decide), if_neg (by decide), if_neg (by decide), if_pos k4]) w hT (fun w => spec_au_4_3 a f hf g hg h1 h2 k4 hv w)
end Go.Proofs.YtpmdgmnpkdoamabDoor.Vc
