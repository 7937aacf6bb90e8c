/- Proved here: what impl.FormatCell answers of every cell: the bytes of its text. Conditions: the words are of their kind; the tables hold what the program lays. -/
import Derived.Test.YtpmdgmnpkdoamabGreatDoorCtFcl
namespace Go.Proofs.YtpmdgmnpkdoamabGreatDoor.Vc
open Go.RowKit Fl Prom Go.Proofs.YtpmdgmnpkdoamabGreatDoorW.PrintWords
set_option linter.unusedVariables false
set_option linter.unusedSimpArgs false
/-- The text of a cell. -/
def CTx (dt i : Int) (f g : Nat) (l : List UInt8) : Prop :=
  (vcell dt i f g = false ∧ l = []) ∨ (vcell dt i f g = true ∧ ((kindI dt < 2 ∧ l = Lib.itoa i) ∨ (kindI dt = 2 ∧ FTx f l) ∨ (kindI dt = 3 ∧ ∃ l1 l2, FTx f l1 ∧ FTx g l2 ∧ l = l1 ++ 44 :: l2)))
theorem vcell_dt {dt i : Int} {f g : Nat} (h : vcell dt i f g = true) : 1 ≤ dt ∧ dt ≤ 9 := by
  unfold vcell at h
  by_cases hd : isdt dt = true
  · unfold isdt at hd
    simp at hd
    exact hd
  · rw [if_neg hd] at h
    cases h
theorem vcell_i64 {dt i : Int} {f g : Nat} (h : vcell dt i f g = true) (hk : kindI dt < 2) : -9223372036854775808 ≤ i ∧ i ≤ 9223372036854775807 := by
  have hd := vcell_dt h
  rw [vcell_int (by unfold isdt; simp; omega) hk] at h
  simp only [Bool.and_eq_true, decide_eq_true_eq] at h
  obtain ⟨⟨⟨h1, h2⟩, _⟩, _⟩ := h
  unfold lowI at h1
  unfold highI at h2
  constructor
  · split at h1 <;> (try split at h1) <;> (try split at h1) <;> (try split at h1) <;> (try split at h1) <;> omega
  · split at h2 <;> (try split at h2) <;> (try split at h2) <;> (try split at h2) <;> (try split at h2) <;> omega
theorem kind3 {dt : Int} (h : 1 ≤ dt ∧ dt ≤ 9) (hk : kindI dt = 3) : dt = 9 := by
  unfold kindI at hk
  split at hk
  · omega
  · split at hk
    · omega
    · split at hk <;> omega
theorem kinds (dt : Int) : kindI dt < 2 ∨ kindI dt = 2 ∨ kindI dt = 3 := by
  unfold kindI
  split
  · omega
  · split
    · omega
    · split <;> omega
theorem ctx_ex (dt i : Int) (f g : Nat) (hf : f < 18446744073709551616) (hg : g < 18446744073709551616) : ∃ l, CTx dt i f g l := by
  cases hv : vcell dt i f g with
  | false => exact ⟨_, .inl ⟨hv, rfl⟩⟩
  | true =>
    obtain ⟨l1, h1⟩ := ftx_ex f hf
    obtain ⟨l2, h2⟩ := ftx_ex g hg
    rcases kinds dt with hk | hk | hk
    · exact ⟨_, .inr ⟨hv, .inl ⟨hk, rfl⟩⟩⟩
    · exact ⟨_, .inr ⟨hv, .inr (.inl ⟨hk, h1⟩)⟩⟩
    · exact ⟨_, .inr ⟨hv, .inr (.inr ⟨hk, l1, l2, h1, h2, rfl⟩)⟩⟩
theorem ctx_len {dt i : Int} {f g : Nat} {l : List UInt8} (h : CTx dt i f g l) : l.length ≤ 1000 := by
  rcases h with ⟨_, rfl⟩ | ⟨hv, ⟨hk, rfl⟩ | ⟨_, h⟩ | ⟨_, l1, l2, h1, h2, rfl⟩⟩
  · simp
  · have := vcell_i64 hv hk
    have := Lib.itoa_length_le i this.1 this.2
    omega
  · have := ftx_len h
    omega
  · have := ftx_len h1
    have := ftx_len h2
    simp
    omega
theorem impl_fmt {dt i : Int} {f g : Nat} {l : List UInt8} (hf : f < 18446744073709551616) (hg : g < 18446744073709551616) (h : CTx dt i f g l) (w : World) (hT : Table.Holds w) (hP : Tab w) : Calls Tryz.prog 23 #[.int .i64 dt, .agg #[.int .i64 i, .float .f64 f, .float .f64 g]] w (BVR l w) := by
  by_cases hv : vcell dt i f g = false
  · rcases h with ⟨_, rfl⟩ | ⟨h, _⟩
    · exact impl_fmt_no dt i f g hf hg hv w hT hP
    · rw [hv] at h; cases h
  · have hd := vcell_dt (by simpa using hv : vcell dt i f g = true)
    obtain ⟨n, rfl⟩ : ∃ n : Nat, dt = (n : Int) + 1 := ⟨(dt - 1).toNat, by omega⟩
    rcases h with ⟨h, _⟩ | ⟨hv, ⟨hk, rfl⟩ | ⟨hk, h⟩ | ⟨hk, l1, l2, h1, h2, rfl⟩⟩
    · exact absurd h hv
    · have := vcell_i64 hv hk
      exact impl_fmt_int i f g n (by omega) hf hg hv hk this.1 this.2 w hT hP
    · exact impl_fmt_fl i f g n (by omega) hf hg hv hk l (impl_float hf h) w hT hP
    · exact impl_fmt_cx i f g n (by omega) hf hg hv hk l1 l2 (impl_float hf h1) (impl_float hg h2) (by have := ftx_len h1; omega) (by have := ftx_len h2; omega) w hT hP
end Go.Proofs.YtpmdgmnpkdoamabGreatDoor.Vc
