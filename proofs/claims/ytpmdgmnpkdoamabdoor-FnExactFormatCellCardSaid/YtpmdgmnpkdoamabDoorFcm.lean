/- Proved here: what the law's marking and reading of bytes answers. Conditions: the slices' cells are readable and no more than a thousand. -/
import Derived.Test.YtpmdgmnpkdoamabDoorFcl
import Derived.WalkLawsBesides
import Derived.Lib.BufferMore
namespace Go.Proofs.YtpmdgmnpkdoamabDoor.Vc
open Go.RowKit Fl Prom Go.Proofs.YtpmdgmnpkdoamabDoorW.PrintWords
set_option linter.unusedVariables false
set_option linter.unusedSimpArgs false
/-- The bytes of a slice, read. -/
def RD (w : World) (A : Option Addr) (n : Nat) (r : Nat → Int) : Prop := n = 0 ∨ ∃ b, A = some ⟨b, 0, none⟩ ∧ ∀ j : Nat, j < n → w.cell? ⟨b, j, none⟩ = some (.int .u8 (r j))
theorem rd_at {w : World} {A : Option Addr} {n : Nat} {r : Nat → Int} (h : RD w A n r) {j : Nat} (hj : j < n) : ∃ b, A = some ⟨b, 0, none⟩ ∧ w.cell? ⟨b, j, none⟩ = some (.int .u8 (r j)) := by
  rcases h with h | ⟨b, h1, h2⟩
  · omega
  · exact ⟨b, h1, h2 j hj⟩
set_option maxRecDepth 20000 in
set_option maxHeartbeats 4000000 in
theorem eq_bytes (A A' : Option Addr) (c c' n : Nat) (r : Nat → Int) (hn : n ≤ 1000) (w : World) (h : RD w A n r) (h' : RD w A' n r) : Calls Tryd.prog 42 #[.slice A n c, .slice A' n c'] w fun e w' => e = .returned (.bool true) ∧ Below w.heap.size w w' := by
  have H1 := Lib.hid h
  have H2 := Lib.hid h'
  have HN := Lib.hid hn
  clear h h' hn
  go_enter Tryd.func42, Tryd.ntmps42
  go_wp2
  repeat (go_quiet (fail); try go_wp2)
  go_loopg [5] n (fun kq v5 wr => ∃ j : Nat, v5 = .int .i64 (j : Int) ∧ Aside0 (j ≤ n ∧ kq = n - j) ∧ Drawn0 w wr)
  case atStart => exact ⟨0, rfl, ⟨by omega, by omega⟩, by repeat (first | exact Drawn0.refl _ | apply Drawn0.step)⟩
  case round =>
    obtain ⟨j, rfl, hj, ⟨m, rfl⟩⟩ := hrel
    rcases Nat.lt_or_ge j n with hlt | hge
    · have c1 : decide ((j : Int) < (n : Int)) = true := decide_eq_true (by omega)
      obtain ⟨b, rfl, hx⟩ := rd_at H1.out hlt
      obtain ⟨b', rfl, hx'⟩ := rd_at H2.out hlt
      have q0 : (0 : Int) ≤ (j : Int) := by omega
      have q1 : (j : Int) < (n : Int) := by omega
      have HL := Lib.hid hlt
      clear hlt
      go_wp2
      repeat (go_quiet (fail); try go_wp2)
      go_roundg (n - (j + 1))
      case measure => (have := hj.out; have := HL.out; omega)
      case rel => exact ⟨j + 1, by (have := hj.out; have := HN.out; congr 1; unfold wrap64; omega), ⟨by have := HL.out; omega, rfl⟩, by repeat (first | exact Drawn0.refl _ | apply Drawn0.step)⟩
    · have hjn : j = n := by have := hj.out; omega
      subst hjn
      clear hge
      go_wp2
      go_ret
      refine ⟨rfl, ?_⟩
      repeat (first | exact Below.refl _ _ | apply below_drewN | apply Below.drew)
set_option maxRecDepth 20000 in
set_option maxHeartbeats 4000000 in
theorem held_bytes (A : Option Addr) (c n : Nat) (hn : n ≤ 1000) (w : World) (h : RD w A n (fun j => (1 + (j : Int)) % 256)) : Calls Tryd.prog 44 #[.slice A n c, .int .i64 1] w fun e w' => e = .returned (.int .i64 (1 + (n : Int))) ∧ Below w.heap.size w w' := by
  have H1 := Lib.hid h
  have HN := Lib.hid hn
  clear h hn
  go_enter Tryd.func44, Tryd.ntmps44
  go_wp2
  go_loopg [1, 5] n (fun kq v1 v5 wr => ∃ j : Nat, v1 = .int .i64 (1 + (j : Int)) ∧ v5 = .int .i64 (j : Int) ∧ Aside0 (j ≤ n ∧ kq = n - j) ∧ Drawn0 w wr)
  case atStart => exact ⟨0, rfl, rfl, ⟨by omega, by omega⟩, by repeat (first | exact Drawn0.refl _ | apply Drawn0.step)⟩
  case round =>
    obtain ⟨j, rfl, rfl, hj, ⟨m, rfl⟩⟩ := hrel
    rcases Nat.lt_or_ge j n with hlt | hge
    · have c1 : decide ((j : Int) < (n : Int)) = true := decide_eq_true (by omega)
      obtain ⟨b, rfl, hx⟩ := rd_at H1.out hlt
      have q0 : (0 : Int) ≤ (j : Int) := by omega
      have q1 : (j : Int) < (n : Int) := by omega
      have HL := Lib.hid hlt
      clear hlt
      go_wp2
      go_roundg (n - (j + 1))
      case measure => (have := hj.out; have := HL.out; omega)
      case rel => exact ⟨j + 1, by (have := hj.out; have := HN.out; congr 1; unfold wrap64; omega), by (have := hj.out; have := HN.out; congr 1; unfold wrap64; omega), ⟨by have := HL.out; omega, rfl⟩, by repeat (first | exact Drawn0.refl _ | apply Drawn0.step)⟩
    · have hjn : j = n := by have := hj.out; omega
      subst hjn
      clear hge
      go_wp2
      go_ret
      refine ⟨rfl, ?_⟩
      repeat (first | exact Below.refl _ _ | apply below_drewN | apply Below.drew)
/-- The bytes of a slice's own block. -/
def MK (B : Nat) (w : World) (A : Option Addr) (n : Nat) (r : Nat → Int) : Prop := n = 0 ∨ ∃ b cs fz, A = some ⟨b, 0, none⟩ ∧ B ≤ b ∧ w.heap[b]? = some (.cells cs 5 fz) ∧ n ≤ fz.1 ∧ ∀ j : Nat, j < n → cs[j]? = some (.int .u8 (r j))
theorem mk_rd {B : Nat} {w : World} {A : Option Addr} {n : Nat} {r : Nat → Int} (h : MK B w A n r) : RD w A n r := by
  rcases h with h | ⟨b, cs, fz, h1, h2, h3, h4, h5⟩
  · exact .inl h
  · exact .inr ⟨b, h1, fun j hj => (cell_of_row w b j cs 5 fz h3).trans (h5 j hj)⟩
theorem mk_below {B : Nat} {w w' : World} {A : Option Addr} {n : Nat} {r : Nat → Int} (h : MK B w A n r) (hb : Below w.heap.size w w') : MK B w' A n r := by
  rcases h with h | ⟨b, cs, fz, h1, h2, h3, h4⟩
  · exact .inl h
  · exact .inr ⟨b, cs, fz, h1, h2, (hb.block b (Array.getElem?_eq_some_iff.1 h3).1).trans h3, h4⟩
theorem mk_of {base : Nat} {w : World} {v : Value} {l : List UInt8} (h : BV base w v l) : ∃ A c, v = .slice A l.length c ∧ MK base w A l.length (fun j => ((l.getD j 0).toNat : Int)) := by
  rcases h with ⟨rfl, rfl | ⟨b, rfl⟩⟩ | ⟨b, c, cs, fz, rfl, h2, h3, h4, h5, h6, h7, h8⟩
  · exact ⟨_, _, rfl, .inl rfl⟩
  · exact ⟨_, _, rfl, .inl rfl⟩
  · exact ⟨_, _, rfl, .inr ⟨b, cs, fz, rfl, h2, h4, h5, h8⟩⟩
theorem mk_frozen {w : World} {b j : Nat} {cs : Array Value} {fz : Nat × Nat} (h : w.heap[b]? = some (.cells cs 5 fz)) (hj : j < fz.1) : w.frozen? ⟨b, j, none⟩ = false := by
  unfold World.frozen?
  simp only [h]
  simp
  omega
theorem mk_set {B : Nat} {w : World} {b j n : Nat} {cs : Array Value} {fz : Nat × Nat} {r : Nat → Int} (hB : B ≤ b) (h : w.heap[b]? = some (.cells cs 5 fz)) (hf : n ≤ fz.1) (hr : ∀ t : Nat, t < n → cs[t]? = some (.int .u8 (if t < j then (1 + (t : Int)) % 256 else r t))) (hj : j < n) :
    MK B (w.setCell ⟨b, j, none⟩ (.int .u8 ((1 + (j : Int)) % 256))) (some ⟨b, 0, none⟩) n (fun t => if t < j + 1 then (1 + (t : Int)) % 256 else r t) := by
  refine .inr ⟨b, _, fz, rfl, hB, Lib.heap_setCell_same h _, hf, fun t ht => ?_⟩
  have hjs : j < cs.size := by
    have := hr j hj
    exact (Array.getElem?_eq_some_iff.1 this).1
  dsimp only
  rcases Nat.lt_trichotomy t j with h1 | h1 | h1
  · have := hr t ht
    rw [if_pos h1] at this
    rw [if_pos (by omega)]
    simp [Array.getElem?_set, show ¬ j = t by omega, this]
  · subst h1
    rw [if_pos (by omega)]
    simp [hjs]
  · have := hr t ht
    rw [if_neg (by omega)] at this
    rw [if_neg (by omega)]
    simp [Array.getElem?_set, show ¬ j = t by omega, this]
set_option maxRecDepth 20000 in
set_option maxHeartbeats 4000000 in
theorem mark_bytes (B : Nat) (A : Option Addr) (c n : Nat) (r : Nat → Int) (hn : n ≤ 1000) (w : World) (hB : B ≤ w.heap.size) (h : MK B w A n r) :
    Calls Tryd.prog 43 #[.slice A n c, .int .i64 1] w fun e w' => e = .returned (.int .i64 (1 + (n : Int))) ∧ MK B w' A n (fun j => (1 + (j : Int)) % 256) ∧ Below B w w' := by
  have H0 : Hid (MK B w A n (fun t => if t < 0 then (1 + (t : Int)) % 256 else r t)) := Lib.hid h
  have HN := Lib.hid hn
  have HB := Lib.hid hB
  clear h hn hB
  go_enter Tryd.func43, Tryd.ntmps43
  go_wp2
  go_loopg [1, 5] n (fun kq v1 v5 wr => ∃ j : Nat, v1 = .int .i64 (1 + (j : Int)) ∧ v5 = .int .i64 (j : Int) ∧ Aside0 (j ≤ n ∧ kq = n - j) ∧ Aside0 (MK B wr A n (fun t => if t < j then (1 + (t : Int)) % 256 else r t)) ∧ Aside0 (Below B w wr))
  case atStart => exact ⟨0, rfl, rfl, ⟨by omega, by omega⟩, ⟨H0.out⟩, ⟨⟨rfl, rfl, rfl, Nat.le_refl _, fun _ _ => rfl⟩⟩⟩
  case round =>
    clear H0
    obtain ⟨j, rfl, rfl, hj, hM, hBel⟩ := hrel
    rcases Nat.lt_or_ge j n with hlt | hge
    · have c1 : decide ((j : Int) < (n : Int)) = true := decide_eq_true (by omega)
      obtain ⟨b, cs, fz, rfl, hBb, hh, hfz, hr⟩ : ∃ b cs fz, A = some ⟨b, 0, none⟩ ∧ B ≤ b ∧ wr.heap[b]? = some (.cells cs 5 fz) ∧ n ≤ fz.1 ∧ ∀ t : Nat, t < n → cs[t]? = some (.int .u8 (if t < j then (1 + (t : Int)) % 256 else r t)) := by
        rcases hM.out with h | h
        · omega
        · exact h
      have hx : wr.cell? ⟨b, j, none⟩ = some (.int .u8 (r j)) := (cell_of_row wr b j cs 5 fz hh).trans ((hr j hlt).trans (by rw [if_neg (by omega)]))
      have hf := mk_frozen hh (show j < fz.1 by omega)
      have HS := Lib.hid (mk_set hBb hh hfz hr hlt)
      have HBb := Lib.hid hBb
      have q0 : (0 : Int) ≤ (j : Int) := by omega
      have q1 : (j : Int) < (n : Int) := by omega
      have HL := Lib.hid hlt
      clear hlt hr hh hBb hfz hM
      go_wp2
      go_roundg (n - (j + 1))
      case measure => (have := hj.out; have := HL.out; omega)
      case rel => exact ⟨j + 1, by (have := hj.out; have := HN.out; congr 1; unfold wrap64; omega), by (have := hj.out; have := HN.out; congr 1; unfold wrap64; omega), ⟨by have := HL.out; omega, rfl⟩, ⟨HS.out⟩, ⟨hBel.out.setCell (p := ⟨b, j, none⟩) HBb.out _⟩⟩
    · have hjn : j = n := by have := hj.out; omega
      subst hjn
      clear hge
      go_wp2
      go_ret
      refine ⟨rfl, ?_, hBel.out⟩
      rcases hM.out with h | ⟨b, cs, fz, h1, h2, h3, h4, h5⟩
      · exact .inl h
      · exact .inr ⟨b, cs, fz, h1, h2, h3, h4, fun t ht => (h5 t ht).trans (by dsimp only; rw [if_pos ht])⟩
end Go.Proofs.YtpmdgmnpkdoamabDoor.Vc
