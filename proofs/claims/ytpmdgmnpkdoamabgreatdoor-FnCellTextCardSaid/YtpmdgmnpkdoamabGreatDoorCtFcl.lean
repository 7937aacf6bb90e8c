/- Proved here: what impl.FormatCell answers: the bytes of a cell's text. Conditions: the words are of their kind; the tables hold what the program lays. -/
import Derived.Test.YtpmdgmnpkdoamabGreatDoorCtFck
import Derived.Laws.IdiomStrings
namespace Go.Proofs.YtpmdgmnpkdoamabGreatDoor.Vc
open Go.RowKit Fl Prom Go.Proofs.YtpmdgmnpkdoamabGreatDoorW.PrintWords
set_option linter.unusedVariables false
set_option linter.unusedSimpArgs false
/-- A slice of bytes that a call has made: it holds l. -/
def BV (base : Nat) (w : World) (v : Value) (l : List UInt8) : Prop :=
  (l = [] ∧ (v = .slice none 0 0 ∨ ∃ b, v = .slice (some ⟨b, 0, none⟩) 0 0)) ∨
  ∃ b c cs fz, v = .slice (some ⟨b, 0, none⟩) l.length c ∧ base ≤ b ∧ b < w.heap.size ∧ w.heap[b]? = some (.cells cs 5 fz) ∧ l.length ≤ fz.1 ∧ l.length ≤ c ∧ l.length ≤ cs.size ∧ ∀ j, j < l.length → cs[j]? = some (.int .u8 (l.getD j 0).toNat)
def BVR (l : List UInt8) (w : World) (e : Ending) (w' : World) : Prop := ∃ v, e = .returned v ∧ BV w.heap.size w' v l ∧ Below w.heap.size w w'
theorem bv_lower {base base' : Nat} {w : World} {v : Value} {l : List UInt8} (h : BV base w v l) (hb : base' ≤ base) : BV base' w v l := by
  rcases h with h | ⟨b, c, cs, fz, h1, h2, h3⟩
  · exact .inl h
  · exact .inr ⟨b, c, cs, fz, h1, by omega, h3⟩
theorem bv_below {base : Nat} {w w' : World} {v : Value} {l : List UInt8} (h : BV base w v l) (hb : Below w.heap.size w w') : BV base w' v l := by
  rcases h with h | ⟨b, c, cs, fz, h1, h2, h3, h4, h5⟩
  · exact .inl h
  · exact .inr ⟨b, c, cs, fz, h1, h2, by have := hb.size; omega, (hb.block b h3).trans h4, h5⟩
theorem bv_conv (u : World) (l : List UInt8) (base : Nat) (hb : base ≤ u.heap.size) : BV base (Lib.bytesWorld u 5 ⟨l.toArray⟩) (.slice (some ⟨u.heap.size, 0, none⟩) l.length (grownCap u l.length 0 5)) l := by
  refine .inr ⟨u.heap.size, _, _, _, rfl, hb, by rw [Lib.bytesWorld_size]; omega, Lib.bytesWorld_at_new u 5 ⟨l.toArray⟩, ?_, grownCap_ge u l.length 0 5, ?_, ?_⟩
  · simp [Lib.bytesCells, ByteArray.size]
  · simp [Lib.bytesCells, ByteArray.size]
  · intro j hj
    have h1 := Lib.bytesWorld_cell u 5 ⟨l.toArray⟩ j (by simpa [ByteArray.size] using hj)
    have h2 := cell_of_row _ u.heap.size j _ _ _ (Lib.bytesWorld_at_new u 5 ⟨l.toArray⟩)
    rw [← h2, h1]
def bconv (l : List UInt8) : Prop := ∀ u, (convert 9 52 (SB l)).run Tryz.prog u = .ok (.slice (some ⟨u.heap.size, 0, none⟩) l.length (grownCap u l.length 0 5)) (Lib.bytesWorld u 5 ⟨l.toArray⟩)
theorem bconv_run (l : List UInt8) : bconv l := fun u => by
  have := Lib.run_convert_string_bytes (P := Tryz.prog) u 9 52 5 ⟨l.toArray⟩ Tryz.underlying9 Tryz.underlying52 Tryz.underlying5
  have e : (⟨l.toArray⟩ : ByteArray).size = l.length := by simp [ByteArray.size]
  rw [e] at this
  exact this
theorem bytes_below {B : Nat} {w W : World} (h : Below B w W) (hB : B ≤ W.heap.size) (s : ByteArray) : Below B w (Lib.bytesWorld W 5 s) :=
  h.trans ⟨rfl, rfl, rfl, by rw [Lib.bytesWorld_size]; omega, fun i hi => Lib.bytesWorld_at_old W 5 s i (by omega)⟩
set_option maxRecDepth 20000 in
set_option maxHeartbeats 4000000 in
theorem impl_fmt_no (dt i : Int) (f g : Nat) (hf : f < 18446744073709551616) (hg : g < 18446744073709551616) (hv : vcell dt i f g = false) (w : World) (hT : Table.Holds w) (hP : Tab w) : Calls Tryz.prog 23 #[.int .i64 dt, .agg #[.int .i64 i, .float .f64 f, .float .f64 g]] w (BVR ([]) w) := by
  unfold BVR
  have h0 : 0 < w.heap.size := World.block_lt_of_cell? w _ (hT 0 0 (by omega) (by omega))
  have HT := Lib.hid hT
  have HP := Lib.hid hP
  have V := Lib.hid (fun u hu => impl_vcell dt i f g hf hg u hu)
  rw [hv] at V
  clear hf hg hv hT hP
  go_enter Tryz.func23, Tryz.ntmps23
  go_wp2_with fail
  refine (V.out _ (Table.holds_below HT.out (by repeat (first | exact Below.refl _ _ | (refine Below.alloc ?_ (by simp) _))) h0)).mono ?_
  rintro e w1 ⟨rfl, hb1⟩
  have z1 : w.heap.size < w1.heap.size := (by have q := hb1.size; (try simp at q); omega)
  have c01 : w1.cell? ⟨w.heap.size, 0, none⟩ = some (.int .i64 i) := (hb1.cell (p := ⟨w.heap.size, 0, none⟩) (by first | omega | (simp; done) | (simp; omega))).trans (by first | assumption | (simp; done) | (simp; assumption))
  have c11 : w1.cell? ⟨w.heap.size, 1, none⟩ = some (.float .f64 f) := (hb1.cell (p := ⟨w.heap.size, 1, none⟩) (by first | omega | (simp; done) | (simp; omega))).trans (by first | assumption | (simp; done) | (simp; assumption))
  have c21 : w1.cell? ⟨w.heap.size, 2, none⟩ = some (.float .f64 g) := (hb1.cell (p := ⟨w.heap.size, 2, none⟩) (by first | omega | (simp; done) | (simp; omega))).trans (by first | assumption | (simp; done) | (simp; assumption))
  have B1 : Hid (Below w.heap.size w w1) := Lib.hid (Below.trans (by repeat (first | exact Below.refl _ _ | (with_reducible apply below_drewN) | (with_reducible apply Below.drew) | ((with_reducible refine Below.setCell ?_ ?hs _); (case hs => first | omega | (simp; try omega))) | ((with_reducible refine Below.alloc ?_ ?ha _); (case ha => first | omega | (simp; try omega))))) (hb1.mono (by first | omega | (simp; done) | (simp; omega))))
  clear hb1
  go_wp2
  go_ret
  refine ⟨_, rfl, .inl ⟨rfl, .inl rfl⟩, ?_⟩
  repeat (first | (with_reducible exact B1.out) | (with_reducible apply below_drewN) | (with_reducible apply Below.drew) | ((with_reducible refine Below.alloc ?_ ?ha _); (case ha => first | omega | (simp; try omega))))
set_option maxRecDepth 20000 in
set_option maxHeartbeats 4000000 in
theorem impl_fmt_int (i : Int) (f g : Nat) (n : Nat) (hn : n < 9) (hf : f < 18446744073709551616) (hg : g < 18446744073709551616) (hv : vcell ((n : Int) + 1) i f g = true) (hk : kindI ((n : Int) + 1) < 2) (i0 : -9223372036854775808 ≤ i) (i1 : i ≤ 9223372036854775807) (w : World) (hT : Table.Holds w) (hP : Tab w) : Calls Tryz.prog 23 #[.int .i64 ((n : Int) + 1), .agg #[.int .i64 i, .float .f64 f, .float .f64 g]] w (BVR (Lib.itoa i) w) := by
  unfold BVR
  have h0 : 0 < w.heap.size := World.block_lt_of_cell? w _ (hT 0 0 (by omega) (by omega))
  have HT := Lib.hid hT
  have HP := Lib.hid hP
  have V := Lib.hid (fun u hu => impl_vcell ((n : Int) + 1) i f g hf hg u hu)
  rw [hv] at V
  have D := Lib.hid (fun u hu => fmtint_run i i0 i1 u hu)
  obtain ⟨l, hl⟩ : ∃ l, l = Lib.itoa i := ⟨_, rfl⟩
  rw [← hl] at D ⊢
  have hc : ∀ u, _ := bconv_run l
  obtain ⟨kd, hkd⟩ : ∃ kd, kindI ((n : Int) + 1) = kd := ⟨_, rfl⟩
  rw [hkd] at hk
  have KA := Lib.hid hkd
  have k2 : (kd == 2) = false := by simp; omega
  have k3 : (kd == 3) = false := by simp; omega
  have hns : ((n : Int) + 1).toNat = n + 1 := by omega
  have hlt : (n : Int) + 1 < 10 := by omega
  clear i0 i1 hl hkd hk
  clear hf hg hv hT hP
  go_enter Tryz.func23, Tryz.ntmps23
  go_wp2_with fail
  refine (V.out _ (Table.holds_below HT.out (by repeat (first | exact Below.refl _ _ | (refine Below.alloc ?_ (by simp) _))) h0)).mono ?_
  rintro e w1 ⟨rfl, hb1⟩
  have z1 : w.heap.size < w1.heap.size := (by have q := hb1.size; (try simp at q); omega)
  have c01 : w1.cell? ⟨w.heap.size, 0, none⟩ = some (.int .i64 i) := (hb1.cell (p := ⟨w.heap.size, 0, none⟩) (by first | omega | (simp; done) | (simp; omega))).trans (by first | assumption | (simp; done) | (simp; assumption))
  have c11 : w1.cell? ⟨w.heap.size, 1, none⟩ = some (.float .f64 f) := (hb1.cell (p := ⟨w.heap.size, 1, none⟩) (by first | omega | (simp; done) | (simp; omega))).trans (by first | assumption | (simp; done) | (simp; assumption))
  have c21 : w1.cell? ⟨w.heap.size, 2, none⟩ = some (.float .f64 g) := (hb1.cell (p := ⟨w.heap.size, 2, none⟩) (by first | omega | (simp; done) | (simp; omega))).trans (by first | assumption | (simp; done) | (simp; assumption))
  have B1 : Hid (Below w.heap.size w w1) := Lib.hid (Below.trans (by repeat (first | exact Below.refl _ _ | (with_reducible apply below_drewN) | (with_reducible apply Below.drew) | ((with_reducible refine Below.setCell ?_ ?hs _); (case hs => first | omega | (simp; try omega))) | ((with_reducible refine Below.alloc ?_ ?ha _); (case ha => first | omega | (simp; try omega))))) (hb1.mono (by first | omega | (simp; done) | (simp; omega))))
  clear hb1
  have r0 : w1.cell? ⟨0, (n + 1) * 5, none⟩ = some (.int .i64 kd) := (row_of (Table.holds_below HT.out B1.out h0) n hn).1.trans (by rw [KA.out])
  go_wp2_with fail
  refine (D.out _ (tab_below HP.out B1.out)).mono ?_
  rintro e w2 ⟨rfl, hb2⟩
  have z2 : w.heap.size < w2.heap.size := (by have q := hb2.size; (try simp at q); omega)
  have c02 : w2.cell? ⟨w.heap.size, 0, none⟩ = some (.int .i64 i) := (hb2.cell (p := ⟨w.heap.size, 0, none⟩) (by first | omega | (simp; done) | (simp; omega))).trans (by first | assumption | (simp; done) | (simp; assumption) | (simp [go_sem, z1]; done) | (simp [go_sem, *]; done))
  have c12 : w2.cell? ⟨w.heap.size, 1, none⟩ = some (.float .f64 f) := (hb2.cell (p := ⟨w.heap.size, 1, none⟩) (by first | omega | (simp; done) | (simp; omega))).trans (by first | assumption | (simp; done) | (simp; assumption) | (simp [go_sem, z1]; done) | (simp [go_sem, *]; done))
  have c22 : w2.cell? ⟨w.heap.size, 2, none⟩ = some (.float .f64 g) := (hb2.cell (p := ⟨w.heap.size, 2, none⟩) (by first | omega | (simp; done) | (simp; omega))).trans (by first | assumption | (simp; done) | (simp; assumption) | (simp [go_sem, z1]; done) | (simp [go_sem, *]; done))
  have B2 : Hid (Below w.heap.size w w2) := Lib.hid (Below.trans (by repeat (first | (with_reducible exact B1.out) | (with_reducible apply below_drewN) | (with_reducible apply Below.drew) | ((with_reducible refine Below.setCell ?_ ?hs _); (case hs => first | omega | (simp; try omega))) | ((with_reducible refine Below.alloc ?_ ?ha _); (case ha => first | omega | (simp; try omega))))) (hb2.mono (by first | omega | (simp; done) | (simp; omega))))
  clear hb2
  have z2l : w.heap.size ≤ w2.heap.size := Nat.le_of_lt z2
  go_wp2_with fail
  go_ret
  exact ⟨_, rfl, bv_conv _ _ _ z2l, bytes_below B2.out z2l _⟩
set_option maxRecDepth 20000 in
set_option maxHeartbeats 4000000 in
theorem impl_fmt_fl (i : Int) (f g : Nat) (n : Nat) (hn : n < 9) (hf : f < 18446744073709551616) (hg : g < 18446744073709551616) (hv : vcell ((n : Int) + 1) i f g = true) (hk : kindI ((n : Int) + 1) = 2) (l : List UInt8) (hl : FFL f l) (w : World) (hT : Table.Holds w) (hP : Tab w) : Calls Tryz.prog 23 #[.int .i64 ((n : Int) + 1), .agg #[.int .i64 i, .float .f64 f, .float .f64 g]] w (BVR (l) w) := by
  unfold BVR
  have h0 : 0 < w.heap.size := World.block_lt_of_cell? w _ (hT 0 0 (by omega) (by omega))
  have HT := Lib.hid hT
  have HP := Lib.hid hP
  have V := Lib.hid (fun u hu => impl_vcell ((n : Int) + 1) i f g hf hg u hu)
  rw [hv] at V
  have D := Lib.hid hl
  have hc : ∀ u, _ := bconv_run l
  have KA := Lib.hid hk
  have hns : ((n : Int) + 1).toNat = n + 1 := by omega
  have hlt : (n : Int) + 1 < 10 := by omega
  clear hl hk
  clear hf hg hv hT hP
  go_enter Tryz.func23, Tryz.ntmps23
  go_wp2_with fail
  refine (V.out _ (Table.holds_below HT.out (by repeat (first | exact Below.refl _ _ | (refine Below.alloc ?_ (by simp) _))) h0)).mono ?_
  rintro e w1 ⟨rfl, hb1⟩
  have z1 : w.heap.size < w1.heap.size := (by have q := hb1.size; (try simp at q); omega)
  have c01 : w1.cell? ⟨w.heap.size, 0, none⟩ = some (.int .i64 i) := (hb1.cell (p := ⟨w.heap.size, 0, none⟩) (by first | omega | (simp; done) | (simp; omega))).trans (by first | assumption | (simp; done) | (simp; assumption))
  have c11 : w1.cell? ⟨w.heap.size, 1, none⟩ = some (.float .f64 f) := (hb1.cell (p := ⟨w.heap.size, 1, none⟩) (by first | omega | (simp; done) | (simp; omega))).trans (by first | assumption | (simp; done) | (simp; assumption))
  have c21 : w1.cell? ⟨w.heap.size, 2, none⟩ = some (.float .f64 g) := (hb1.cell (p := ⟨w.heap.size, 2, none⟩) (by first | omega | (simp; done) | (simp; omega))).trans (by first | assumption | (simp; done) | (simp; assumption))
  have B1 : Hid (Below w.heap.size w w1) := Lib.hid (Below.trans (by repeat (first | exact Below.refl _ _ | (with_reducible apply below_drewN) | (with_reducible apply Below.drew) | ((with_reducible refine Below.setCell ?_ ?hs _); (case hs => first | omega | (simp; try omega))) | ((with_reducible refine Below.alloc ?_ ?ha _); (case ha => first | omega | (simp; try omega))))) (hb1.mono (by first | omega | (simp; done) | (simp; omega))))
  clear hb1
  have r0 : w1.cell? ⟨0, (n + 1) * 5, none⟩ = some (.int .i64 2) := (row_of (Table.holds_below HT.out B1.out h0) n hn).1.trans (by rw [KA.out])
  go_wp2_with fail
  refine (D.out _ (tab_below HP.out B1.out)).mono ?_
  rintro e w2 ⟨rfl, hb2⟩
  have z2 : w.heap.size < w2.heap.size := (by have q := hb2.size; (try simp at q); omega)
  have c02 : w2.cell? ⟨w.heap.size, 0, none⟩ = some (.int .i64 i) := (hb2.cell (p := ⟨w.heap.size, 0, none⟩) (by first | omega | (simp; done) | (simp; omega))).trans (by first | assumption | (simp; done) | (simp; assumption) | (simp [go_sem, z1]; done) | (simp [go_sem, *]; done))
  have c12 : w2.cell? ⟨w.heap.size, 1, none⟩ = some (.float .f64 f) := (hb2.cell (p := ⟨w.heap.size, 1, none⟩) (by first | omega | (simp; done) | (simp; omega))).trans (by first | assumption | (simp; done) | (simp; assumption) | (simp [go_sem, z1]; done) | (simp [go_sem, *]; done))
  have c22 : w2.cell? ⟨w.heap.size, 2, none⟩ = some (.float .f64 g) := (hb2.cell (p := ⟨w.heap.size, 2, none⟩) (by first | omega | (simp; done) | (simp; omega))).trans (by first | assumption | (simp; done) | (simp; assumption) | (simp [go_sem, z1]; done) | (simp [go_sem, *]; done))
  have B2 : Hid (Below w.heap.size w w2) := Lib.hid (Below.trans (by repeat (first | (with_reducible exact B1.out) | (with_reducible apply below_drewN) | (with_reducible apply Below.drew) | ((with_reducible refine Below.setCell ?_ ?hs _); (case hs => first | omega | (simp; try omega))) | ((with_reducible refine Below.alloc ?_ ?ha _); (case ha => first | omega | (simp; try omega))))) (hb2.mono (by first | omega | (simp; done) | (simp; omega))))
  clear hb2
  have z2l : w.heap.size ≤ w2.heap.size := Nat.le_of_lt z2
  go_wp2_with fail
  go_ret
  exact ⟨_, rfl, bv_conv _ _ _ z2l, bytes_below B2.out z2l _⟩
set_option maxRecDepth 20000 in
set_option maxHeartbeats 4000000 in
theorem impl_fmt_cx (i : Int) (f g : Nat) (n : Nat) (hn : n < 9) (hf : f < 18446744073709551616) (hg : g < 18446744073709551616) (hv : vcell ((n : Int) + 1) i f g = true) (hk : kindI ((n : Int) + 1) = 3) (l1 l2 : List UInt8) (hl1 : FFL f l1) (hl2 : FFL g l2) (n1 : l1.length ≤ 100) (n2 : l2.length ≤ 100) (w : World) (hT : Table.Holds w) (hP : Tab w) : Calls Tryz.prog 23 #[.int .i64 ((n : Int) + 1), .agg #[.int .i64 i, .float .f64 f, .float .f64 g]] w (BVR (l1 ++ 44 :: l2) w) := by
  unfold BVR
  have h0 : 0 < w.heap.size := World.block_lt_of_cell? w _ (hT 0 0 (by omega) (by omega))
  have HT := Lib.hid hT
  have HP := Lib.hid hP
  have V := Lib.hid (fun u hu => impl_vcell ((n : Int) + 1) i f g hf hg u hu)
  rw [hv] at V
  have D1 := Lib.hid hl1
  have D2 := Lib.hid hl2
  obtain ⟨L, hL⟩ : ∃ L, L = l1 ++ 44 :: l2 := ⟨_, rfl⟩
  rw [← hL]
  have hc : ∀ u, _ := bconv_run L
  have hc1 : ∀ u, (binOp .add 9 (SB l1) (.string ⟨#[44]⟩)).run Tryz.prog u = .ok (SB (l1 ++ [44])) u := fun u => cat_run l1 [44] (by simp; omega) u
  have hc2 : ∀ u, (binOp .add 9 (SB (l1 ++ [44])) (SB l2)).run Tryz.prog u = .ok (SB L) u := fun u => (cat_run (l1 ++ [44]) l2 (by simp; omega) u).trans (by rw [hL, List.append_assoc]; rfl)
  have KA := Lib.hid hk
  have hns : ((n : Int) + 1).toNat = n + 1 := by omega
  have hlt : (n : Int) + 1 < 10 := by omega
  clear hl1 hl2 n1 n2 hk hL
  clear hf hg hv hT hP
  go_enter Tryz.func23, Tryz.ntmps23
  go_wp2_with fail
  refine (V.out _ (Table.holds_below HT.out (by repeat (first | exact Below.refl _ _ | (refine Below.alloc ?_ (by simp) _))) h0)).mono ?_
  rintro e w1 ⟨rfl, hb1⟩
  have z1 : w.heap.size < w1.heap.size := (by have q := hb1.size; (try simp at q); omega)
  have c01 : w1.cell? ⟨w.heap.size, 0, none⟩ = some (.int .i64 i) := (hb1.cell (p := ⟨w.heap.size, 0, none⟩) (by first | omega | (simp; done) | (simp; omega))).trans (by first | assumption | (simp; done) | (simp; assumption))
  have c11 : w1.cell? ⟨w.heap.size, 1, none⟩ = some (.float .f64 f) := (hb1.cell (p := ⟨w.heap.size, 1, none⟩) (by first | omega | (simp; done) | (simp; omega))).trans (by first | assumption | (simp; done) | (simp; assumption))
  have c21 : w1.cell? ⟨w.heap.size, 2, none⟩ = some (.float .f64 g) := (hb1.cell (p := ⟨w.heap.size, 2, none⟩) (by first | omega | (simp; done) | (simp; omega))).trans (by first | assumption | (simp; done) | (simp; assumption))
  have B1 : Hid (Below w.heap.size w w1) := Lib.hid (Below.trans (by repeat (first | exact Below.refl _ _ | (with_reducible apply below_drewN) | (with_reducible apply Below.drew) | ((with_reducible refine Below.setCell ?_ ?hs _); (case hs => first | omega | (simp; try omega))) | ((with_reducible refine Below.alloc ?_ ?ha _); (case ha => first | omega | (simp; try omega))))) (hb1.mono (by first | omega | (simp; done) | (simp; omega))))
  clear hb1
  have r0 : w1.cell? ⟨0, (n + 1) * 5, none⟩ = some (.int .i64 3) := (row_of (Table.holds_below HT.out B1.out h0) n hn).1.trans (by rw [KA.out])
  go_wp2
  have S0 : Below w1.heap.size w1 w1.drew := below_drew (Below.refl _ _)
  refine wp_region_held_drew (S := (fun W' => Below w1.heap.size w1 W')) (by kernel_rfl) S0 (fun hHeld => ?_)
  refine wpAnyH_take (i := 0) (v := ?_) rfl (by kernel_rfl) (by kernel_rfl) (by kernel_rfl) (fun _ _ _ h => h) (Or.inl ⟨by rfl, ?_⟩) hHeld ?_
  rotate_left
  · (intro z hSw; (try dsimp only at hSw); go_simp; try (with_reducible rfl))
  simp only [List.getElem_toArray, List.getElem_cons_zero, List.getElem_cons_succ, Act.put, List.setIfInBounds_toArray, List.set_cons_zero, List.set_cons_succ]
  refine wpAnyH_take (i := 4) (v := ?_) rfl (by kernel_rfl) (by kernel_rfl) (by kernel_rfl) (fun _ _ _ h => h) (Or.inl ⟨by rfl, ?_⟩) hHeld ?_
  rotate_left
  · (intro z hSw; (try dsimp only at hSw); go_simp; try (with_reducible rfl))
  simp only [List.getElem_toArray, List.getElem_cons_zero, List.getElem_cons_succ, Act.put, List.setIfInBounds_toArray, List.set_cons_zero, List.set_cons_succ]
  refine wpAnyH_take (i := 1) (v := ?_) rfl (by kernel_rfl) (by kernel_rfl) (by kernel_rfl) (fun _ _ _ h => h) (Or.inl ⟨by rfl, ?_⟩) hHeld ?_
  rotate_left
  · (intro z hSw; (try dsimp only at hSw); have q := (hSw.cell (p := ⟨w.heap.size, 1, none⟩) z1).trans c11; go_simp; try (with_reducible rfl))
  simp only [List.getElem_toArray, List.getElem_cons_zero, List.getElem_cons_succ, Act.put, List.setIfInBounds_toArray, List.set_cons_zero, List.set_cons_succ]
  refine wpAnyH_take (i := 5) (v := ?_) rfl (by kernel_rfl) (by kernel_rfl) (by kernel_rfl) (fun _ _ _ h => h) (Or.inl ⟨by rfl, ?_⟩) hHeld ?_
  rotate_left
  · (intro z hSw; (try dsimp only at hSw); have q := (hSw.cell (p := ⟨w.heap.size, 2, none⟩) z1).trans c21; go_simp; try (with_reducible rfl))
  simp only [List.getElem_toArray, List.getElem_cons_zero, List.getElem_cons_succ, Act.put, List.setIfInBounds_toArray, List.set_cons_zero, List.set_cons_succ]
  refine wpAnyH_ready (rs := [2]) (by kernel_rfl) (by simp) ?_
  refine AllReadyH.cons rfl (fun K hK => ?_) AllReadyH.nil
  go_simp
  refine (D1.out _ (tab_below HP.out (Below.trans B1.out (hHeld.mono B1.out.size)))).mono ?_
  rintro e u ⟨rfl, hb⟩
  refine hK.out _ _ (bb2 hb hHeld) (fun hHeld => ?_)
  clear hK K
  try simp only [List.getElem_toArray, List.getElem_cons_zero, List.getElem_cons_succ, Act.put, List.setIfInBounds_toArray, List.set_cons_zero, List.set_cons_succ]
  refine wpAnyH_take (i := 3) (v := ?_) rfl (by kernel_rfl) (by kernel_rfl) (by kernel_rfl) (fun _ _ _ h => h) (Or.inl ⟨by rfl, ?_⟩) hHeld ?_
  rotate_left
  · (intro z hSw; (try dsimp only at hSw); go_simp; try (with_reducible rfl))
  simp only [List.getElem_toArray, List.getElem_cons_zero, List.getElem_cons_succ, Act.put, List.setIfInBounds_toArray, List.set_cons_zero, List.set_cons_succ]
  refine wpAnyH_ready (rs := [6]) (by kernel_rfl) (by simp) ?_
  refine AllReadyH.cons rfl (fun K hK => ?_) AllReadyH.nil
  go_simp
  refine (D2.out _ (tab_below HP.out (Below.trans B1.out (hHeld.mono B1.out.size)))).mono ?_
  rintro e u ⟨rfl, hb⟩
  refine hK.out _ _ (bb2 hb hHeld) (fun hHeld => ?_)
  clear hK K
  try simp only [List.getElem_toArray, List.getElem_cons_zero, List.getElem_cons_succ, Act.put, List.setIfInBounds_toArray, List.set_cons_zero, List.set_cons_succ]
  refine wpAnyH_take (i := 7) (v := ?_) rfl (by kernel_rfl) (by kernel_rfl) (by kernel_rfl) (fun _ _ _ h => h) (Or.inl ⟨by rfl, ?_⟩) hHeld ?_
  rotate_left
  · (intro z hSw; (try dsimp only at hSw); go_simp; try (with_reducible rfl))
  simp only [List.getElem_toArray, List.getElem_cons_zero, List.getElem_cons_succ, Act.put, List.setIfInBounds_toArray, List.set_cons_zero, List.set_cons_succ]
  have SZ : w.heap.size ≤ u.heap.size := (by have := hHeld.size; omega)
  refine wpAnyH_ready (rs := [8]) (by kernel_rfl) (by simp) ?_
  refine AllReadyH.cons rfl (fun K hK => ?_) AllReadyH.nil
  go_simp
  refine hK.out _ _ (bytes_below hHeld hHeld.size _) (fun hHeld => ?_)
  clear hK K
  try simp only [List.getElem_toArray, List.getElem_cons_zero, List.getElem_cons_succ, Act.put, List.setIfInBounds_toArray, List.set_cons_zero, List.set_cons_succ]
  refine wpAnyH_take (i := 9) (v := ?_) rfl (by kernel_rfl) (by kernel_rfl) (by kernel_rfl) (fun _ _ _ h => h) (Or.inl ⟨by rfl, ?_⟩) hHeld ?_
  rotate_left
  · (intro z hSw; (try dsimp only at hSw); go_simp; try (with_reducible rfl))
  simp only [List.getElem_toArray, List.getElem_cons_zero, List.getElem_cons_succ, Act.put, List.setIfInBounds_toArray, List.set_cons_zero, List.set_cons_succ]
  refine wpAnyH_done (by kernel_rfl) ?_ _
  go_wp2
  go_ret
  exact ⟨_, rfl, bv_conv _ _ _ (SZ), Below.trans B1.out (hHeld.mono B1.out.size)⟩
end Go.Proofs.YtpmdgmnpkdoamabGreatDoor.Vc
