/- Proved here: what impl.merged answers: the axes of a view put together. Conditions: the view's lists are read; its lengths are at least 1, their product at most 4096, its strides small. -/
import Derived.Test.YtpmdgmnpkdoamaaProg
import Derived.Test.YtpmdgmnpkdoamaaViOdo
import Derived.Test.YtpmdgmnpkdoamaaViWSq
import Derived.Outline
import Derived.WalkSpells
import Derived.Deep.QuietTactic
import Derived.BigQuiet
namespace Go.Proofs.Ytpmdgmnpkdoamaa.Odo
open Go.RowKit Go.Proofs.YtpmdgmnpkdoamaaW.PrintWords Go.Proofs.YtpmdgmnpkdoamaaW.PrintLast Go.Proofs.YtpmdgmnpkdoamaaW.PrintMore
def arr4 (f : Nat → Int) : Array Value := #[.int .i64 (f 0), .int .i64 (f 1), .int .i64 (f 2), .int .i64 (f 3)]
def acc (l0 l1 : List Int) (j : Nat) : List (Int × Int) := mg [] (l0.take j) (l1.take j)
def MInv (A0 : Option Addr) (c0 : Nat) (l0 : List Int) (A1 : Option Addr) (c1 : Nat) (l1 : List Int) (o : Int) (w wr : World) (j : Nat) : Prop :=
 wr.heap[w.heap.size]? = some (.cells #[.slice A0 l0.length c0, .slice A1 l1.length c1, .int .i64 o] 32 (0, 0)) ∧
 wr.heap[w.heap.size + 1]? = some (.cells (arr4 fun _ => 0) 137 (0, 0)) ∧ wr.heap[w.heap.size + 1 + 1]? = some (.cells (arr4 fun _ => 0) 137 (0, 0)) ∧
 wr.heap[w.heap.size + 1 + 1 + 1]? = some (.cells (arr4 fun q => (nth (acc l0 l1 j) q).1) 137 (0, 0)) ∧ wr.heap[w.heap.size + 1 + 1 + 1 + 1]? = some (.cells (arr4 fun q => (nth (acc l0 l1 j) q).2) 137 (0, 0)) ∧
 Below w.heap.size w wr
theorem hnew5 (w : World) (a b c d e : Obj) : (((((w.alloc a).alloc b).alloc c).alloc d).alloc e).heap[w.heap.size]? = some a ∧ (((((w.alloc a).alloc b).alloc c).alloc d).alloc e).heap[w.heap.size + 1]? = some b ∧
  (((((w.alloc a).alloc b).alloc c).alloc d).alloc e).heap[w.heap.size + 1 + 1]? = some c ∧ (((((w.alloc a).alloc b).alloc c).alloc d).alloc e).heap[w.heap.size + 1 + 1 + 1]? = some d ∧ (((((w.alloc a).alloc b).alloc c).alloc d).alloc e).heap[w.heap.size + 1 + 1 + 1 + 1]? = some e := by
 have s1 := blk_new (w.alloc a) b
 have s2 := blk_new ((w.alloc a).alloc b) c
 have s3 := blk_new (((w.alloc a).alloc b).alloc c) d
 have s4 := blk_new ((((w.alloc a).alloc b).alloc c).alloc d) e
 simp only [World.size_alloc] at s1 s2 s3 s4
 exact ⟨qG (qG (qG (qG (blk_new w a) _) _) _) _, qG (qG (qG s1 _) _) _, qG (qG s2 _) _, qG s3 _, s4⟩
section
variable {A0 A1 : Option Addr} {c0 c1 : Nat} {l0 l1 : List Int} {o : Int} {w wr : World} {j : Nat}
theorem acc_succ (hl : l1.length = l0.length) (hj : j < l0.length) : acc l0 l1 (j + 1) = ms (acc l0 l1 j) (rd l0 (j : Int)) (rd l1 (j : Int)) := by
 unfold acc
 rw [List.take_succ_eq_append_getElem hj, List.take_succ_eq_append_getElem (by omega), mg_snoc _ _ _ _ _ (by simp; omega)]
 simp [rd, hj, show j < l1.length by omega]
theorem MInv_same (h : MInv A0 c0 l0 A1 c1 l1 o w wr j) (e : acc l0 l1 (j + 1) = acc l0 l1 j) : MInv A0 c0 l0 A1 c1 l1 o w wr (j + 1) := by
 unfold MInv at h ⊢
 rw [e]; exact h
theorem MInv_drewN (h : MInv A0 c0 l0 A1 c1 l1 o w wr j) (n : Nat) : MInv A0 c0 l0 A1 c1 l1 o w (wr.drewN n) j := by
 obtain ⟨a, b, c, d, e, f⟩ := h
 exact ⟨a, b, c, d, e, qB f n⟩
theorem arr_set (f g : Nat → Int) (m : Nat) (hm : m < 4) (x : Int) (hg : ∀ q, q < 4 → g q = if q = m then x else f q) : (arr4 f).setIfInBounds m (.int .i64 x) = arr4 g := by
 unfold arr4
 rw [hg 0 (by omega), hg 1 (by omega), hg 2 (by omega), hg 3 (by omega)]
 obtain rfl | rfl | rfl | rfl : m = 0 ∨ m = 1 ∨ m = 2 ∨ m = 3 := by omega
 all_goals rfl
theorem MInv_put (h : MInv A0 c0 l0 A1 c1 l1 o w wr j) (m : Nat) (hm : m < 4) (X Y : Int) (he : ∀ q, nth (acc l0 l1 (j + 1)) q = if q = m then (X, Y) else nth (acc l0 l1 j) q) :
  MInv A0 c0 l0 A1 c1 l1 o w ((wr.setCell ⟨w.heap.size + 1 + 1 + 1, m, none⟩ (.int .i64 X)).setCell ⟨w.heap.size + 1 + 1 + 1 + 1, m, none⟩ (.int .i64 Y)) (j + 1) := by
 obtain ⟨a, b, c, d, e, f⟩ := h
 refine ⟨zN (zN a (by simp; omega) _) (by simp; omega) _, zN (zN b (by simp) _) (by simp) _, zN (zN c (by simp) _) (by simp) _, ?_, ?_, (f.setCell (by simp; omega) _).setCell (by simp; omega) _⟩
 ·refine zN (zO d m _ ?_) (by simp) _
  exact arr_set _ _ m hm X (fun q _ => by rw [he q]; split <;> rfl)
 ·refine zO (zN e (by simp) _) m _ ?_
  exact arr_set _ _ m hm Y (fun q _ => by rw [he q]; split <;> rfl)
theorem nth_push (a : List (Int × Int)) (x : Int × Int) (q : Nat) : nth (x :: a) q = if q = a.length then x else nth a q := by
 unfold nth
 rw [List.reverse_cons, List.getD_eq_getElem?_getD, List.getD_eq_getElem?_getD]
 by_cases h : q < a.length
 ·rw [List.getElem?_append_left (by simpa using h), if_neg (by omega)]
 ·rw [List.getElem?_append_right (by simpa using h)]
  by_cases h2 : q = a.length
  ·subst h2; simp
  ·rw [if_neg h2, List.getElem?_eq_none (by simp; omega), List.getElem?_eq_none (by simp; omega)]
theorem le_pr : ∀ {l : List Int}, (∀ x ∈ l, 1 ≤ x) → ∀ x ∈ l, x ≤ pr l
 | [], _, x, hx => by simp at hx
 | a :: l, h, x, hx => by
  have h1 := pr_pos (l := l) (fun y hy => h y (by simp [hy]))
  have h2 := h a (by simp)
  rw [pr]
  rcases List.mem_cons.1 hx with rfl | hx
  ·have := Int.mul_le_mul_of_nonneg_left h1 (show 0 ≤ x by omega); omega
  ·have h3 := le_pr (l := l) (fun y hy => h y (by simp [hy])) x hx
   have := Int.mul_le_mul_of_nonneg_right h2 (show 0 ≤ pr l by omega)
   omega
theorem wrap_small {a b : Int} (h1 : -4096 ≤ a) (h2 : a ≤ 4096) (h3 : -4096 ≤ b) (h4 : b ≤ 4096) : wrap64 (a * b) = a * b := by
 have h : (a * b).natAbs ≤ 4096 * 4096 := by rw [Int.natAbs_mul]; exact Nat.mul_le_mul (by omega) (by omega)
 unfold wrap64
 omega
theorem rd_mem {l : List Int} {j : Nat} (h : j < l.length) : rd l (j : Int) ∈ l := by
 unfold rd
 rw [Int.toNat_natCast, List.getD_eq_getElem?_getD, List.getElem?_eq_getElem h]
 exact List.getElem_mem h
theorem nth_last (x : Int × Int) (r : List (Int × Int)) : nth (x :: r) r.length = x := by rw [nth_push, if_pos rfl]
end
set_option maxHeartbeats 8000000 in
set_option maxRecDepth 100000 in
theorem merged_calls (A0 A1 : Option Addr) (c0 c1 : Nat) (l0 l1 : List Int) (o : Int) (w : World) (hr0 : Kd.C (Kd.int .i64) w A0 l0.length l0) (hr1 : Kd.C (Kd.int .i64) w A1 l1.length l1) (hl : l1.length = l0.length) (h4 : l0.length ≤ 4)
  (hp : ∀ x ∈ l0, 1 ≤ x) (hs : ∀ s ∈ l1, -4096 ≤ s ∧ s ≤ 4096) (hc : pr l0 ≤ 4096) :
  Calls Try.prog 115 #[.agg #[.slice A0 l0.length c0, .slice A1 l1.length c1, .int .i64 o]] w fun e w' =>
   e = .returned (.tuple #[.agg (arr4 fun q => (nth (acc l0 l1 l0.length) q).1), .agg (arr4 fun q => (nth (acc l0 l1 l0.length) q).2), .int .i64 ((acc l0 l1 l0.length).length : Nat)]) ∧ Below w.heap.size w w' := by
 have HR0 := qS.mk hr0
 have HR1 := qS.mk hr1
 have HL := qS.mk hl
 have H4 := qS.mk h4
 have HP := qS.mk (And.intro hp (And.intro hs hc))
 clear hr0 hr1 hl h4 hp hs hc
 go_enter Try.func115, Try.ntmps115
 go_wp2_with fail
 go_loopw [7, 13] (fun n i wr => ∃ j : Nat, j ≤ l0.length ∧ i = .int .i64 j ∧ n = .int .i64 ((acc l0 l1 j).length : Nat) ∧ qS (MInv A0 c0 l0 A1 c1 l1 o w wr j)) (fun _ i _ => l0.length - (intOf i).toNat)
 case atStart =>
  refine ⟨0, Nat.zero_le _, rfl, rfl, ⟨?_⟩⟩
  have e : acc l0 l1 0 = [] := by simp [acc, mg]
  have Z : ∀ f : Nat → Int, (∀ q, f q = 0) → arr4 f = #[.int .i64 0, .int .i64 0, .int .i64 0, .int .i64 0] := fun f h => by simp [arr4, h]
  obtain ⟨g0, g1, g2, g3, g4⟩ := hnew5 w (.cells #[.slice A0 l0.length c0, .slice A1 l1.length c1, .int .i64 o] 32) (.cells #[.int .i64 0, .int .i64 0, .int .i64 0, .int .i64 0] 137) (.cells #[.int .i64 0, .int .i64 0, .int .i64 0, .int .i64 0] 137) (.cells #[.int .i64 0, .int .i64 0, .int .i64 0, .int .i64 0] 137) (.cells #[.int .i64 0, .int .i64 0, .int .i64 0, .int .i64 0] 137)
  refine ⟨g0, by rw [Z _ (fun _ => rfl)]; exact g1, by rw [Z _ (fun _ => rfl)]; exact g2, by rw [e, Z _ (fun _ => by simp [nth])]; exact g3, by rw [e, Z _ (fun _ => by simp [nth])]; exact g4, ?_⟩
  exact (((((Below.refl _ w).alloc (Nat.le_refl _) _).alloc (by simp) _).alloc (by simp; omega) _).alloc (by simp; omega) _).alloc (by simp; omega) _
 case round =>
  obtain ⟨j, hj, rfl, rfl, HM⟩ := hrel
  obtain ⟨bv, br1, br2, bn, bs, hB⟩ := HM.out
  have HB := qS.mk hB
  clear HM hB
  have hv0 : wr.cell? ⟨w.heap.size, 0, none⟩ = some (.slice A0 l0.length c0) := (qJ bv 0).trans rfl
  have hv1 : wr.cell? ⟨w.heap.size, 1, none⟩ = some (.slice A1 l1.length c1) := (qJ bv 1).trans rfl
  have hv2 : wr.cell? ⟨w.heap.size, 2, none⟩ = some (.int .i64 o) := (qJ bv 2).trans rfl
  have K := qS.mk (And.intro bv (And.intro br1 (And.intro br2 (And.intro bn bs))))
  clear bv br1 br2 bn bs
  by_cases hlt : j < l0.length
  ·obtain ⟨ad0, e0, hx0⟩ := Kd.at_int (Kd.qW HR0.out HB.out) (j : Int) (by omega) (by omega)
   obtain ⟨ad1, e1, hx1⟩ := Kd.at_int (Kd.qW HR1.out HB.out) (j : Int) (by omega) (by have := HL.out; omega)
   subst e0
   subst e1
   simp only [Int.toNat_natCast] at hx0 hx1
   have L4 := H4.out
   have L1 := HL.out
   have hbl : (ad1.add j).block < w.heap.size := by
    obtain ⟨ad, e, hx⟩ := Kd.at_int HR1.out (j : Int) (by omega) (by omega)
    obtain rfl : ad1 = ad := by simpa using e
    have := World.block_lt_of_cell? w _ hx
    simpa using this
   have HBL := qS.mk hbl
   clear hbl
   have hlt1 : decide ((j : Int) < (l0.length : Int)) = true := decide_eq_true (by omega)
   have hlt2 : decide (j < l0.length) = true := decide_eq_true hlt
   have hlt3 : (j : Int) < (l1.length : Int) := by omega
   have hlt4 : j < l1.length := by omega
   clear L1
   generalize hk : rd l0 (j : Int) = k at hx0
   generalize hs : rd l1 (j : Int) = s at hx1
   have KS := qS.mk (And.intro hk hs)
   clear hk hs
   by_cases k1 : k = 1
   ·have k1b : (k == 1) = true := by rw [k1]; rfl
    have K1 := qS.mk k1
    clear k1
    go_wp2_with fail
    go_roundw
    case rel =>
     have e : acc l0 l1 (j + 1) = acc l0 l1 j := by rw [acc_succ HL.out hlt, KS.out.1, K1.out]; simp [ms]
     exact ⟨j + 1, by omega, by go_num, by rw [e], ⟨MInv_same ⟨K.out.1, K.out.2.1, K.out.2.2.1, K.out.2.2.2.1, K.out.2.2.2.2, HB.out⟩ e⟩⟩
    case measure => simp [intOf]; omega
   ·have k1b : (k == 1) = false := by simpa using k1
    have K1 := qS.mk k1
    clear k1
    have E := qS.mk (show acc l0 l1 (j + 1) = ms (acc l0 l1 j) k s by rw [acc_succ HL.out hlt, KS.out.1, KS.out.2])
    have SM := qS.mk (mg_small l0 l1 HL.out HP.out.1 HP.out.2.1 HP.out.2.2)
    have M0 : MInv (some ad0) c0 l0 (some ad1) c1 l1 o w wr j := ⟨K.out.1, K.out.2.1, K.out.2.2.1, K.out.2.2.2.1, K.out.2.2.2.2, HB.out⟩
    have M0 := qS.mk M0
    have ht0 : ∀ q, q < 4 → wr.cell? ⟨w.heap.size + 1 + 1 + 1 + 1, q, none⟩ = some (.int .i64 (nth (acc l0 l1 j) q).2) := by
     intro q hq
     rw [qJ K.out.2.2.2.2 q]
     obtain rfl | rfl | rfl | rfl : q = 0 ∨ q = 1 ∨ q = 2 ∨ q = 3 := by omega
     all_goals rfl
    have hn0 : ∀ q, q < 4 → wr.cell? ⟨w.heap.size + 1 + 1 + 1, q, none⟩ = some (.int .i64 (nth (acc l0 l1 j) q).1) := by
     intro q hq
     rw [qJ K.out.2.2.2.1 q]
     obtain rfl | rfl | rfl | rfl : q = 0 ∨ q = 1 ∨ q = 2 ∨ q = 3 := by omega
     all_goals rfl
    have ft0 : ∀ q, wr.frozen? ⟨w.heap.size + 1 + 1 + 1 + 1, q, none⟩ = false := fun q => qK K.out.2.2.2.2 q
    have fn0 : ∀ q, wr.frozen? ⟨w.heap.size + 1 + 1 + 1, q, none⟩ = false := fun q => qK K.out.2.2.2.1 q
    have C0 := qS.mk (And.intro (And.intro ht0 hn0) (And.intro ft0 fn0))
    clear ht0 hn0 ft0 fn0
    have len := (SM.out j).2
    have lenj := qS.mk (show (acc l0 l1 j).length ≤ j from len)
    clear len
    have far1 : ∀ (n q : Nat) (v : Value), ((wr.drewN n).setCell ⟨w.heap.size + 1 + 1 + 1, q, none⟩ v).cell? (ad1.add j) = some (.int .i64 s) := fun n q v => (World.cell?_setCell_other _ _ _ _ (by intro e; have := HBL.out; rw [← e] at this; simp at this; omega)).trans hx1
    have far2 : ∀ (q : Nat) (v : Value), (wr.setCell ⟨w.heap.size + 1 + 1 + 1, q, none⟩ v).cell? (ad1.add j) = some (.int .i64 s) := fun q v => (World.cell?_setCell_other _ _ _ _ (by intro e; have := HBL.out; rw [← e] at this; simp at this; omega)).trans hx1
    cases hac : acc l0 l1 j with
    | nil =>
     have A := qS.mk hac
     clear hac
     simp only [List.length_nil, Int.natCast_zero]
     have t0 := C0.out.1.1 0 (by omega)
     have n0 := C0.out.1.2 0 (by omega)
     have g0 := C0.out.2.1 0
     have q0 := C0.out.2.2 0
     go_wp2_with fail
     go_quiet (fail)
     go_wp2_with fail
     go_region
     all_goals go_wp2_with fail
     have e : acc l0 l1 (j + 1) = [(k, s)] := by rw [E.out, A.out]; simp [ms, K1.out]
     go_roundw
     case rel =>
      refine ⟨j + 1, by omega, by go_num, by rw [e]; rfl, ⟨?_⟩⟩
      exact MInv_put (MInv_drewN M0.out _) 0 (by omega) k s (fun q => by rw [e, nth_push, A.out]; rfl)
     case measure => simp [intOf]; omega
    | cons x r =>
     obtain ⟨n0, s0⟩ := x
     have hlen : r.length + 1 ≤ j := by have := lenj.out; rw [hac] at this; simpa using this
     have tl := C0.out.1.1 r.length (by omega)
     have nl := C0.out.1.2 r.length (by omega)
     have gl := C0.out.2.1 r.length
     have ql := C0.out.2.2 r.length
     have t2 := C0.out.1.1 (r.length + 1) (by omega)
     have n2 := C0.out.1.2 (r.length + 1) (by omega)
     have g2 := C0.out.2.1 (r.length + 1)
     have q2 := C0.out.2.2 (r.length + 1)
     rw [hac, nth_last] at tl nl
     have A := qS.mk hac
     clear hac
     simp only [List.length_cons]
     have kb : 1 ≤ k ∧ k ≤ 4096 := by
      have hm : k ∈ l0 := by rw [← KS.out.1]; exact rd_mem hlt
      have a := HP.out.1 k hm
      have b := le_pr HP.out.1 k hm
      have c := HP.out.2.2
      omega
     have sb : -4096 ≤ s ∧ s ≤ 4096 := HP.out.2.1 s (by rw [← KS.out.2]; exact rd_mem (by have := HL.out; omega))
     have KB := qS.mk (And.intro kb sb)
     clear kb sb
     obtain ⟨p, hp⟩ : ∃ p, r.length = p := ⟨_, rfl⟩
     rw [hp] at tl nl gl ql t2 n2 g2 q2
     rw [show ((r.length + 1 : Nat) : Int) = ((p + 1 : Nat) : Int) by rw [hp]]
     have P := qS.mk hp
     have p3 : p ≤ 2 := by omega
     clear hp hlen
     by_cases hq : s0 = wrap64 (s * k)
     ·have hq1 : (s0 == wrap64 (s * k)) = true := by simpa using hq
      have Q := qS.mk hq
      clear hq
      have qs : s0 = s * k := by rw [Q.out]; have := KB.out; exact wrap_small this.2.1 this.2.2 (by omega) (by omega)
      have EE := qS.mk (show acc l0 l1 (j + 1) = (n0 * k, s) :: r by rw [E.out, A.out]; simp [ms, K1.out, qs])
      have XX := qS.mk (show wrap64 (n0 * k) = n0 * k by have := (SM.out (j + 1)).1 (n0 * k, s) (by show (n0 * k, s) ∈ acc l0 l1 (j + 1); rw [EE.out]; simp); unfold wrap64; omega)
      clear qs
      obtain rfl | rfl | rfl : p = 0 ∨ p = 1 ∨ p = 2 := by omega
      all_goals simp only [Nat.zero_add, Nat.reduceAdd] at t2 n2 g2 q2 ⊢
      ·go_wp2_with fail
       go_quiet (fail)
       go_wp2_with fail
       go_roundw
       case rel =>
        refine ⟨j + 1, by omega, by go_num, by rw [EE.out]; simp [P.out], ⟨?_⟩⟩
        rw [XX.out]
        exact MInv_put (MInv_drewN M0.out _) 0 (by omega) (n0 * k) s (fun q => by rw [EE.out, A.out, nth_push, nth_push, P.out]; split <;> rfl)
       case measure => simp [intOf]; omega
      ·go_wp2_with fail
       go_quiet (fail)
       go_wp2_with fail
       go_roundw
       case rel =>
        refine ⟨j + 1, by omega, by go_num, by rw [EE.out]; simp [P.out], ⟨?_⟩⟩
        rw [XX.out]
        exact MInv_put (MInv_drewN M0.out _) 1 (by omega) (n0 * k) s (fun q => by rw [EE.out, A.out, nth_push, nth_push, P.out]; split <;> rfl)
       case measure => simp [intOf]; omega
      ·go_wp2_with fail
       go_quiet (fail)
       go_wp2_with fail
       go_roundw
       case rel =>
        refine ⟨j + 1, by omega, by go_num, by rw [EE.out]; simp [P.out], ⟨?_⟩⟩
        rw [XX.out]
        exact MInv_put (MInv_drewN M0.out _) 2 (by omega) (n0 * k) s (fun q => by rw [EE.out, A.out, nth_push, nth_push, P.out]; split <;> rfl)
       case measure => simp [intOf]; omega
     ·have hq1 : (s0 == wrap64 (s * k)) = false := by simpa using hq
      have Q := qS.mk hq
      clear hq
      have qs : ¬ s0 = s * k := by intro h; apply Q.out; rw [h]; have := KB.out; exact (wrap_small this.2.1 this.2.2 (by omega) (by omega)).symm
      have EE := qS.mk (show acc l0 l1 (j + 1) = (k, s) :: (n0, s0) :: r by rw [E.out, A.out]; simp [ms, K1.out, qs])
      clear qs
      obtain rfl | rfl | rfl : p = 0 ∨ p = 1 ∨ p = 2 := by omega
      all_goals simp only [Nat.zero_add, Nat.reduceAdd] at t2 n2 g2 q2 ⊢
      ·go_wp2_with fail
       go_quiet (fail)
       go_wp2_with fail
       go_region
       all_goals go_wp2_with fail
       go_roundw
       case rel =>
        refine ⟨j + 1, by omega, by go_num, by rw [EE.out]; simp [P.out], ⟨?_⟩⟩
        exact MInv_put (MInv_drewN M0.out _) 1 (by omega) k s (fun q => by rw [EE.out, A.out, nth_push]; simp [P.out])
       case measure => simp [intOf]; omega
      ·go_wp2_with fail
       go_quiet (fail)
       go_wp2_with fail
       go_region
       all_goals go_wp2_with fail
       go_roundw
       case rel =>
        refine ⟨j + 1, by omega, by go_num, by rw [EE.out]; simp [P.out], ⟨?_⟩⟩
        exact MInv_put (MInv_drewN M0.out _) 2 (by omega) k s (fun q => by rw [EE.out, A.out, nth_push]; simp [P.out])
       case measure => simp [intOf]; omega
      ·go_wp2_with fail
       go_quiet (fail)
       go_wp2_with fail
       go_region
       all_goals go_wp2_with fail
       go_roundw
       case rel =>
        refine ⟨j + 1, by omega, by go_num, by rw [EE.out]; simp [P.out], ⟨?_⟩⟩
        exact MInv_put (MInv_drewN M0.out _) 3 (by omega) k s (fun q => by rw [EE.out, A.out, nth_push]; simp [P.out])
       case measure => simp [intOf]; omega
  ·have hj' : j = l0.length := by omega
   have hge : decide ((j : Int) < (l0.length : Int)) = false := decide_eq_false (by omega)
   have hge' : decide (j < l0.length) = false := decide_eq_false hlt
   clear hlt
   have r0 : wr.cell? ⟨w.heap.size + 1, 0, none⟩ = some (.int .i64 0) := (qJ K.out.2.1 0).trans rfl
   have fr0 : wr.frozen? ⟨w.heap.size + 1, 0, none⟩ = false := qK K.out.2.1 0
   have r1 : wr.cell? ⟨w.heap.size + 1, 1, none⟩ = some (.int .i64 0) := (qJ K.out.2.1 1).trans rfl
   have fr1 : wr.frozen? ⟨w.heap.size + 1, 1, none⟩ = false := qK K.out.2.1 1
   have r2 : wr.cell? ⟨w.heap.size + 1, 2, none⟩ = some (.int .i64 0) := (qJ K.out.2.1 2).trans rfl
   have fr2 : wr.frozen? ⟨w.heap.size + 1, 2, none⟩ = false := qK K.out.2.1 2
   have r3 : wr.cell? ⟨w.heap.size + 1, 3, none⟩ = some (.int .i64 0) := (qJ K.out.2.1 3).trans rfl
   have fr3 : wr.frozen? ⟨w.heap.size + 1, 3, none⟩ = false := qK K.out.2.1 3
   have s0 : wr.cell? ⟨w.heap.size + 1 + 1, 0, none⟩ = some (.int .i64 0) := (qJ K.out.2.2.1 0).trans rfl
   have fs0 : wr.frozen? ⟨w.heap.size + 1 + 1, 0, none⟩ = false := qK K.out.2.2.1 0
   have s1 : wr.cell? ⟨w.heap.size + 1 + 1, 1, none⟩ = some (.int .i64 0) := (qJ K.out.2.2.1 1).trans rfl
   have fs1 : wr.frozen? ⟨w.heap.size + 1 + 1, 1, none⟩ = false := qK K.out.2.2.1 1
   have s2 : wr.cell? ⟨w.heap.size + 1 + 1, 2, none⟩ = some (.int .i64 0) := (qJ K.out.2.2.1 2).trans rfl
   have fs2 : wr.frozen? ⟨w.heap.size + 1 + 1, 2, none⟩ = false := qK K.out.2.2.1 2
   have s3 : wr.cell? ⟨w.heap.size + 1 + 1, 3, none⟩ = some (.int .i64 0) := (qJ K.out.2.2.1 3).trans rfl
   have fs3 : wr.frozen? ⟨w.heap.size + 1 + 1, 3, none⟩ = false := qK K.out.2.2.1 3
   have n0 : wr.cell? ⟨w.heap.size + 1 + 1 + 1, 0, none⟩ = some (.int .i64 (nth (acc l0 l1 j) 0).1) := (qJ K.out.2.2.2.1 0).trans rfl
   have fn0 : wr.frozen? ⟨w.heap.size + 1 + 1 + 1, 0, none⟩ = false := qK K.out.2.2.2.1 0
   have n1 : wr.cell? ⟨w.heap.size + 1 + 1 + 1, 1, none⟩ = some (.int .i64 (nth (acc l0 l1 j) 1).1) := (qJ K.out.2.2.2.1 1).trans rfl
   have fn1 : wr.frozen? ⟨w.heap.size + 1 + 1 + 1, 1, none⟩ = false := qK K.out.2.2.2.1 1
   have n2 : wr.cell? ⟨w.heap.size + 1 + 1 + 1, 2, none⟩ = some (.int .i64 (nth (acc l0 l1 j) 2).1) := (qJ K.out.2.2.2.1 2).trans rfl
   have fn2 : wr.frozen? ⟨w.heap.size + 1 + 1 + 1, 2, none⟩ = false := qK K.out.2.2.2.1 2
   have n3 : wr.cell? ⟨w.heap.size + 1 + 1 + 1, 3, none⟩ = some (.int .i64 (nth (acc l0 l1 j) 3).1) := (qJ K.out.2.2.2.1 3).trans rfl
   have fn3 : wr.frozen? ⟨w.heap.size + 1 + 1 + 1, 3, none⟩ = false := qK K.out.2.2.2.1 3
   have t0 : wr.cell? ⟨w.heap.size + 1 + 1 + 1 + 1, 0, none⟩ = some (.int .i64 (nth (acc l0 l1 j) 0).2) := (qJ K.out.2.2.2.2 0).trans rfl
   have ft0 : wr.frozen? ⟨w.heap.size + 1 + 1 + 1 + 1, 0, none⟩ = false := qK K.out.2.2.2.2 0
   have t1 : wr.cell? ⟨w.heap.size + 1 + 1 + 1 + 1, 1, none⟩ = some (.int .i64 (nth (acc l0 l1 j) 1).2) := (qJ K.out.2.2.2.2 1).trans rfl
   have ft1 : wr.frozen? ⟨w.heap.size + 1 + 1 + 1 + 1, 1, none⟩ = false := qK K.out.2.2.2.2 1
   have t2 : wr.cell? ⟨w.heap.size + 1 + 1 + 1 + 1, 2, none⟩ = some (.int .i64 (nth (acc l0 l1 j) 2).2) := (qJ K.out.2.2.2.2 2).trans rfl
   have ft2 : wr.frozen? ⟨w.heap.size + 1 + 1 + 1 + 1, 2, none⟩ = false := qK K.out.2.2.2.2 2
   have t3 : wr.cell? ⟨w.heap.size + 1 + 1 + 1 + 1, 3, none⟩ = some (.int .i64 (nth (acc l0 l1 j) 3).2) := (qJ K.out.2.2.2.2 3).trans rfl
   have ft3 : wr.frozen? ⟨w.heap.size + 1 + 1 + 1 + 1, 3, none⟩ = false := qK K.out.2.2.2.2 3
   have J := qS.mk hj'
   clear hj' hj
   go_wp2_with fail
   go_region
   all_goals go_wp2_with fail
   obtain ⟨X, hX⟩ : ∃ X : World, ((((((((wr.setCell ⟨w.heap.size + 1, 0, none⟩ (.int .i64 (nth (acc l0 l1 j) 0).1)).setCell ⟨w.heap.size + 1, 1, none⟩ (.int .i64 (nth (acc l0 l1 j) 1).1)).setCell ⟨w.heap.size + 1, 2, none⟩ (.int .i64 (nth (acc l0 l1 j) 2).1)).setCell ⟨w.heap.size + 1, 3, none⟩ (.int .i64 (nth (acc l0 l1 j) 3).1)).setCell ⟨w.heap.size + 1 + 1, 0, none⟩ (.int .i64 (nth (acc l0 l1 j) 0).2)).setCell ⟨w.heap.size + 1 + 1, 1, none⟩ (.int .i64 (nth (acc l0 l1 j) 1).2)).setCell ⟨w.heap.size + 1 + 1, 2, none⟩ (.int .i64 (nth (acc l0 l1 j) 2).2)).setCell ⟨w.heap.size + 1 + 1, 3, none⟩ (.int .i64 (nth (acc l0 l1 j) 3).2)).drew = X := ⟨_, rfl⟩
   have x1 : X.heap[w.heap.size + 1]? = some (.cells #[.int .i64 (nth (acc l0 l1 j) 0).1, .int .i64 (nth (acc l0 l1 j) 1).1, .int .i64 (nth (acc l0 l1 j) 2).1, .int .i64 (nth (acc l0 l1 j) 3).1] 137 (0, 0)) := by rw [← hX]; refine qI ?_; refine zN ?_ (by simp) _; refine zN ?_ (by simp) _; refine zN ?_ (by simp) _; refine zN ?_ (by simp) _; refine zO (cs := #[.int .i64 (nth (acc l0 l1 j) 0).1, .int .i64 (nth (acc l0 l1 j) 1).1, .int .i64 (nth (acc l0 l1 j) 2).1, .int .i64 0]) ?_ 3 _ rfl; refine zO (cs := #[.int .i64 (nth (acc l0 l1 j) 0).1, .int .i64 (nth (acc l0 l1 j) 1).1, .int .i64 0, .int .i64 0]) ?_ 2 _ rfl; refine zO (cs := #[.int .i64 (nth (acc l0 l1 j) 0).1, .int .i64 0, .int .i64 0, .int .i64 0]) ?_ 1 _ rfl; refine zO (cs := #[.int .i64 0, .int .i64 0, .int .i64 0, .int .i64 0]) ?_ 0 _ rfl; exact K.out.2.1
   have x2 : X.heap[w.heap.size + 1 + 1]? = some (.cells #[.int .i64 (nth (acc l0 l1 j) 0).2, .int .i64 (nth (acc l0 l1 j) 1).2, .int .i64 (nth (acc l0 l1 j) 2).2, .int .i64 (nth (acc l0 l1 j) 3).2] 137 (0, 0)) := by rw [← hX]; refine qI ?_; refine zO (cs := #[.int .i64 (nth (acc l0 l1 j) 0).2, .int .i64 (nth (acc l0 l1 j) 1).2, .int .i64 (nth (acc l0 l1 j) 2).2, .int .i64 0]) ?_ 3 _ rfl; refine zO (cs := #[.int .i64 (nth (acc l0 l1 j) 0).2, .int .i64 (nth (acc l0 l1 j) 1).2, .int .i64 0, .int .i64 0]) ?_ 2 _ rfl; refine zO (cs := #[.int .i64 (nth (acc l0 l1 j) 0).2, .int .i64 0, .int .i64 0, .int .i64 0]) ?_ 1 _ rfl; refine zO (cs := #[.int .i64 0, .int .i64 0, .int .i64 0, .int .i64 0]) ?_ 0 _ rfl; refine zN ?_ (by simp) _; refine zN ?_ (by simp) _; refine zN ?_ (by simp) _; refine zN ?_ (by simp) _; exact K.out.2.2.1
   have hb : Below w.heap.size w X := by rw [← hX]; exact (((((((((HB.out.setCell (by simp) _).setCell (by simp) _).setCell (by simp) _).setCell (by simp) _).setCell (by simp; omega) _).setCell (by simp; omega) _).setCell (by simp; omega) _).setCell (by simp; omega) _)).drew
   rw [hX]
   clear hX
   have yx10 : X.cell? ⟨w.heap.size + 1, 0, none⟩ = some (.int .i64 (nth (acc l0 l1 j) 0).1) := (qJ x1 0).trans rfl
   have yx11 : X.cell? ⟨w.heap.size + 1, 1, none⟩ = some (.int .i64 (nth (acc l0 l1 j) 1).1) := (qJ x1 1).trans rfl
   have yx12 : X.cell? ⟨w.heap.size + 1, 2, none⟩ = some (.int .i64 (nth (acc l0 l1 j) 2).1) := (qJ x1 2).trans rfl
   have yx13 : X.cell? ⟨w.heap.size + 1, 3, none⟩ = some (.int .i64 (nth (acc l0 l1 j) 3).1) := (qJ x1 3).trans rfl
   have yx20 : X.cell? ⟨w.heap.size + 1 + 1, 0, none⟩ = some (.int .i64 (nth (acc l0 l1 j) 0).2) := (qJ x2 0).trans rfl
   have yx21 : X.cell? ⟨w.heap.size + 1 + 1, 1, none⟩ = some (.int .i64 (nth (acc l0 l1 j) 1).2) := (qJ x2 1).trans rfl
   have yx22 : X.cell? ⟨w.heap.size + 1 + 1, 2, none⟩ = some (.int .i64 (nth (acc l0 l1 j) 2).2) := (qJ x2 2).trans rfl
   have yx23 : X.cell? ⟨w.heap.size + 1 + 1, 3, none⟩ = some (.int .i64 (nth (acc l0 l1 j) 3).2) := (qJ x2 3).trans rfl
   refine bodyPost_ret (v := .tuple #[.agg #[.int .i64 (nth (acc l0 l1 j) 0).1, .int .i64 (nth (acc l0 l1 j) 1).1, .int .i64 (nth (acc l0 l1 j) 2).1, .int .i64 (nth (acc l0 l1 j) 3).1], .agg #[.int .i64 (nth (acc l0 l1 j) 0).2, .int .i64 (nth (acc l0 l1 j) 1).2, .int .i64 (nth (acc l0 l1 j) 2).2, .int .i64 (nth (acc l0 l1 j) 3).2], .int .i64 ((acc l0 l1 j).length : Nat)]) (by simp [results, go_sem, yx10, yx11, yx12, yx13, yx20, yx21, yx22, yx23]) rfl ⟨?_, hb⟩
   rw [J.out]; rfl
end Go.Proofs.Ytpmdgmnpkdoamaa.Odo
