/- Proved here: what a listed package-level table of dtypes holds, cell by cell, and that a listed variable reads as before behind a call that leaves old memory alone. No condition. -/
import Derived.Test.YtpmdgmnpkdoamabGreatDoorRows
import Derived.Test.YtpmdgmnpkdoamabGreatDoorCards
import Derived.Test.YtpmdgmnpkdoamabGreatDoorTie
import Derived.WalkKit
import Derived.ProofKit
import Derived.OpenShut
import Derived.Below
import Derived.Carry
import Derived.ChangeVars
import Derived.Lib.LaidTab
import Derived.Deep.DeepHandedRow
namespace Go.Proofs.YtpmdgmnpkdoamabGreatDoor.Table
open Go.ChangeShapes Go.WideShapes Go.ChangeAt Go.RowKit
section
variable {H : Type} {enc : TypeId × Value → H} {P : Program} {w : World} {base : Nat} {sp : Nat → Bool} {held : Bool}
theorem arr_part {fuel : Nat} {t e : TypeId} {n c : Nat} {cs : List Value} {D : DataW H} {p : List MemPlace}
    (ht : P.underlying t = some (.array n e)) (hce : P.cellsOf e = c)
    (h : DataW.trod enc P w base sp held fuel t cs = some (D, p)) :
    ∃ ds : List (DataW H), D = .agg ds ∧ ∀ i, i < n → ∃ f' d q, ds[i]? = some d ∧ DataW.trod enc P w base sp held f' e ((cs.drop (i * c)).take c) = some (d, q) := by
  cases fuel with
  | zero => simp [DataW.trod] at h
  | succ fuel =>
    simp only [DataW.trod, ht, hce] at h
    split at h
    · obtain ⟨xs, hm, hx⟩ := Option.map_eq_some_iff.1 h
      have h1 := congrArg Prod.fst hx
      simp at h1
      refine ⟨_, h1.symm, fun i hi => ?_⟩
      obtain ⟨b, hb, hf⟩ := Lib.mapM_at hm i i (by simp [hi])
      exact ⟨fuel, b.1, b.2, by simp [hb], hf⟩
    · cases h
/-- One cell of an array of structs of whole numbers. -/
theorem cell_part {fuel : Nat} {t e : TypeId} {n c : Nat} {fs : Array Field} {cs : List Value} {D : DataW H} {p : List MemPlace}
    (ht : P.underlying t = some (.array n e)) (hce : P.cellsOf e = c) (he : P.underlying e = some (.struct fs))
    (h : DataW.trod enc P w base sp held fuel t cs = some (D, p)) (i j : Nat) (hi : i < n) (f : Field) (hf : fs[j]? = some f) (hj : f.offset = j) (hjc : j < c) (hk : P.underlying f.type = some (.int .i64)) (hc1 : P.cellsOf f.type = 1) :
    ∃ (ds rs : List (DataW H)) (z : Int), D = .agg ds ∧ ds[i]? = some (.agg rs) ∧ rs[j]? = some (.lit (.int .i64 z)) ∧ cs[i * c + j]? = some (.int .i64 z) := by
  obtain ⟨ds, hD, hds⟩ := arr_part ht hce h
  obtain ⟨f', d, q, hd, htr⟩ := hds i hi
  obtain ⟨xs, m, _, hx, hl, hlen, hfs⟩ := DataW.trod_struct he htr
  have hxj := hfs j f hf
  have hjl : j < xs.length := by
    rw [hlen]; exact (Array.getElem?_eq_some_iff.1 hf).1
  rw [List.getElem?_eq_getElem hjl] at hxj
  obtain ⟨z, hz, hzx, _⟩ := DataW.trod_int hk hxj
  refine ⟨ds, xs.map (·.1), z, hD, ?_, ?_, ?_⟩
  · rw [hd]; exact congrArg some (Prod.mk.inj hx).1
  · rw [List.getElem?_map, List.getElem?_eq_getElem hjl, hzx]; rfl
  · have := congrArg (·[0]?) hz
    rw [hc1, hj] at this
    simpa [List.getElem?_take, List.getElem?_drop, hjc] using this
/-- A listed variable reads as before behind a call that leaves old memory alone. -/
theorem vars_back {n : String} {gs : List (DataW H)} {q : List MemPlace} {W W' : World} (hl : laidOutB P = true) (hr : ∀ g t, P.globalNamed n = some g → (P.globals[g]?).map (·.type) = some t → P.readableRec t = true ∧ t < P.types.size)
    (hV : DataW.TrodVars enc P W (fun _ => true) [n] gs q) (hb : Below W.heap.size W W') :
    DataW.TrodVars enc P W' (fun b => decide (b < W.heap.size)) [n] gs q := by
  have hlt := DataW.TrodVars.lt hV
  obtain ⟨g, t, cs, fuel, d, p, rfl, h1, h2, h3, h4, rfl⟩ := trodVars_one hV
  obtain ⟨r1, r2⟩ := hr g t h1 h2
  have hg : g < W.heap.size := by
    simp only [World.var?, h1, Option.bind_some] at h3
    rcases Nat.lt_or_ge g W.heap.size with h | h
    · exact h
    · rw [Array.getElem?_eq_none h] at h3; cases h3
  have h3' : W'.var? P n = some cs := by
    simp only [World.var?, h1, Option.bind_some] at h3 ⊢
    rw [hb.block g hg]; exact h3
  have hT : DataW.Trod enc P W 0 (fun _ => true) true t (.agg cs) d p := ⟨fuel, h4⟩
  obtain ⟨fuel', h4'⟩ := Below.trod hl r1 r2 hT hb (fun x hx => hlt x (List.mem_append.2 (.inr hx)))
  exact trodVars_mk1 h1 h2 h3' h4'
end
/-- The table of dtypes: a row a dtype: kind, bytes, bits, lowest, highest. -/
def tabL : List (List Int) := [[0, 0, 0, 0, 0], [0, 1, 0, 0, 1], [1, 1, 8, (-128), 127], [1, 1, 8, 0, 255], [1, 2, 16, (-32768), 32767], [1, 4, 32, (-2147483648), 2147483647], [1, 8, 64, (-9223372036854775808), 9223372036854775807], [2, 4, 0, 0, 0], [2, 8, 0, 0, 0], [3, 16, 0, 0, 0]]
def tabAt (i j : Nat) : Int := (tabL.getD i []).getD j 0
def tabCells : Array Value := (tabL.flatMap fun r => r.map fun z => Value.int .i64 z).toArray
def Holds (w : World) : Prop := ∀ i j : Nat, i < 10 → j < 5 → w.cell? ⟨0, i * 5 + j, none⟩ = some (.int .i64 (tabAt i j))
theorem holds_below {w w' : World} (h : Holds w) (hb : Below w.heap.size w w') (h0 : 0 < w.heap.size) : Holds w' :=
  fun i j hi hj => (hb.cell (p := ⟨0, i * 5 + j, none⟩) h0).trans (h i j hi hj)
theorem gTab : Tryz.prog.globalNamed "loop.example/s16388/impl.dtypes" = some 0 := by kernel_rfl
theorem gTabType : (Tryz.prog.globals[0]?).map (·.type) = some 115 := by kernel_rfl
theorem cellsE : Tryz.prog.cellsOf 114 = 5 := by kernel_rfl
theorem cellsI : Tryz.prog.cellsOf 3 = 1 := by kernel_rfl
theorem cellsI64 : Tryz.prog.cellsOf 2 = 1 := by kernel_rfl
def dtD : List (DataW Unit) := [.agg [.lit (.int .i64 0), .lit (.int .i64 0), .lit (.int .i64 0), .lit (.int .i64 0), .lit (.int .i64 0)], .agg [.lit (.int .i64 0), .lit (.int .i64 1), .lit (.int .i64 0), .lit (.int .i64 0), .lit (.int .i64 1)], .agg [.lit (.int .i64 1), .lit (.int .i64 1), .lit (.int .i64 8), .lit (.int .i64 (-128)), .lit (.int .i64 127)], .agg [.lit (.int .i64 1), .lit (.int .i64 1), .lit (.int .i64 8), .lit (.int .i64 0), .lit (.int .i64 255)], .agg [.lit (.int .i64 1), .lit (.int .i64 2), .lit (.int .i64 16), .lit (.int .i64 (-32768)), .lit (.int .i64 32767)], .agg [.lit (.int .i64 1), .lit (.int .i64 4), .lit (.int .i64 32), .lit (.int .i64 (-2147483648)), .lit (.int .i64 2147483647)], .agg [.lit (.int .i64 1), .lit (.int .i64 8), .lit (.int .i64 64), .lit (.int .i64 (-9223372036854775808)), .lit (.int .i64 9223372036854775807)], .agg [.lit (.int .i64 2), .lit (.int .i64 4), .lit (.int .i64 0), .lit (.int .i64 0), .lit (.int .i64 0)], .agg [.lit (.int .i64 2), .lit (.int .i64 8), .lit (.int .i64 0), .lit (.int .i64 0), .lit (.int .i64 0)], .agg [.lit (.int .i64 3), .lit (.int .i64 16), .lit (.int .i64 0), .lit (.int .i64 0), .lit (.int .i64 0)]]
theorem dt_agg : (Rows.laid_loop_example_s16388_impl_dtypes : DataW Unit) = .agg dtD := rfl
theorem dt_at (i j : Nat) (hi : i < 10) (hj : j < 5) (rs : List (DataW Unit)) (z : Int) (h1 : dtD[i]? = some (.agg rs)) (h2 : rs[j]? = some (.lit (.int .i64 z))) : z = tabAt i j := by
  have hi' : i = 0 ∨ i = 1 ∨ i = 2 ∨ i = 3 ∨ i = 4 ∨ i = 5 ∨ i = 6 ∨ i = 7 ∨ i = 8 ∨ i = 9 := by omega
  have hj' : j = 0 ∨ j = 1 ∨ j = 2 ∨ j = 3 ∨ j = 4 := by omega
  rcases hi' with rfl | rfl | rfl | rfl | rfl | rfl | rfl | rfl | rfl | rfl <;>
    (simp only [dtD, List.getElem?_cons_succ, List.getElem?_cons_zero, Option.some.injEq, DataW.agg.injEq] at h1
     subst h1
     rcases hj' with rfl | rfl | rfl | rfl | rfl <;>
       (simp only [List.getElem?_cons_succ, List.getElem?_cons_zero, Option.some.injEq, DataW.lit.injEq, Lit.int.injEq, true_and] at h2
        subst h2
        rfl))
theorem holds {W : World} (h : laidMetH Tryz.prog [("loop.example/s16388/impl.dtypes", Rows.laid_loop_example_s16388_impl_dtypes)] W) : Holds W := by
  have h' : laidMet Tryz.prog [("loop.example/s16388/impl.dtypes", Rows.laid_loop_example_s16388_impl_dtypes)] W := h
  obtain ⟨ps, ⟨g', t', cs, fuel, p, q, hg', ht', hvar, hd, _, _⟩, _⟩ := h'
  obtain rfl := Option.some.inj (gTab.symm.trans hg')
  obtain rfl := Option.some.inj (gTabType.symm.trans ht')
  intro i j hi hj
  have hc := World.var?_cell gTab hvar (i * 5 + j)
  have part : ∃ z, cs.toList[i * 5 + j]? = some (.int .i64 z) ∧ z = tabAt i j := by
    have hj' : j = 0 ∨ j = 1 ∨ j = 2 ∨ j = 3 ∨ j = 4 := by omega
    rcases hj' with rfl | rfl | rfl | rfl | rfl
    · obtain ⟨ds, rs, z, hD, h1, h2, h3⟩ := cell_part Tryz.underlying115 cellsE Tryz.underlying114 hd i 0 hi _ rfl rfl (by decide) Tryz.underlying3 cellsI
      rw [dt_agg] at hD
      injection hD with hD
      subst hD
      exact ⟨z, h3, dt_at i 0 hi hj rs z h1 h2⟩
    · obtain ⟨ds, rs, z, hD, h1, h2, h3⟩ := cell_part Tryz.underlying115 cellsE Tryz.underlying114 hd i 1 hi _ rfl rfl (by decide) Tryz.underlying2 cellsI64
      rw [dt_agg] at hD
      injection hD with hD
      subst hD
      exact ⟨z, h3, dt_at i 1 hi hj rs z h1 h2⟩
    · obtain ⟨ds, rs, z, hD, h1, h2, h3⟩ := cell_part Tryz.underlying115 cellsE Tryz.underlying114 hd i 2 hi _ rfl rfl (by decide) Tryz.underlying2 cellsI64
      rw [dt_agg] at hD
      injection hD with hD
      subst hD
      exact ⟨z, h3, dt_at i 2 hi hj rs z h1 h2⟩
    · obtain ⟨ds, rs, z, hD, h1, h2, h3⟩ := cell_part Tryz.underlying115 cellsE Tryz.underlying114 hd i 3 hi _ rfl rfl (by decide) Tryz.underlying2 cellsI64
      rw [dt_agg] at hD
      injection hD with hD
      subst hD
      exact ⟨z, h3, dt_at i 3 hi hj rs z h1 h2⟩
    · obtain ⟨ds, rs, z, hD, h1, h2, h3⟩ := cell_part Tryz.underlying115 cellsE Tryz.underlying114 hd i 4 hi _ rfl rfl (by decide) Tryz.underlying2 cellsI64
      rw [dt_agg] at hD
      injection hD with hD
      subst hD
      exact ⟨z, h3, dt_at i 4 hi hj rs z h1 h2⟩
  obtain ⟨z, hz, rfl⟩ := part
  rw [hc, ← Array.getElem?_toList]
  exact hz
theorem readable (g : Nat) (t : TypeId) (h1 : Tryz.prog.globalNamed "loop.example/s16388/impl.dtypes" = some g) (h2 : (Tryz.prog.globals[g]?).map (·.type) = some t) : Tryz.prog.readableRec t = true ∧ t < Tryz.prog.types.size := by
  obtain rfl := Option.some.inj (gTab.symm.trans h1)
  obtain rfl := Option.some.inj (gTabType.symm.trans h2)
  exact ⟨by kernel_rfl, of_decide_eq_true (by kernel_rfl)⟩
end Go.Proofs.YtpmdgmnpkdoamabGreatDoor.Table
