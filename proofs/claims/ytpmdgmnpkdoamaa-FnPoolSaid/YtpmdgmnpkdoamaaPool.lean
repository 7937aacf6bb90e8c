/- Proved here: what impl's pool does: a block is taken, a block is given back. Conditions: the pool's blocks lie as told. -/
import Derived.Test.YtpmdgmnpkdoamaaDict
import Derived.Test.YtpmdgmnpkdoamaaMx
import Derived.Test.YtpmdgmnpkdoamaaWWords
import Derived.Deep.RegionLaw
import Derived.Deep.RegionHeld3
namespace Go.Proofs.Ytpmdgmnpkdoamaa.Pl
open Go Go.RowKit Go.Proofs.YtpmdgmnpkdoamaaW.PrintWords
set_option linter.unusedVariables false
set_option linter.unusedSimpArgs false
theorem inf3 : (Try.prog.info? 3).map (fun i => (i.zero, i.size, i.bytes)) = some (some (.int .i64 0), 1, 8) := by kernel_rfl
/-- What the pool's box holds. -/
def box (a b : Value) (bud : Int) (B : Value) (m : Nat) (live : Int) : Array Value := #[a, b, .int .i64 bud, B, .map (some m), .int .i64 live]
set_option maxRecDepth 100000 in
theorem lock {w : World} {a : Addr} (h0 : w.cell? a = some (.int .i32 0)) (f0 : w.frozen? a = false) :
    Calls Try.prog 112 #[.pointer (some a)] w fun e w' => e = .returned (.tuple #[]) ∧ w' = w.setCell a (.int .i32 1) := by
  have hd := Mx.disable
  have he := Mx.enable
  have ha := Mx.acquire
  have hcas := run_call_cas_hit (P := Try.prog) Try.func127 (by kernel_rfl) (by kernel_rfl) (by kernel_rfl) .i32 (by kernel_rfl) (y := 1) h0 f0
  have h0' : (w.setCell a (.int .i32 1)).cell? a = some (.int .i32 1) := by simp [go_sem, h0]
  have hcv := run_convert_to_unsafe (P := Try.prog) (src := 152) (dst := 156) Try.underlying152 Try.underlying156 (by kernel_rfl) h0'
  go_enter Try.func112, Try.ntmps112
  go_wp2
  first | go_end0 | (simp only [Exit.inBlock, Exit.then]; refine bodyPost_ret (results_none rfl _ _ _) rfl ?_) | refine bodyPost_ret (results_none rfl _ _ _) rfl ?_
  go_wp2
  go_end0
  exact ⟨rfl, rfl⟩
/-- What giving back leaves behind. -/
def Gave (w0 w w' : World) (p m g cap r k : Nat) (bud live n : Int) (cur : Array Value) (G : Int → Option Value) (L : List Int) (v : Value) : Prop :=
  ∃ v1, w'.heap[p]? = some (.cells #[.int .i32 0, .int .u32 0, .int .i64 bud, .slice (some ⟨g, 0, none⟩) k cap, .map (some m), .int .i64 (wrap64 (live - r))] 127 (0, 0)) ∧
    w'.heap[g]? = some (.cells (cur.setIfInBounds (n.toNat * 2 + 1) (.bool false)) 142 (0, 0)) ∧ Dict w' m (fun q => if q = r then some v1 else G q) ∧
    w'.ownsRow w0.heap.size 3 1 v1 (L.length + 1) (L.map (Value.int .i64) ++ [.int .i64 n]) ∧ (v1.ownBlock = v.ownBlock ∨ ∃ c, v1.ownBlock = some c ∧ w.heap.size ≤ c) ∧
    (∀ i, i < w.heap.size → i ≠ p → i ≠ g → i ≠ m → some i ≠ v.ownBlock → w'.heap[i]? = w.heap[i]?) ∧ w.heap.size ≤ w'.heap.size ∧ Below w0.heap.size w0 w'
theorem own3_of {w : World} {base : Nat} {v : Value} {n : Nat} {xs : List Value} (h : w.ownsRow base 3 1 v n xs) : ∀ c, v.ownBlock = some c → ∃ cs, w.heap[c]? = some (.cells cs 3 (0, 0)) := by
  intro c hc
  rcases h.2 with ⟨e, _⟩ | ⟨c', cap', cs, e, _, hcs, _⟩
  · rw [e] at hc; cases hc
  · rw [e] at hc
    obtain rfl : c' = c := by simpa [Value.ownBlock] using hc
    exact ⟨cs, hcs⟩
theorem gave_end {w0 w W w1 : World} {p m g cap r k : Nat} {bud live n : Int} {cur : Array Value} {G : Int → Option Value} {L : List Int} {v v1 : Value} {es : Array MapEntry} {ck : Nat}
    (hpW : W.heap[p]? = some (.cells #[.int .i32 1, .int .u32 0, .int .i64 bud, .slice (some ⟨g, 0, none⟩) k cap, .map (some m), .int .i64 (wrap64 (live - r))] 127 (0, 0)))
    (hgW : W.heap[g]? = some (.cells (cur.setIfInBounds (n.toNat * 2 + 1) (.bool false)) 142 (0, 0))) (hoW : ∀ i, i ≠ p → i ≠ g → W.heap[i]? = w.heap[i]?) (hsW : W.heap.size = w.heap.size)
    (hmp : m ≠ p) (hmg : m ≠ g) (hp0 : w0.heap.size ≤ p) (hm0 : w0.heap.size ≤ m) (hpv : some p ≠ v.ownBlock) (hgv : some g ≠ v.ownBlock)
    (hown : w1.ownsRow w0.heap.size 3 1 v1 (L.length + 1) (L.map (Value.int .i64) ++ [.int .i64 n])) (hB : Below w0.heap.size w0 w1) (hgr : W.drew.grownBy w1 v.ownBlock) (hat : v1.ownBlock = v.ownBlock ∨ ∃ b, v1.ownBlock = some b ∧ W.drew.heap.size ≤ b)
    (hmm : ∃ (es0 : Array MapEntry) (ck0 : Nat), w1.heap[m]? = some (.map es0 ck0))
    (h2 : ∀ i, i ≠ m → (ChangeMaps.setBlock w1 m (.map es ck)).heap[i]? = w1.heap[i]?) (hD : Dict (ChangeMaps.setBlock w1 m (.map es ck)) m (fun q => if q = r then some v1 else G q)) :
    Gave w0 w ((ChangeMaps.setBlock w1 m (.map es ck)).setCell ⟨p, 0, none⟩ (.int .i32 0)) p m g cap r k bud live n cur G L v := by
  have hpg : p ≠ g := blk_ne hpW hgW (by decide)
  have b1 : (ChangeMaps.setBlock w1 m (.map es ck)).heap[p]? = _ := (h2 p (Ne.symm hmp)).trans (blk_grown (blk_drew hpW) hgr hpv)
  have b2 : (ChangeMaps.setBlock w1 m (.map es ck)).heap[g]? = _ := (h2 g (Ne.symm hmg)).trans (blk_grown (blk_drew hgW) hgr hgv)
  have hsz : (ChangeMaps.setBlock w1 m (.map es ck)).heap.size = w1.heap.size := by simp [ChangeMaps.setBlock]
  refine ⟨v1, blk_put b1 0 _ rfl, blk_far b2 (Ne.symm hpg) _, hD.move (Below.heap_setCell _ _ _ _ hmp), ?_, ?_, ?_, ?_, ?_⟩
  · refine own_move hown (fun c hc => ?_)
    obtain ⟨cs, hcs⟩ := own3_of hown c hc
    have hcm : c ≠ m := by
      rintro rfl
      obtain ⟨o, o', ho⟩ := hmm
      rw [ho] at hcs
      cases hcs
    have hcp : c ≠ p := by
      rintro rfl
      have := blk_grown (blk_drew hpW) hgr hpv
      rw [hcs] at this
      cases this
    exact (Below.heap_setCell _ _ _ _ hcp).trans (h2 c hcm)
  · rcases hat with h | ⟨c, hc, hl⟩
    · exact .inl h
    · exact .inr ⟨c, hc, by rw [← hsW]; exact hl⟩
  · intro i hi ip ig im iv
    exact (Below.heap_setCell _ _ _ _ ip).trans ((h2 i im).trans ((hgr.block i (by show i < W.heap.size; omega) iv).trans (hoW i ip ig)))
  · have := hgr.size
    simp only [World.size_setCell, hsz]
    have e : W.drew.heap.size = W.heap.size := rfl
    omega
  · have hB2 : Below w0.heap.size w0 (ChangeMaps.setBlock w1 m (.map es ck)) := ⟨hB.os, hB.tape, hB.output, by rw [hsz]; exact hB.size, fun i hi => (h2 i (by omega)).trans (hB.block i hi)⟩
    exact hB2.setCell hp0 _
set_option maxHeartbeats 8000000 in
set_option maxRecDepth 100000 in
theorem give_hit {w0 w : World} {p m g cap r : Nat} {k : Nat} {bud live n : Int} {cur : Array Value} {b : Nat} {G : Int → Option Value} {L : List Int} {v : Value}
    (hp : w.heap[p]? = some (.cells #[.int .i32 0, .int .u32 0, .int .i64 bud, .slice (some ⟨g, 0, none⟩) k cap, .map (some m), .int .i64 live] 127 (0, 0)))
    (hg : w.heap[g]? = some (.cells cur 142 (0, 0))) (hc0 : cur[n.toNat * 2]? = some (.slice (some ⟨b, 0, none⟩) r r)) (hc1 : cur[n.toNat * 2 + 1]? = some (.bool true))
    (h0 : 0 ≤ n) (h1 : n < k) (hk : k ≤ 2000) (hr1 : r ≤ 65536) (hD : Dict w m G) (hv : v = (G r).getD (.slice none 0 0)) (hL : w.ownsRow w0.heap.size 3 1 v L.length (L.map (Value.int .i64))) (hLl : L.length ≤ 2000) (hb0 : Below w0.heap.size w0 w)
    (hp0 : w0.heap.size ≤ p) (hg0 : w0.heap.size ≤ g) (hm0 : w0.heap.size ≤ m) :
    Calls Try.prog 99 #[.pointer (some ⟨p, 0, none⟩), .int .i64 n] w fun e w' => e = .returned (.tuple #[.int .i64 n, .int .i64 0]) ∧ Gave w0 w w' p m g cap r k bud live n cur G L v := by
  have hk2 := hk
  have hLl2 := hLl
  have hgp : g ≠ p := blk_ne hg hp (by decide)
  have l0 : w.cell? ⟨p, 0, none⟩ = some (.int .i32 0) := blk_cell hp 0
  have f0 : ∀ j, w.frozen? ⟨p, j, none⟩ = false := fun j => blk_frozen hp j
  have fg : ∀ j, w.frozen? ⟨g, j, none⟩ = false := fun j => blk_frozen hg j
  have l3 : w.cell? ⟨p, 3, none⟩ = some (.slice (some ⟨g, 0, none⟩) k cap) := blk_cell hp 3
  have l4 : w.cell? ⟨p, 4, none⟩ = some (.map (some m)) := blk_cell hp 4
  have l5 : w.cell? ⟨p, 5, none⟩ = some (.int .i64 live) := blk_cell hp 5
  have e0 : w.cell? ⟨g, n.toNat * 2, none⟩ = some (.slice (some ⟨b, 0, none⟩) r r) := (blk_cell hg _).trans hc0
  have e1 : w.cell? ⟨g, n.toNat * 2 + 1, none⟩ = some (.bool true) := (blk_cell hg _).trans hc1
  have t1 : decide (n < 0) = false := decide_eq_false (by omega)
  have t2 : decide ((k : Int) ≤ n) = false := decide_eq_false (by omega)
  have wr : (Lit.int .i64 (r : Int)).wf = true := WalkArith.wf_i64 (by omega)
  obtain ⟨W, hW⟩ : ∃ W, W = (((w.setCell ⟨p, 0, none⟩ (.int .i32 1)).setCell ⟨g, n.toNat * 2 + 1, none⟩ (.bool false)).setCell ⟨p, 5, none⟩ (.int .i64 (wrap64 (live - r)))) := ⟨_, rfl⟩
  have hpW : W.heap[p]? = some (.cells #[.int .i32 1, .int .u32 0, .int .i64 bud, .slice (some ⟨g, 0, none⟩) k cap, .map (some m), .int .i64 (wrap64 (live - r))] 127 (0, 0)) := by
    rw [hW]
    exact blk_put (blk_far (blk_put hp 0 (.int .i32 1) rfl) (Ne.symm hgp) _) 5 _ rfl
  have hgW : W.heap[g]? = some (.cells (cur.setIfInBounds (n.toNat * 2 + 1) (.bool false)) 142 (0, 0)) := by
    rw [hW]
    exact blk_far (blk_set (blk_far hg hgp _) _ _) hgp _
  have hoW : ∀ i, i ≠ p → i ≠ g → W.heap[i]? = w.heap[i]? := by
    intro i hi hi2
    rw [hW, Below.heap_setCell _ _ _ _ hi, Below.heap_setCell _ _ _ _ hi2, Below.heap_setCell _ _ _ _ hi]
  have hsW : W.heap.size = w.heap.size := by rw [hW]; simp
  have hmp : m ≠ p := by
    rintro rfl
    obtain ⟨es, clk, hb, _⟩ := hD
    rw [hp] at hb
    cases hb
  have hmg : m ≠ g := by
    rintro rfl
    obtain ⟨es, clk, hb, _⟩ := hD
    rw [hg] at hb
    cases hb
  have hDW : Dict W m G := hD.move (hoW m hmp hmg)
  have hBW : Below w0.heap.size w0 W := by
    rw [hW]
    exact ((hb0.setCell hp0 _).setCell hg0 _).setCell hp0 _
  have hvk := own3_of hL
  have hLW : W.ownsRow w0.heap.size 3 1 v L.length (L.map (Value.int .i64)) := by
    refine own_move hL (fun c hc => ?_)
    obtain ⟨cs, hcs⟩ := hvk c hc
    exact hoW c (blk_ne hcs hp (by decide)) (blk_ne hcs hg (by decide))
  have k4 : ∀ o, (W.alloc o).drew.cell? ⟨p, 4, none⟩ = some (.map (some m)) := fun o => (blk_cell (blk_alloc (blk_drew hpW) o) 4).trans rfl
  have k4' : W.drew.cell? ⟨p, 4, none⟩ = some (.map (some m)) := (blk_cell (blk_drew hpW) 4).trans rfl
  have lk : ∀ o, (Instr.lookup 125 (.map (some m)) (.int .i64 r) false).run Try.prog (W.alloc o).drew = .ok v (W.alloc o).drew := by
    intro o
    have : Dict (W.alloc o).drew m G := hDW.move (Below.heap_alloc W.drew o m (show m < W.drew.heap.size from hDW.lt))
    rw [hv]
    exact this.look wr
  have lk' : (Instr.lookup 125 (.map (some m)) (.int .i64 r) false).run Try.prog W.drew = .ok v W.drew := by
    rw [hv]
    exact Dict.look (show Dict W.drew m G from hDW) wr
  have hmv : some m ≠ v.ownBlock := by
    intro e
    obtain ⟨cs, hcs⟩ := hvk m e.symm
    obtain ⟨es, clk, hb, _⟩ := hD
    rw [hcs] at hb
    cases hb
  have hpv : some p ≠ v.ownBlock := by
    intro e
    obtain ⟨cs, hcs⟩ := hvk p e.symm
    exact blk_ne hcs hp (by decide) rfl
  have hp1 : ∀ w1, W.drew.grownBy w1 v.ownBlock → w1.cell? ⟨p, 4, none⟩ = some (.map (some m)) := fun w1 hgr => (blk_cell (blk_grown (blk_drew hpW) hgr hpv) 4).trans rfl
  have hgv : some g ≠ v.ownBlock := by
    intro e
    obtain ⟨cs, hcs⟩ := hvk g e.symm
    exact blk_ne hcs hg (by decide) rfl
  have HEND := Aside0.mk (fun w1 v1 es ck (hown : w1.ownsRow w0.heap.size 3 1 v1 (L.length + 1) (L.map (Value.int .i64) ++ [.int .i64 n])) (hB : Below w0.heap.size w0 w1) hgr hat h2 hD => gave_end (G := G) (es := es) (ck := ck) hpW hgW hoW hsW hmp hmg hp0 hm0 hpv hgv hown hB hgr hat (by
    obtain ⟨es, clk, hb, _⟩ := hDW
    exact ⟨es, clk, (hgr.block m (show m < W.heap.size from (Array.getElem?_eq_some_iff.1 hb).1) hmv).trans hb⟩) h2 hD)
  have HPB := Aside0.mk (show ∀ w1, W.drew.grownBy w1 v.ownBlock → ∀ o, (ChangeMaps.setBlock w1 m o).heap[p]? = some (.cells #[.int .i32 1, .int .u32 0, .int .i64 bud, .slice (some ⟨g, 0, none⟩) k cap, .map (some m), .int .i64 (wrap64 (live - r))] 127 (0, 0)) from fun w1 hgr o => by
    have := blk_grown (blk_drew hpW) hgr hpv
    simpa [ChangeMaps.setBlock, Array.getElem?_setIfInBounds_ne hmp] using this)
  have HMU := Aside0.mk (show ∀ v1 w1, W.drew.grownBy w1 v.ownBlock → ∃ es' clk', (Instr.mapUpdate 125 (.map (some m)) (.int .i64 r) v1).run Try.prog w1 = .ok () (ChangeMaps.setBlock w1 m (.map es' clk')) ∧
      (ChangeMaps.setBlock w1 m (.map es' clk')).heap[m]? = some (.map es' clk') ∧ (∀ i, i ≠ m → (ChangeMaps.setBlock w1 m (.map es' clk')).heap[i]? = w1.heap[i]?) ∧ Dict (ChangeMaps.setBlock w1 m (.map es' clk')) m (fun q => if q = r then some v1 else G q) from fun v1 w1 hgr =>
    (hDW.move (show w1.heap[m]? = W.heap[m]? from hgr.block m (show m < W.heap.size from hDW.lt) hmv)).upd wr v1)
  go_enter_defers Try.func99, Try.ntmps99
  go_wp2_with (go_at_call 112; refine (lock l0 (f0 0)).mono ?_; rintro e w' ⟨rfl, rfl⟩; have m3 : (w.setCell ⟨p, 0, none⟩ (.int .i32 1)).cell? ⟨p, 3, none⟩ = some (.slice (some ⟨g, 0, none⟩) k cap) := by simp [go_sem, l3])
  rw [← hW]
  clear l0 f0 fg l3 l4 l5 e0 e1 t1 t2 m3 hW hv hp hg hc0 hc1 hD hDW hpW hgW hoW
  have KC := Aside0.mk (show ∀ w1, W.drew.grownBy w1 v.ownBlock → ∀ o, (ChangeMaps.setBlock w1 m o).cell? ⟨p, 4, none⟩ = some (.map (some m)) from fun w1 hgr o => by
    have := hp1 w1 hgr
    simpa [World.cell?, ChangeMaps.setBlock, Array.getElem?_setIfInBounds_ne hmp] using this)
  have KD := Aside0.mk hp1
  clear hp1
  go_region_held3 (fun W' => W'.cell? ⟨p, 4, none⟩ = some (.map (some m))) (first | exact k4' | exact k4 _ | exact k51 | exact k52 _)
    (first | (refine step_append_cells (w0 := w0) (W := W.drew) w0.heap.size (by first | rfl | decide | simp [Region.wanted]) (.tmp 69) (.tmp 71) 140 3 (.int .i64 0) 1 8 rfl Try.underlying140 inf3 rfl (by decide) (by decide) v L.length (L.map (Value.int .i64)) [.int .i64 n] (by simp [Act.eval]) (by simp [Act.eval]) rfl (by simp [Value.oneCell']) hLW (below_drew hBW) (show w0.heap.size ≤ W.heap.size from hBW.size) (by omega) ?_; intro v1 w1 hown1 hB1 hgr1 hat1; have k51 := KD.out w1 hgr1; have k52 := KC.out w1 hgr1; obtain ⟨es1, ck1, hu1, hu2, hu3, hu4⟩ := HMU.out v1 w1 hgr1))
  all_goals
    clear hL hb0 k4 k4' lk lk' k51 k52 hLW hBW
    go_wp2
    refine leaves_cons (f := 113) (args := #[.pointer (some ⟨p, 0, none⟩)]) (by simp) (by simp [go_sem]) ?_
    refine (Mx.unlock_deferred ⟨p, 0, none⟩ .returning _ (blk_cell (HPB.out w1 hgr1 _) 0) (blk_frozen (HPB.out w1 hgr1 _) 0)).mono ?_
    rintro e u' w'' ⟨rfl, rfl, rfl⟩
    exact ⟨_, results_tmp2 rfl _ _ _, rfl, HEND.out w1 v1 es1 ck1 hown1 hB1 hgr1 hat1 hu3 hu4⟩
/-- The lock taken and given back: nothing has turned. -/
theorem lock_same {w : World} {p : Nat} {cs : Array Value} {t : TypeId} (hp : w.heap[p]? = some (.cells cs t (0, 0))) (h0 : cs[0]? = some (.int .i32 0)) (x : Value) :
    ∀ i : Nat, ((w.setCell ⟨p, 0, none⟩ x).setCell ⟨p, 0, none⟩ (.int .i32 0)).heap[i]? = w.heap[i]? := by
  intro i
  by_cases h : i = p
  · subst h
    have e : (cs.setIfInBounds 0 x).setIfInBounds 0 (.int .i32 0) = cs := by
      apply Array.ext (by simp)
      intro j h1 h2
      have h3 : j < (cs.setIfInBounds 0 x).size := by simpa using h2
      rw [Array.getElem_setIfInBounds h3, Array.getElem_setIfInBounds h2]
      split
      · rename_i e
        subst e
        have := (Array.getElem?_eq_some_iff.1 h0).2
        exact this.symm
      · rfl
    rw [blk_put (blk_set hp 0 x) 0 (.int .i32 0) e]
    exact hp.symm
  · rw [Below.heap_setCell _ _ _ _ h, Below.heap_setCell _ _ _ _ h]
set_option maxHeartbeats 8000000 in
set_option maxRecDepth 100000 in
theorem give_miss {w : World} {p m cap k : Nat} {bud live n : Int} {A : Option Addr}
    (hp : w.heap[p]? = some (.cells #[.int .i32 0, .int .u32 0, .int .i64 bud, .slice A k cap, .map (some m), .int .i64 live] 127 (0, 0)))
    (hc : n < 0 ∨ (k : Int) ≤ n ∨ (0 ≤ n ∧ n < k ∧ ∃ g cur, A = some ⟨g, 0, none⟩ ∧ w.heap[g]? = some (.cells cur 142 (0, 0)) ∧ cur[n.toNat * 2 + 1]? = some (.bool false))) :
    Calls Try.prog 99 #[.pointer (some ⟨p, 0, none⟩), .int .i64 n] w fun e w' => e = .returned (.tuple #[.int .i64 (-1), .int .i64 15]) ∧ w' = (w.setCell ⟨p, 0, none⟩ (.int .i32 1)).setCell ⟨p, 0, none⟩ (.int .i32 0) := by
  have l0 : w.cell? ⟨p, 0, none⟩ = some (.int .i32 0) := blk_cell hp 0
  have f0 : ∀ j, w.frozen? ⟨p, j, none⟩ = false := fun j => blk_frozen hp j
  have l3 : w.cell? ⟨p, 3, none⟩ = some (.slice A k cap) := blk_cell hp 3
  have u0 : (w.setCell ⟨p, 0, none⟩ (.int .i32 1)).cell? ⟨p, 0, none⟩ = some (.int .i32 1) := by simp [go_sem, l0]
  have u1 : (w.setCell ⟨p, 0, none⟩ (.int .i32 1)).frozen? ⟨p, 0, none⟩ = false := by simp [f0]
  by_cases c1 : n < 0
  · have t1 : decide (n < 0) = true := decide_eq_true c1
    clear hc
    go_enter_defers Try.func99, Try.ntmps99
    go_wp2_with (go_at_call 112; refine (lock l0 (f0 0)).mono ?_; rintro e w' ⟨rfl, rfl⟩; have m3 : (w.setCell ⟨p, 0, none⟩ (.int .i32 1)).cell? ⟨p, 3, none⟩ = some (.slice A k cap) := by simp [go_sem, l3])
    refine leaves_cons (f := 113) (args := #[.pointer (some ⟨p, 0, none⟩)]) (by simp) (by simp [go_sem]) ?_
    refine (Mx.unlock_deferred ⟨p, 0, none⟩ .returning _ u0 u1).mono ?_
    rintro e u' w'' ⟨rfl, rfl, rfl⟩
    exact ⟨_, results_tmp2 rfl _ _ _, rfl, rfl⟩
  · have t1 : decide (n < 0) = false := decide_eq_false c1
    by_cases c2 : (k : Int) ≤ n
    · have t2 : decide ((k : Int) ≤ n) = true := decide_eq_true c2
      clear hc
      go_enter_defers Try.func99, Try.ntmps99
      go_wp2_with (go_at_call 112; refine (lock l0 (f0 0)).mono ?_; rintro e w' ⟨rfl, rfl⟩; have m3 : (w.setCell ⟨p, 0, none⟩ (.int .i32 1)).cell? ⟨p, 3, none⟩ = some (.slice A k cap) := by simp [go_sem, l3])
      refine leaves_cons (f := 113) (args := #[.pointer (some ⟨p, 0, none⟩)]) (by simp) (by simp [go_sem]) ?_
      refine (Mx.unlock_deferred ⟨p, 0, none⟩ .returning _ u0 u1).mono ?_
      rintro e u' w'' ⟨rfl, rfl, rfl⟩
      exact ⟨_, results_tmp2 rfl _ _ _, rfl, rfl⟩
    · obtain ⟨h0, h1, g, cur, rfl, hg, hcur⟩ := (hc.resolve_left c1).resolve_left c2
      have t2 : decide ((k : Int) ≤ n) = false := decide_eq_false c2
      have hgp : g ≠ p := blk_ne hg hp (by decide)
      have e1 : w.cell? ⟨g, n.toNat * 2 + 1, none⟩ = some (.bool false) := (blk_cell hg _).trans hcur
      clear hc hg hcur
      go_enter_defers Try.func99, Try.ntmps99
      go_wp2_with (go_at_call 112; refine (lock l0 (f0 0)).mono ?_; rintro e w' ⟨rfl, rfl⟩; have m3 : (w.setCell ⟨p, 0, none⟩ (.int .i32 1)).cell? ⟨p, 3, none⟩ = some (.slice (some ⟨g, 0, none⟩) k cap) := by simp [go_sem, l3])
      refine leaves_cons (f := 113) (args := #[.pointer (some ⟨p, 0, none⟩)]) (by simp) (by simp [go_sem]) ?_
      refine (Mx.unlock_deferred ⟨p, 0, none⟩ .returning _ u0 u1).mono ?_
      rintro e u' w'' ⟨rfl, rfl, rfl⟩
      exact ⟨_, results_tmp2 rfl _ _ _, rfl, rfl⟩
/-- What impl.RoundBytes answers. -/
def Round (size r : Int) : Prop := ∀ w, Calls Try.prog 20 #[.int .i64 size] w fun e w' => e = .returned (.int .i64 r) ∧ Drawn0 w w'
set_option maxHeartbeats 8000000 in
set_option maxRecDepth 100000 in
theorem take_low {w : World} {p : Nat} {cs : Array Value} {size r : Int} (hp : w.heap[p]? = some (.cells cs 127 (0, 0))) (h0 : cs[0]? = some (.int .i32 0)) (hr : Round size r) (hr0 : r < 0) :
    Calls Try.prog 98 #[.pointer (some ⟨p, 0, none⟩), .int .i64 size] w fun e w' => e = .returned (.tuple #[.int .i64 (-1), .int .i64 16]) ∧ Drawn0 ((w.setCell ⟨p, 0, none⟩ (.int .i32 1)).setCell ⟨p, 0, none⟩ (.int .i32 0)) w' := by
  have l0 : w.cell? ⟨p, 0, none⟩ = some (.int .i32 0) := (blk_cell hp 0).trans h0
  have f0 : ∀ j, w.frozen? ⟨p, j, none⟩ = false := fun j => blk_frozen hp j
  have u0 : (w.setCell ⟨p, 0, none⟩ (.int .i32 1)).cell? ⟨p, 0, none⟩ = some (.int .i32 1) := by simp [go_sem, l0]
  have u1 : (w.setCell ⟨p, 0, none⟩ (.int .i32 1)).frozen? ⟨p, 0, none⟩ = false := by simp [f0]
  have t1 : decide (r < 0) = true := decide_eq_true hr0
  go_enter_defers Try.func98, Try.ntmps98
  go_wp2_with (first | (go_at_call 112; refine (lock l0 (f0 0)).mono ?_; rintro e w' ⟨rfl, rfl⟩) | (go_at_call 20; refine (hr _).mono ?_; rintro e w' ⟨rfl, q, rfl⟩))
  refine leaves_cons (f := 113) (args := #[.pointer (some ⟨p, 0, none⟩)]) (by simp) (by simp [go_sem]) ?_
  refine (Mx.unlock_deferred ⟨p, 0, none⟩ .returning _ (by exact u0) (by exact u1)).mono ?_
  rintro e u' w'' ⟨rfl, rfl, rfl⟩
  exact ⟨_, results_tmp2 rfl _ _ _, rfl, ⟨q, rfl⟩⟩
set_option maxHeartbeats 8000000 in
set_option maxRecDepth 100000 in
theorem take_over {w : World} {p m : Nat} {bud live size r : Int} {B : Value} (hp : w.heap[p]? = some (.cells #[.int .i32 0, .int .u32 0, .int .i64 bud, B, .map (some m), .int .i64 live] 127 (0, 0))) (hr : Round size r) (hr0 : 0 ≤ r) (ho : bud < IntKind.i64.wrap (live + r)) :
    Calls Try.prog 98 #[.pointer (some ⟨p, 0, none⟩), .int .i64 size] w fun e w' => e = .returned (.tuple #[.int .i64 (-1), .int .i64 17]) ∧ Drawn0 ((w.setCell ⟨p, 0, none⟩ (.int .i32 1)).setCell ⟨p, 0, none⟩ (.int .i32 0)) w' := by
  have l0 : w.cell? ⟨p, 0, none⟩ = some (.int .i32 0) := blk_cell hp 0
  have f0 : ∀ j, w.frozen? ⟨p, j, none⟩ = false := fun j => blk_frozen hp j
  have u0 : (w.setCell ⟨p, 0, none⟩ (.int .i32 1)).cell? ⟨p, 0, none⟩ = some (.int .i32 1) := by simp [go_sem, l0]
  have u1 : (w.setCell ⟨p, 0, none⟩ (.int .i32 1)).frozen? ⟨p, 0, none⟩ = false := by simp [f0]
  have u2 : (w.setCell ⟨p, 0, none⟩ (.int .i32 1)).cell? ⟨p, 2, none⟩ = some (.int .i64 bud) := (blk_cell (show (w.setCell ⟨p, 0, none⟩ (.int .i32 1)).heap[p]? = _ from blk_put hp 0 _ rfl) 2).trans rfl
  have u5 : (w.setCell ⟨p, 0, none⟩ (.int .i32 1)).cell? ⟨p, 5, none⟩ = some (.int .i64 live) := (blk_cell (show (w.setCell ⟨p, 0, none⟩ (.int .i32 1)).heap[p]? = _ from blk_put hp 0 _ rfl) 5).trans rfl
  have t1 : decide (r < 0) = false := decide_eq_false (by omega)
  have t2 : decide (bud < IntKind.i64.wrap (live + r)) = true := decide_eq_true ho
  go_enter_defers Try.func98, Try.ntmps98
  go_wp2_with (first | (go_at_call 112; refine (lock l0 (f0 0)).mono ?_; rintro e w' ⟨rfl, rfl⟩) | (go_at_call 20; refine (hr _).mono ?_; rintro e w' ⟨rfl, q, rfl⟩))
  go_region_held3 (fun W' => W'.cell? ⟨p, 2, none⟩ = some (.int .i64 bud) ∧ W'.cell? ⟨p, 5, none⟩ = some (.int .i64 live)) (first | exact ⟨u2, u5⟩) (first | fail)
  go_wp2
  refine leaves_cons (f := 113) (args := #[.pointer (some ⟨p, 0, none⟩)]) (by simp) (by simp [go_sem]) ?_
  refine (Mx.unlock_deferred ⟨p, 0, none⟩ .returning _ (by exact u0) (by exact u1)).mono ?_
  rintro e u' w'' ⟨rfl, rfl, rfl⟩
  exact ⟨_, results_tmp2 rfl _ _ _, rfl, ⟨q + 1, rfl⟩⟩
theorem own142_of {w : World} {base : Nat} {v : Value} {n : Nat} {xs : List Value} (h : w.ownsRow base 142 2 v n xs) : ∀ c, v.ownBlock = some c → ∃ cs, w.heap[c]? = some (.cells cs 142 (0, 0)) := by
  intro c hc
  rcases h.2 with ⟨e, _⟩ | ⟨c', cap', cs, e, _, hcs, _⟩
  · rw [e] at hc; cases hc
  · rw [e] at hc
    obtain rfl : c' = c := by simpa [Value.ownBlock] using hc
    exact ⟨cs, hcs⟩
theorem own_succ {w : World} {base : Nat} {e : TypeId} {size : Nat} {v : Value} {n : Nat} {xs : List Value} (h : w.ownsRow base e size v (n + 1) xs) : ∃ g cap, v = .slice (some ⟨g, 0, none⟩) (n + 1) cap := by
  rcases h.2 with ⟨_, hn⟩ | ⟨g, cap, cur, rfl, _⟩
  · omega
  · exact ⟨g, cap, rfl⟩
theorem inf142 : (Try.prog.info? 142).map (fun i => (i.zero, i.size, i.bytes)) = some (some (.agg #[.slice none 0 0, .bool false]), 2, 32) := by kernel_rfl
theorem inf5 : (Try.prog.info? 5).map (fun i => (i.zero, i.size, i.bytes)) = some (some (.int .u8 0), 1, 1) := by kernel_rfl
/-- What taking a new block leaves behind. -/
def TookNew (w0 w w' : World) (p m k r : Nat) (bud live : Int) (B : Value) (cells : List Value) : Prop := ∃ v1 b Z,
  w'.heap[p]? = some (.cells #[.int .i32 0, .int .u32 0, .int .i64 bud, v1, .map (some m), .int .i64 (wrap64 (live + r))] 127 (0, 0)) ∧
  w'.ownsRow w0.heap.size 142 2 v1 (k + 1) (cells ++ [.slice (some ⟨b, 0, none⟩) r r, .bool true]) ∧ w'.heap[b]? = some (.cells Z 5 (0, 0)) ∧ Z.size = r ∧ w.heap.size ≤ b ∧
  (∀ i, i < w.heap.size → i ≠ p → some i ≠ B.ownBlock → w'.heap[i]? = w.heap[i]?) ∧ w.heap.size ≤ w'.heap.size ∧ Below w0.heap.size w0 w'
theorem tookNew_end {w0 w W w1 : World} {p m k r g1 cap1 : Nat} {bud live : Int} {B : Value} {cells : List Value}
    (hp1 : w1.heap[p]? = some (.cells #[.int .i32 1, .int .u32 0, .int .i64 bud, B, .map (some m), .int .i64 (wrap64 (live + r))] 127 (0, 0)))
    (hoW : ∀ i, i ≠ p → W.heap[i]? = w.heap[i]?) (hsW : W.heap.size = w.heap.size) (hp0 : w0.heap.size ≤ p) (hB1 : Below w0.heap.size w0 w1)
    (hgr : (W.alloc (.cells (madeCells #[.int .u8 0] r) 5)).drew.grownBy w1 B.ownBlock) (hBb : B.ownBlock ≠ some W.heap.size)
    (hown : w1.ownsRow w0.heap.size 142 2 (.slice (some ⟨g1, 0, none⟩) (k + 1) cap1) (k + 1) (cells ++ [.slice (some ⟨W.heap.size, 0, none⟩) r r, .bool true])) :
    TookNew w0 w ((w1.setCell ⟨p, 3, none⟩ (.slice (some ⟨g1, 0, none⟩) (k + 1) cap1)).setCell ⟨p, 0, none⟩ (.int .i32 0)) p m k r bud live B cells := by
  have hz : ∀ i, i ≠ p → ((w1.setCell ⟨p, 3, none⟩ (.slice (some ⟨g1, 0, none⟩) (k + 1) cap1)).setCell ⟨p, 0, none⟩ (.int .i32 0)).heap[i]? = w1.heap[i]? := fun i hi => (Below.heap_setCell _ _ _ _ hi).trans (Below.heap_setCell _ _ _ _ hi)
  have hgsz : w.heap.size + 1 ≤ w1.heap.size := by
    have := hgr.size
    have e : (W.alloc (.cells (madeCells #[.int .u8 0] r) 5)).drew.heap.size = W.heap.size + 1 := World.size_alloc _ _
    omega
  have hnb : w1.heap[W.heap.size]? = some (.cells (madeCells #[.int .u8 0] r) 5 (0, 0)) := blk_grown (blk_drew (blk_new W _)) hgr (Ne.symm hBb)
  refine ⟨.slice (some ⟨g1, 0, none⟩) (k + 1) cap1, W.heap.size, madeCells #[.int .u8 0] r, blk_put (blk_put hp1 3 _ rfl) 0 _ rfl, ?_, ?_, size_madeCells _ _, by omega, ?_, ?_, ?_⟩
  · refine own_move hown (fun c hc => hz c ?_)
    obtain ⟨cs, hcs⟩ := own142_of hown c hc
    exact blk_ne hcs hp1 (by decide)
  · exact (hz _ (blk_ne hnb hp1 (by decide))).trans hnb
  · intro i hi ip ib
    rw [hz i ip, ← hoW i ip, ← Below.heap_alloc W (.cells (madeCells #[.int .u8 0] r) 5) i (by omega)]
    exact hgr.block i (by show i < (W.alloc _).heap.size; rw [World.size_alloc]; omega) ib
  · rw [World.size_setCell, World.size_setCell]; omega
  · exact (hB1.setCell hp0 _).setCell hp0 _
set_option maxHeartbeats 8000000 in
set_option maxRecDepth 100000 in
theorem take_new {w0 w : World} {p m k r : Nat} {bud live size : Int} {B : Value} {cells : List Value} {G : Int → Option Value} (hp : w.heap[p]? = some (.cells #[.int .i32 0, .int .u32 0, .int .i64 bud, B, .map (some m), .int .i64 live] 127 (0, 0))) (hr : Round size r) (hr0 : 16 ≤ r) (hr1 : r ≤ 65536)
    (ho : ¬ bud < IntKind.i64.wrap (live + r)) (hD : Dict w m G) (hG : G r = none) (hB : w.ownsRow w0.heap.size 142 2 B k cells) (hk : k ≤ 2000) (hb0 : Below w0.heap.size w0 w) (hp0 : w0.heap.size ≤ p) :
    Calls Try.prog 98 #[.pointer (some ⟨p, 0, none⟩), .int .i64 size] w fun e w' => e = .returned (.tuple #[.int .i64 k, .int .i64 0]) ∧ TookNew w0 w w' p m k r bud live B cells := by
  have l0 : w.cell? ⟨p, 0, none⟩ = some (.int .i32 0) := blk_cell hp 0
  have f0 : ∀ j, w.frozen? ⟨p, j, none⟩ = false := fun j => blk_frozen hp j
  have u0 : (w.setCell ⟨p, 0, none⟩ (.int .i32 1)).cell? ⟨p, 0, none⟩ = some (.int .i32 1) := by simp [go_sem, l0]
  have u1 : (w.setCell ⟨p, 0, none⟩ (.int .i32 1)).frozen? ⟨p, 0, none⟩ = false := by simp [f0]
  have u2 : (w.setCell ⟨p, 0, none⟩ (.int .i32 1)).cell? ⟨p, 2, none⟩ = some (.int .i64 bud) := (blk_cell (show (w.setCell ⟨p, 0, none⟩ (.int .i32 1)).heap[p]? = _ from blk_put hp 0 _ rfl) 2).trans rfl
  have u5 : (w.setCell ⟨p, 0, none⟩ (.int .i32 1)).cell? ⟨p, 5, none⟩ = some (.int .i64 live) := (blk_cell (show (w.setCell ⟨p, 0, none⟩ (.int .i32 1)).heap[p]? = _ from blk_put hp 0 _ rfl) 5).trans rfl
  have t1 : decide ((r : Int) < 0) = false := decide_eq_false (by omega)
  have t2 : decide (bud < IntKind.i64.wrap (live + r)) = false := decide_eq_false ho
  have wr : (Lit.int .i64 (r : Int)).wf = true := WalkArith.wf_i64 (by omega)
  have HR := Aside0.mk hr
  clear hr
  go_enter_defers Try.func98, Try.ntmps98
  go_wp2_with (first | (go_at_call 112; refine (lock l0 (f0 0)).mono ?_; rintro e w' ⟨rfl, rfl⟩) | (go_at_call 20; refine (HR.out _).mono ?_; rintro e w' ⟨rfl, q, rfl⟩))
  go_region_held3 (fun W' => W'.cell? ⟨p, 2, none⟩ = some (.int .i64 bud) ∧ W'.cell? ⟨p, 5, none⟩ = some (.int .i64 live)) (first | exact ⟨u2, u5⟩) (first | fail)
  go_upto_region 9 with fail
  obtain ⟨W, hW⟩ : ∃ W, W = (((w.setCell ⟨p, 0, none⟩ (.int .i32 1)).drewN (q + 1)).setCell ⟨p, 5, none⟩ (.int .i64 (wrap64 (live + r)))) := ⟨_, rfl⟩
  rw [← hW]
  have hpW : W.heap[p]? = some (.cells #[.int .i32 1, .int .u32 0, .int .i64 bud, B, .map (some m), .int .i64 (wrap64 (live + r))] 127 (0, 0)) := by
    rw [hW]
    exact blk_put (blk_drewN (blk_put hp 0 (.int .i32 1) rfl) _) 5 _ rfl
  have hoW : ∀ i, i ≠ p → W.heap[i]? = w.heap[i]? := by
    intro i hi
    rw [hW, Below.heap_setCell _ _ _ _ hi]
    exact Below.heap_setCell _ _ _ _ hi
  have hsW : W.heap.size = w.heap.size := by rw [hW, World.size_setCell]; exact World.size_setCell _ _ _
  have hmp : m ≠ p := by
    rintro rfl
    obtain ⟨es, clk, hb, _⟩ := hD
    rw [hp] at hb
    cases hb
  have hDW : Dict W m G := hD.move (hoW m hmp)
  have hBW : Below w0.heap.size w0 W := by
    rw [hW]
    exact (pw_below_drewN (hb0.setCell hp0 _) _).setCell hp0 _
  have hBv : ∀ c, B.ownBlock = some c → c ≠ p := by
    intro c hc
    obtain ⟨cs, hcs⟩ := own142_of hB c hc
    exact blk_ne hcs hp (by decide)
  have hRW : W.ownsRow w0.heap.size 142 2 B k cells := own_move hB (fun c hc => hoW c (hBv c hc))
  have k4 : W.cell? ⟨p, 4, none⟩ = some (.map (some m)) := (blk_cell hpW 4).trans rfl
  have lk : (Instr.lookup 125 (.map (some m)) (.int .i64 r) false).run Try.prog W = .ok (.slice none 0 0) W := by
    have := hDW.look wr
    rw [hG] at this
    exact this
  have hmk := run_make_row' (P := Try.prog) 58 5 (.int .u8 0) 1 Try.underlying58 inf5 rfl .i64 .i64 r (by omega) (by omega)
  clear u0 u1 u2 u5 t1 t2 l0 f0 hW hp HR hD hDW hG
  go_wp2
  have q0 : W.drew.cell? ⟨p, 3, none⟩ = some B := (blk_cell (blk_drew hpW) 3).trans rfl
  have q1 : ∀ o, (W.alloc o).drew.cell? ⟨p, 3, none⟩ = some B := fun o => (blk_cell (blk_drew (blk_alloc hpW o)) 3).trans rfl
  have q2 : ∀ o o', ((W.alloc o).alloc o').drew.cell? ⟨p, 3, none⟩ = some B := fun o o' => (blk_cell (blk_drew (blk_alloc (blk_alloc hpW o) o')) 3).trans rfl
  have hpB : some p ≠ B.ownBlock := fun e => hBv p e.symm rfl
  have KD := Aside0.mk (show ∀ w1, (W.alloc (.cells (madeCells #[.int .u8 0] r) 5)).drew.grownBy w1 B.ownBlock → w1.heap[p]? = some (.cells #[.int .i32 1, .int .u32 0, .int .i64 bud, B, .map (some m), .int .i64 (wrap64 (live + r))] 127 (0, 0)) from fun w1 hgr => blk_grown (blk_drew (blk_alloc hpW _)) hgr hpB)
  have HEND := Aside0.mk (fun w1 g1 cap1 hp1 hB1 hgr hown => tookNew_end (w1 := w1) (g1 := g1) (cap1 := cap1) (k := k) (cells := cells) (m := m) (r := r) (bud := bud) (live := live) hp1 hoW hsW hp0 hB1 hgr (fun e => by
    have := (hRW.lt _ e).2
    omega) hown)
  clear k4 lk hsW hoW
  refine wp_region_noPanic ?_
  go_region_law (refine step_append_cells (w0 := w0) (W := (W.alloc (.cells (madeCells #[.int .u8 0] r) 5)).drew) w0.heap.size (by first | rfl | decide | simp [Region.wanted]) (.tmp 54) (.tmp 58) 124 142 (.agg #[.slice none 0 0, .bool false]) 2 32 rfl Try.underlying124 inf142 rfl (by decide) (by decide) B k cells [.slice (some ⟨W.heap.size, 0, none⟩) r r, .bool true] (by simp [Act.eval]) (by simp [Act.eval]) rfl (by simp [Value.oneCell']) (hRW.alloc _) (below_drew (below_alloc hBW _)) (show w0.heap.size ≤ (W.alloc _).heap.size from by rw [World.size_alloc]; exact Nat.le_succ_of_le hBW.size) (by omega) ?_; intro v1 w1 hown1 hB1 hgr1 hat1; have hp1 := KD.out w1 hgr1; have k51 : w1.cell? ⟨p, 3, none⟩ = some B := (blk_cell hp1 3).trans rfl; have k52 : w1.frozen? ⟨p, 3, none⟩ = false := blk_frozen hp1 3; obtain ⟨g1, cap1, rfl⟩ := own_succ hown1)
  all_goals
    refine NoPanic.normal ?_
    have hp2 := blk_put hp1 3 (.slice (some ⟨g1, 0, none⟩) (k + 1) cap1) rfl
    have v0 := (blk_cell hp2 0).trans rfl
    have v1 := blk_frozen hp2 0
    clear hp2 q0 q1 q2 hRW hBW hB hb0 hmk
    go_wp2
    refine leaves_cons (f := 113) (args := #[.pointer (some ⟨p, 0, none⟩)]) (by simp) (by simp [go_sem]) ?_
    refine (Mx.unlock_deferred ⟨p, 0, none⟩ .returning _ v0 v1).mono ?_
    rintro e u' w'' ⟨rfl, rfl, rfl⟩
    exact ⟨_, results_tmp2 rfl _ _ _, rfl, HEND.out w1 g1 cap1 hp1 hB1 hgr1 hown1⟩
end Go.Proofs.Ytpmdgmnpkdoamaa.Pl
