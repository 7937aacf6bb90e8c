/- Proved here: what impl's pool does when a free block is taken again. Conditions: the pool's blocks lie as told. -/
import Derived.Test.YtpmdgmnpkdoamaaPool
import Derived.Test.YtpmdgmnpkdoamaaLaid
import Derived.Lib.SliceRun
namespace Go.Proofs.Ytpmdgmnpkdoamaa.Pl
open Go Go.RowKit Go.Shelf Go.Sort Go.Proofs.YtpmdgmnpkdoamaaW.PrintWords
set_option linter.unusedVariables false
set_option linter.unusedSimpArgs false
theorem step_clear {P : Program} {ops : Array Oper} {o : Oper} {a : Act} {w w' : World} {K : Act → World → Prop} {Q : Exit → Act → World → Prop} {E : Prop} (hg : o.guard = none) (s : Operand) (t : TypeId)
    (hop : o.op = Op.call { callee := Callee.builtin Builtin.clear, args := #[s], argTypes := #[t] }) (v : Value) (hs : a.eval s = v) (hrun : ∀ ty, (Builtin.clear_ #[t] ty #[v]).run P w = .ok (.tuple #[]) w') (hK : K (a.put o.dst (.tuple #[])) w') :
    if Region.wanted o (yielded ops a.tmps) = true then Oper.wp P o a w K Q else E := by
  have hw : Region.wanted o (yielded ops a.tmps) = true := by simp [Region.wanted, hg]
  rw [if_pos hw]
  unfold Oper.wp
  simp [execOp, hop, resolve, invoke, builtin, hs, hrun, Result.andThen]
  exact hK
/-- The closure of take: is x the one? -/
theorem gives118 (mn x : Int) (B : Nat) (W : World) (hc : W.cell? ⟨B, 0, none⟩ = some (.int .i64 mn)) :
    FnGives Try.prog 118 #[.pointer (some ⟨B, 0, none⟩)] #[.int .i64 x] (.bool (x == mn)) W := by
  show Calls Try.prog 118 #[.int .i64 x, .pointer (some ⟨B, 0, none⟩)] W _
  go_enter Try.func118, Try.ntmps118
  go_wp2
  all_goals (go_ret; exact ⟨by first | rfl | simp_all, 0, rfl⟩)
theorem pred118 (mn : Int) (B : Nat) (w : World) (hB : B < w.heap.size) (hcell : w.cell? ⟨B, 0, none⟩ = some (.int .i64 mn)) :
    PredAt Try.prog 118 #[.pointer (some ⟨B, 0, none⟩)] (Value.int .i64) (fun x => x == mn) w :=
  fun W x hb => gives118 mn x B W ((hb.cell (p := ⟨B, 0, none⟩) hB).trans hcell)
theorem over118 (mn : Int) (B blk off size : Nat) (w : World) (hB : B < w.heap.size) (hne : B ≠ blk) (hcell : w.cell? ⟨B, 0, none⟩ = some (.int .i64 mn)) :
    PredOver Try.prog 118 #[.pointer (some ⟨B, 0, none⟩)] (Value.int .i64) (fun x => x == mn) blk off size w :=
  fun n os dk x _ => gives118 mn x B _ (by
    unfold sortWorld
    rw [cell?_grow _ _ _ (by show B < (putRow _ _ _ _ _).heap.size; rw [size_putRow]; exact hB), cell?_putRow_other _ _ blk off _ _ (Or.inl hne)]
    exact hcell)
theorem heap_putRow_other (enc : Int → Value) (w : World) (blk off : Nat) (d : Array Int) (i : Nat) (h : i ≠ blk) : (putRow enc w blk off d).heap[i]? = w.heap[i]? := by
  simp only [putRow, mapBlock, Array.getElem?_modify]
  rw [if_neg (fun e => h e.symm)]
theorem heap_putRow_same (enc : Int → Value) (w : World) (blk off : Nat) (d : Array Int) {cs : Array Value} {t : TypeId} (h : w.heap[blk]? = some (.cells cs t (0, 0))) :
    (putRow enc w blk off d).heap[blk]? = some (.cells (putCells enc off d cs) t (0, 0)) := by
  simp only [putRow, mapBlock, Array.getElem?_modify, if_true, h]
  rfl
theorem own_put {w : World} {base c n cap : Nat} {L L' Z : List Int} (h : w.ownsRow base 3 1 (.slice (some ⟨c, 0, none⟩) n cap) n (L.map (Value.int .i64))) (hn : L'.length + Z.length = L.length) :
    (putRow (Value.int .i64) w c 0 (L' ++ Z).toArray).ownsRow base 3 1 (.slice (some ⟨c, 0, none⟩) L'.length cap) L'.length (L'.map (Value.int .i64)) := by
  have hl := h.1
  rcases h.2 with ⟨e, _⟩ | ⟨c', cap', cs, e, hb, hcs, h1, h2, h3, h4⟩
  · cases e
  · simp only [Value.slice.injEq, Option.some.injEq, Addr.mk.injEq, and_true, true_and] at e
    obtain ⟨rfl, rfl⟩ := e
    simp only [List.length_map, Nat.mul_one] at hl h3
    refine ⟨by simp, .inr ⟨c, cap, _, rfl, hb, heap_putRow_same _ _ _ _ _ hcs, by omega, h2, by simp [putCells, h3], ?_⟩⟩
    apply List.ext_getElem?
    intro i
    rw [Nat.mul_one, List.getElem?_take]
    by_cases hi : i < L'.length
    · rw [if_pos hi]
      have hic : i < cs.size := by omega
      simp only [putCells, Array.getElem?_toList, Array.getElem?_mapIdx, List.getElem?_map]
      rw [Array.getElem?_eq_getElem hic, List.getElem?_eq_getElem hi]
      simp only [Option.map_some, Nat.zero_le, true_and, Nat.zero_add, List.size_toArray, List.length_append, Nat.sub_zero]
      rw [if_pos (by omega)]
      congr 2
      rw [getElem!_pos _ i (by simp; omega)]
      simp [List.getElem_append_left hi]
    · rw [if_neg hi, List.getElem?_map, List.getElem?_eq_none (by omega)]
      rfl
/-- The world behind DeleteFunc. -/
structure Del (w0 W w' : World) (p m g c cap b k gcap r : Nat) (mn bud lv : Int) (cur Z0 : Array Value) (G : Int → Option Value) (L' : List Int) : Prop where
  hp : w'.heap[p]? = some (.cells #[.int .i32 1, .int .u32 0, .int .i64 bud, .slice (some ⟨g, 0, none⟩) k gcap, .map (some m), .int .i64 lv] 127 (0, 0))
  hg : w'.heap[g]? = some (.cells cur 142 (0, 0))
  hb : w'.heap[b]? = some (.cells Z0 5 (0, 0))
  hn : w'.heap[W.heap.size]? = some (.cells #[.int .i64 mn] 3 (0, 0))
  hD : Dict w' m G
  hL : w'.ownsRow w0.heap.size 3 1 (.slice (some ⟨c, 0, none⟩) L'.length cap) L'.length (L'.map (Value.int .i64))
  ho : ∀ i, i < W.heap.size → i ≠ c → w'.heap[i]? = W.heap[i]?
  hs : w'.heap.size = W.heap.size + 1
  hB : Below w0.heap.size w0 w'
theorem del_of {w0 W : World} {p m g c cap b k gcap r : Nat} {mn bud lv : Int} {cur Z0 : Array Value} {G : Int → Option Value} {L : List Int}
    (hp : W.heap[p]? = some (.cells #[.int .i32 1, .int .u32 0, .int .i64 bud, .slice (some ⟨g, 0, none⟩) k gcap, .map (some m), .int .i64 lv] 127 (0, 0))) (hg : W.heap[g]? = some (.cells cur 142 (0, 0))) (hb : W.heap[b]? = some (.cells Z0 5 (0, 0)))
    (hD : Dict W m G) (hL : W.ownsRow w0.heap.size 3 1 (.slice (some ⟨c, 0, none⟩) L.length cap) L.length (L.map (Value.int .i64))) (hB : Below w0.heap.size w0 W) (q2 : Nat) :
    Del w0 W (putRow (Value.int .i64) (Sort.ahead (W.alloc (.cells #[.int .i64 mn] 3)) q2) c 0 ((L.filter fun x => !(x == mn)) ++ List.replicate (L.length - (L.filter fun x => !(x == mn)).length) 0).toArray) p m g c cap b k gcap r mn bud lv cur Z0 G (L.filter fun x => !(x == mn)) := by
  obtain ⟨cs, hcs⟩ := own3_of hL c rfl
  have hc := blk_lt hcs
  have hc0 : w0.heap.size ≤ c := (hL.lt c rfl).1
  have ho : ∀ i, i ≠ c → (putRow (Value.int .i64) (Sort.ahead (W.alloc (.cells #[.int .i64 mn] 3)) q2) c 0 ((L.filter fun x => !(x == mn)) ++ List.replicate (L.length - (L.filter fun x => !(x == mn)).length) 0).toArray).heap[i]? = (W.alloc (.cells #[.int .i64 mn] 3)).heap[i]? := fun i hi => heap_putRow_other _ _ _ _ _ _ hi
  have ho2 : ∀ i, i < W.heap.size → i ≠ c → (putRow (Value.int .i64) (Sort.ahead (W.alloc (.cells #[.int .i64 mn] 3)) q2) c 0 ((L.filter fun x => !(x == mn)) ++ List.replicate (L.length - (L.filter fun x => !(x == mn)).length) 0).toArray).heap[i]? = W.heap[i]? := fun i hi hic => (ho i hic).trans (Below.heap_alloc W _ i hi)
  have hmc : m ≠ c := by
    rintro rfl
    obtain ⟨es, clk, hb, _⟩ := hD
    rw [hcs] at hb
    cases hb
  have hle : (L.filter fun x => !(x == mn)).length ≤ L.length := List.length_filter_le _ _
  refine ⟨(ho2 p (blk_lt hp) (blk_ne hp hcs (by decide))).trans hp, (ho2 g (blk_lt hg) (blk_ne hg hcs (by decide))).trans hg, (ho2 b (blk_lt hb) (blk_ne hb hcs (by decide))).trans hb, (ho _ (by omega)).trans (blk_new W _), hD.move (ho2 m hD.lt hmc), ?_, ho2, ?_, ?_⟩
  · exact own_put (show (Sort.ahead (W.alloc (.cells #[.int .i64 mn] 3)) q2).ownsRow _ _ _ _ _ _ from hL.alloc _) (by rw [List.length_replicate]; omega)
  · rw [size_putRow]; exact World.size_alloc _ _
  · refine ⟨hB.os, hB.tape, hB.output, ?_, fun i hi => ?_⟩
    · rw [size_putRow]
      have := hB.size
      have e : (Sort.ahead (W.alloc (.cells #[.int .i64 mn] 3)) q2).heap.size = W.heap.size + 1 := World.size_alloc _ _
      omega
    · have := hB.size
      exact (ho2 i (by omega) (by omega)).trans (hB.block i hi)
theorem setCells_other {b i : Nat} (hi : i ≠ b) : ∀ (vs : List Value) (s : Nat) (w : World), (w.setCells b s vs).heap[i]? = w.heap[i]?
  | [], _, _ => rfl
  | v :: vs, s, w => by rw [World.setCells]; exact (setCells_other hi vs (s + 1) _).trans (Below.heap_setCell _ _ _ _ hi)
theorem setCells_same {b : Nat} {t : TypeId} : ∀ (vs : List Value) (s : Nat) (w : World) (Z : Array Value), w.heap[b]? = some (.cells Z t (0, 0)) → ∃ Z', Z'.size = Z.size ∧ (w.setCells b s vs).heap[b]? = some (.cells Z' t (0, 0))
  | [], _, _, Z, h => ⟨Z, rfl, h⟩
  | v :: vs, s, w, Z, h => by
    obtain ⟨Z', hz, h'⟩ := setCells_same vs (s + 1) _ _ (blk_set h s v)
    exact ⟨Z', by rw [hz]; simp, by rw [World.setCells]; exact h'⟩
theorem setCells_size {b : Nat} : ∀ (vs : List Value) (s : Nat) (w : World), (w.setCells b s vs).heap.size = w.heap.size
  | [], _, _ => rfl
  | v :: vs, s, w => by rw [World.setCells, setCells_size vs (s + 1) _, World.size_setCell]
theorem setCells_below {a : World} {B b : Nat} (hb : B ≤ b) : ∀ (vs : List Value) (s : Nat) (w : World), Below B a w → Below B a (w.setCells b s vs)
  | [], _, _, h => h
  | v :: vs, s, w, h => by rw [World.setCells]; exact setCells_below hb vs (s + 1) _ (h.setCell hb _)
/-- What taking a free block again leaves behind. -/
def TookOld (w0 w w' : World) (p m g c cap b k gcap r : Nat) (mn bud live : Int) (cur : Array Value) (G : Int → Option Value) (L' : List Int) : Prop := ∃ Z',
  w'.heap[p]? = some (.cells #[.int .i32 0, .int .u32 0, .int .i64 bud, .slice (some ⟨g, 0, none⟩) k gcap, .map (some m), .int .i64 (wrap64 (live + r))] 127 (0, 0)) ∧
  w'.heap[g]? = some (.cells (cur.setIfInBounds (mn.toNat * 2 + 1) (.bool true)) 142 (0, 0)) ∧ w'.heap[b]? = some (.cells Z' 5 (0, 0)) ∧ Z'.size = r ∧
  Dict w' m (fun q => if q = r then (if L'.length = 0 then none else some (.slice (some ⟨c, 0, none⟩) L'.length cap)) else G q) ∧
  w'.ownsRow w0.heap.size 3 1 (.slice (some ⟨c, 0, none⟩) L'.length cap) L'.length (L'.map (Value.int .i64)) ∧
  (∀ i, i < w.heap.size → i ≠ p → i ≠ g → i ≠ b → i ≠ c → i ≠ m → w'.heap[i]? = w.heap[i]?) ∧ w.heap.size ≤ w'.heap.size ∧ Below w0.heap.size w0 w'
theorem tookOld_end {w0 w W w' : World} {p m g c cap b k gcap r : Nat} {mn bud live : Int} {cur Z0 : Array Value} {G G' : Int → Option Value} {L' : List Int} {es : Array MapEntry} {ck : Nat} (vs : List Value)
    (hdel : Del w0 W w' p m g c cap b k gcap r mn bud (wrap64 (live + r)) cur Z0 G L') (hZ : Z0.size = r) (h2 : ∀ i, i ≠ m → (ChangeMaps.setBlock w' m (.map es ck)).heap[i]? = w'.heap[i]?) (hD : Dict (ChangeMaps.setBlock w' m (.map es ck)) m G')
    (hG : G' = fun q : Int => if q = r then (if L'.length = 0 then none else some (.slice (some ⟨c, 0, none⟩) L'.length cap)) else G q) (hoW : ∀ i, i ≠ p → W.heap[i]? = w.heap[i]?) (hsW : W.heap.size = w.heap.size) (hp0 : w0.heap.size ≤ p) (hg0 : w0.heap.size ≤ g) (hb0 : w0.heap.size ≤ b) (hm0 : w0.heap.size ≤ m) :
    TookOld w0 w (((((ChangeMaps.setBlock w' m (.map es ck)).drew.setCells b 0 vs).drew.setCell ⟨g, mn.toNat * 2 + 1, none⟩ (.bool true)).setCell ⟨p, 0, none⟩ (.int .i32 0))) p m g c cap b k gcap r mn bud live cur G L' := by
  subst hG
  have hmm : ∃ (e0 : Array MapEntry) (c0 : Nat), w'.heap[m]? = some (.map e0 c0) := by
    obtain ⟨e0, c0, h, _⟩ := hdel.hD
    exact ⟨e0, c0, h⟩
  obtain ⟨e0, c0, hmm⟩ := hmm
  have ne : ∀ {i : Nat} {cs : Array Value} {t : TypeId}, w'.heap[i]? = some (.cells cs t (0, 0)) → i ≠ m := by
    rintro i cs t h rfl
    rw [hmm] at h
    cases h
  have hpg : p ≠ g := blk_ne hdel.hp hdel.hg (by decide)
  have hpb : p ≠ b := blk_ne hdel.hp hdel.hb (by decide)
  have hgb : g ≠ b := blk_ne hdel.hg hdel.hb (by decide)
  have p1 := (h2 p (ne hdel.hp)).trans hdel.hp
  have g1 := (h2 g (ne hdel.hg)).trans hdel.hg
  have b1 := (h2 b (ne hdel.hb)).trans hdel.hb
  have oth : ∀ i, i ≠ p → i ≠ g → i ≠ b → (((((ChangeMaps.setBlock w' m (.map es ck)).drew.setCells b 0 vs).drew.setCell ⟨g, mn.toNat * 2 + 1, none⟩ (.bool true)).setCell ⟨p, 0, none⟩ (.int .i32 0))).heap[i]? = (ChangeMaps.setBlock w' m (.map es ck)).heap[i]? := by
    intro i ip ig ib
    rw [Below.heap_setCell _ _ _ _ ip, Below.heap_setCell _ _ _ _ ig]
    exact setCells_other ib vs 0 _
  obtain ⟨Z', hz1, hz2⟩ := setCells_same vs 0 (ChangeMaps.setBlock w' m (.map es ck)).drew Z0 b1
  have p2 : ((ChangeMaps.setBlock w' m (.map es ck)).drew.setCells b 0 vs).drew.heap[p]? = _ := (setCells_other hpb vs 0 _).trans p1
  have g2 : ((ChangeMaps.setBlock w' m (.map es ck)).drew.setCells b 0 vs).drew.heap[g]? = _ := (setCells_other hgb vs 0 _).trans g1
  refine ⟨Z', blk_put (blk_far p2 hpg _) 0 _ rfl, blk_far (blk_set g2 _ _) (Ne.symm hpg) _, ?_, hz1.trans hZ, ?_, ?_, ?_, ?_, ?_⟩
  · exact (Below.heap_setCell _ _ _ _ (Ne.symm hpb)).trans ((Below.heap_setCell _ _ _ _ (Ne.symm hgb)).trans hz2)
  · exact hD.move (oth m (Ne.symm (ne hdel.hp)) (Ne.symm (ne hdel.hg)) (Ne.symm (ne hdel.hb)))
  · refine own_move hdel.hL (fun i hi => ?_)
    obtain ⟨cs, hcs⟩ := own3_of hdel.hL i hi
    exact (oth i (blk_ne hcs hdel.hp (by decide)) (blk_ne hcs hdel.hg (by decide)) (blk_ne hcs hdel.hb (by decide))).trans (h2 i (ne hcs))
  · intro i hi ip ig ib ic im
    exact (oth i ip ig ib).trans ((h2 i im).trans ((hdel.ho i (by omega) ic).trans (hoW i ip)))
  · rw [World.size_setCell, World.size_setCell]
    have : ((ChangeMaps.setBlock w' m (.map es ck)).drew.setCells b 0 vs).drew.heap.size = w'.heap.size := (setCells_size vs 0 _).trans (by simp [ChangeMaps.setBlock, World.drew])
    have := hdel.hs
    omega
  · have hB := hdel.hB
    have hB2 : Below w0.heap.size w0 (ChangeMaps.setBlock w' m (.map es ck)) := ⟨hB.os, hB.tape, hB.output, by simp [ChangeMaps.setBlock]; exact hB.size, fun i hi => (h2 i (by omega)).trans (hB.block i hi)⟩
    exact ((below_drew (setCells_below hb0 vs 0 _ (below_drew hB2))).setCell hg0 _).setCell hp0 _
set_option maxHeartbeats 8000000 in
set_option maxRecDepth 100000 in
theorem take_old {w0 w : World} {p m g gcap k r c cap b : Nat} {bud live size : Int} {cur Z0 : Array Value} {G : Int → Option Value} {L : List Int} (hp : w.heap[p]? = some (.cells #[.int .i32 0, .int .u32 0, .int .i64 bud, .slice (some ⟨g, 0, none⟩) k gcap, .map (some m), .int .i64 live] 127 (0, 0))) (hr : Round size r) (hr0 : 16 ≤ r) (hr1 : r ≤ 65536)
    (ho : ¬ bud < IntKind.i64.wrap (live + r)) (hD : Dict w m G) (hG : G r = some (.slice (some ⟨c, 0, none⟩) L.length cap)) (hL : w.ownsRow w0.heap.size 3 1 (.slice (some ⟨c, 0, none⟩) L.length cap) L.length (L.map (Value.int .i64))) (hL0 : 0 < L.length) (hL1 : L.length ≤ 2000)
    (hg : w.heap[g]? = some (.cells cur 142 (0, 0))) (hk : k ≤ 2000) (hn0 : 0 ≤ Lib.minOf L) (hn1 : Lib.minOf L < k) (hc0 : cur[(Lib.minOf L).toNat * 2]? = some (.slice (some ⟨b, 0, none⟩) r r)) (hc1 : (cur[(Lib.minOf L).toNat * 2 + 1]?).isSome = true)
    (hbb : w.heap[b]? = some (.cells Z0 5 (0, 0))) (hZ0 : Z0.size = r) (hb0 : Below w0.heap.size w0 w) (hp0 : w0.heap.size ≤ p) (hg0 : w0.heap.size ≤ g) (hm0 : w0.heap.size ≤ m) (hbb0 : w0.heap.size ≤ b) :
    Calls Try.prog 98 #[.pointer (some ⟨p, 0, none⟩), .int .i64 size] w fun e w' => e = .returned (.tuple #[.int .i64 (Lib.minOf L), .int .i64 0]) ∧ TookOld w0 w w' p m g c cap b k gcap r (Lib.minOf L) bud live cur G (L.filter fun x => !(x == Lib.minOf L)) := by
  have l0 : w.cell? ⟨p, 0, none⟩ = some (.int .i32 0) := blk_cell hp 0
  have f0 : ∀ j, w.frozen? ⟨p, j, none⟩ = false := fun j => blk_frozen hp j
  have u0 : (w.setCell ⟨p, 0, none⟩ (.int .i32 1)).cell? ⟨p, 0, none⟩ = some (.int .i32 1) := by simp [go_sem, l0]
  have u1 : (w.setCell ⟨p, 0, none⟩ (.int .i32 1)).frozen? ⟨p, 0, none⟩ = false := by simp [f0]
  have u2 : (w.setCell ⟨p, 0, none⟩ (.int .i32 1)).cell? ⟨p, 2, none⟩ = some (.int .i64 bud) := (blk_cell (show (w.setCell ⟨p, 0, none⟩ (.int .i32 1)).heap[p]? = _ from blk_put hp 0 _ rfl) 2).trans rfl
  have u5 : (w.setCell ⟨p, 0, none⟩ (.int .i32 1)).cell? ⟨p, 5, none⟩ = some (.int .i64 live) := (blk_cell (show (w.setCell ⟨p, 0, none⟩ (.int .i32 1)).heap[p]? = _ from blk_put hp 0 _ rfl) 5).trans rfl
  have t1 : decide ((r : Int) < 0) = false := decide_eq_false (by omega)
  have t2 : decide (bud < IntKind.i64.wrap (live + r)) = false := decide_eq_false ho
  have wr : (Lit.int .i64 (r : Int)).wf = true := WalkArith.wf_i64 (by omega)
  have HR := Aside0.mk hr
  clear hr
  go_enter_defers Try.func98, Try.ntmps98
  go_wp2_with (first | (go_at_call 112; refine (lock l0 (f0 0)).mono ?_; rintro e w' ⟨rfl, rfl⟩) | (go_at_call 20; refine (HR.out _).mono ?_; rintro e w' ⟨rfl, q, rfl⟩))
  go_region_held3 (fun W' => W'.cell? ⟨p, 2, none⟩ = some (.int .i64 bud) ∧ W'.cell? ⟨p, 5, none⟩ = some (.int .i64 live)) (first | exact ⟨u2, u5⟩) (first | fail)
  go_upto_region 9 with fail
  obtain ⟨W, hW⟩ : ∃ W, W = (((w.setCell ⟨p, 0, none⟩ (.int .i32 1)).drewN (q + 1)).setCell ⟨p, 5, none⟩ (.int .i64 (wrap64 (live + r)))) := ⟨_, rfl⟩
  rw [← hW]
  have hpW : W.heap[p]? = some (.cells #[.int .i32 1, .int .u32 0, .int .i64 bud, .slice (some ⟨g, 0, none⟩) k gcap, .map (some m), .int .i64 (wrap64 (live + r))] 127 (0, 0)) := by
    rw [hW]
    exact blk_put (blk_drewN (blk_put hp 0 (.int .i32 1) rfl) _) 5 _ rfl
  have hoW : ∀ i, i ≠ p → W.heap[i]? = w.heap[i]? := by
    intro i hi
    rw [hW, Below.heap_setCell _ _ _ _ hi]
    exact Below.heap_setCell _ _ _ _ hi
  have hsW : W.heap.size = w.heap.size := by rw [hW, World.size_setCell]; exact World.size_setCell _ _ _
  have hmp : m ≠ p := by
    rintro rfl
    obtain ⟨es, clk, hb, _⟩ := hD
    rw [hp] at hb
    cases hb
  obtain ⟨cs, hcs⟩ := own3_of hL c rfl
  have hcp : c ≠ p := blk_ne hcs hp (by decide)
  have hDW : Dict W m G := hD.move (hoW m hmp)
  have hBW : Below w0.heap.size w0 W := by
    rw [hW]
    exact (pw_below_drewN (hb0.setCell hp0 _) _).setCell hp0 _
  have hLW : W.ownsRow w0.heap.size 3 1 (.slice (some ⟨c, 0, none⟩) L.length cap) L.length (L.map (Value.int .i64)) := own_move hL (fun c' hc' => by
    obtain rfl : c = c' := by simpa [Value.ownBlock] using hc'
    exact hoW _ hcp)
  have k4 : W.cell? ⟨p, 4, none⟩ = some (.map (some m)) := (blk_cell hpW 4).trans rfl
  have lk : (Instr.lookup 125 (.map (some m)) (.int .i64 r) false).run Try.prog W = .ok (.slice (some ⟨c, 0, none⟩) L.length cap) W := by
    have := hDW.look wr
    rw [hG] at this
    exact this
  obtain ⟨mn, hmn⟩ : ∃ mn, mn = Lib.minOf L := ⟨_, rfl⟩
  have HMN := Aside0.mk (show Calls Try.prog 116 #[.slice (some ⟨c, 0, none⟩) L.length cap] W fun e w' => e = .returned (.int .i64 mn) ∧ w' = W from by
    have := Any.slices_Min_int layMin c 0 L.length cap L W hL0 (Nat.le_refl _) (by omega) (fun j hj => by
      rw [Nat.zero_add, hLW.cellAt j (by omega), List.getElem?_map, List.getElem?_eq_getElem hj, List.getD_eq_getElem?_getD, List.getElem?_eq_getElem hj]
      rfl)
    rw [List.take_length, ← hmn] at this
    exact this)
  have HM2 := Aside0.mk hmn
  have hgp : g ≠ p := blk_ne hg hp (by decide)
  have hbp : b ≠ p := blk_ne hbb hp (by decide)
  have HDEL := Aside0.mk (show Calls Try.prog 117 #[.slice (some ⟨c, 0, none⟩) L.length cap, .func (.func 118) #[] #[.pointer (some ⟨W.heap.size, 0, none⟩)]] (W.alloc (.cells #[.int .i64 mn] 3)) fun e w' => e = .returned (.slice (some ⟨c, 0, none⟩) (L.filter fun x => !(x == mn)).length cap) ∧
      Del w0 W w' p m g c cap b k gcap r mn bud (wrap64 (live + r)) cur Z0 G (L.filter fun x => !(x == mn)) from by
    have hcW := (hLW.lt c rfl).2
    have eg : ∀ args w, (callFunc 118 args).run Try.prog w = .ok (.enter 118 args) w := enters_of Try.func118 (by kernel_rfl) rfl
    have hcell : (W.alloc (.cells #[.int .i64 mn] 3)).cell? ⟨W.heap.size, 0, none⟩ = some (.int .i64 mn) := (blk_cell (blk_new W _) 0).trans rfl
    have := AnyE.slices_DeleteFunc layDel (Value.int .i64) (fun _ => rfl) (fun x => x == mn) 118 #[.pointer (some ⟨W.heap.size, 0, none⟩)] eg 0 (fun w => Try.zeroValue3 w) c 0 cap L.toArray (W.alloc (.cells #[.int .i64 mn] 3))
      (pred118 mn W.heap.size _ (by simp) hcell) (over118 mn W.heap.size c 0 _ _ (by simp) (by omega) hcell)
      (fun j hj => by
        have hj' : j < L.length := by simpa using hj
        rw [Nat.zero_add, getElem!_pos L.toArray j hj]
        refine ⟨?_, (hLW.alloc (.cells #[.int .i64 mn] 3)).frozenAt j⟩
        rw [(hLW.alloc (.cells #[.int .i64 mn] 3)).cellAt j (by omega), List.getElem?_map, List.getElem?_eq_getElem hj']
        rfl) (by simp; omega) (by
        rcases hLW.2 with ⟨e, _⟩ | ⟨_, _, _, e, _, _, h1, _⟩
        · cases e
        · simp only [Value.slice.injEq] at e
          obtain ⟨_, _, rfl⟩ := e
          simpa using h1)
    refine Calls.mono this ?_
    rintro e w' ⟨rfl, q2, rfl⟩
    exact ⟨rfl, del_of hpW ((hoW g hgp).trans hg) ((hoW b hbp).trans hbb) hDW hLW hBW q2⟩)
  have HOW := Aside0.mk (And.intro hoW hsW)
  have hc0' : cur[mn.toNat * 2]? = some (.slice (some ⟨b, 0, none⟩) r r) := by rw [hmn]; exact hc0
  have hn0' : 0 ≤ mn := by omega
  have hn1' : mn < k := by omega
  have hc1' : (cur[mn.toNat * 2 + 1]?).isSome = true := by rw [hmn]; exact hc1
  have d1 : decide ((L.length : Int) = 0) = false := decide_eq_false (by omega)
  have d2 : ((L.length : Int) == 0) = false := by rw [beq_eq_false_iff_ne]; omega
  obtain ⟨L', hL'⟩ : ∃ L', L' = L.filter fun x => !(x == mn) := ⟨_, rfl⟩
  rw [← hL'] at HDEL
  have HLL := Aside0.mk hL'
  clear u0 u1 u2 u5 t1 t2 l0 f0 hW hp HR hD hG hsW hmn hL' hc0 hc1 hn0 hn1
  by_cases hl : L'.length = 0
  · have d3 : ((L'.length : Int) == 0) = true := by rw [beq_iff_eq]; omega
    go_wp2_with (first | (go_at_call 116; refine HMN.out.mono ?_; rintro e w' ⟨rfl, hw'⟩; rw [hw']; clear hw') | (go_at_call 117; refine HDEL.out.mono ?_; rintro e w' ⟨rfl, hdel⟩; have x4 : w'.cell? ⟨p, 4, none⟩ = some (.map (some m)) := (blk_cell hdel.hp 4).trans rfl; obtain ⟨es1, ck1, hrun, hs1, hs2, hs3⟩ := hdel.hD.del wr 0))
    have ne : ∀ {i : Nat} {cs : Array Value} {t : TypeId}, w'.heap[i]? = some (.cells cs t (0, 0)) → i ≠ m := by
      rintro i cs t h rfl
      obtain ⟨e0, c0, hmm, _⟩ := hdel.hD
      rw [hmm] at h
      cases h
    have p3 := (hs2 p (ne hdel.hp)).trans hdel.hp
    have g3 := (hs2 g (ne hdel.hg)).trans hdel.hg
    have b3 := (hs2 b (ne hdel.hb)).trans hdel.hb
    have n3 := (hs2 W.heap.size (ne hdel.hn)).trans hdel.hn
    have HE := Aside0.mk (fun vs => tookOld_end (L' := L') vs hdel hZ0 hs2 hs3 (by funext q; simp [hl]) HOW.out.1 HOW.out.2 hp0 hg0 hbb0 hm0)
    obtain ⟨W3, hW3⟩ : ∃ W3, W3 = ChangeMaps.setBlock w' m (.map es1 ck1) := ⟨_, rfl⟩
    rw [← hW3] at p3 g3 b3 n3 HE ⊢
    clear hW3 hs1 hs2 hs3 hrun hdel x4 hl d1 d2 d3 lk k4 hLW hDW hBW hpW hoW hL hb0
    have hbp' : b ≠ p := blk_ne b3 p3 (by decide)
    have hbg' : b ≠ g := blk_ne b3 g3 (by decide)
    have hbn' : b ≠ W.heap.size := blk_ne b3 n3 (by decide)
    have a1 : W3.cell? ⟨p, 3, none⟩ = some (.slice (some ⟨g, 0, none⟩) k gcap) := (blk_cell p3 3).trans rfl
    have a2 : W3.cell? ⟨W.heap.size, 0, none⟩ = some (.int .i64 mn) := (blk_cell n3 0).trans rfl
    have a3 : W3.cell? ⟨g, mn.toNat * 2, none⟩ = some (.slice (some ⟨b, 0, none⟩) r r) := (blk_cell g3 _).trans hc0'
    have b4 : (W3.drew.setCells b 0 (List.replicate r (.int .u8 0))).heap[p]? = _ := (setCells_other (Ne.symm hbp') _ 0 _).trans p3
    have b5 : (W3.drew.setCells b 0 (List.replicate r (.int .u8 0))).heap[g]? = _ := (setCells_other (Ne.symm hbg') _ 0 _).trans g3
    have b6 : (W3.drew.setCells b 0 (List.replicate r (.int .u8 0))).heap[W.heap.size]? = _ := (setCells_other (Ne.symm hbn') _ 0 _).trans n3
    have c1 : (W3.drew.setCells b 0 (List.replicate r (.int .u8 0))).cell? ⟨p, 3, none⟩ = some (.slice (some ⟨g, 0, none⟩) k gcap) := (blk_cell b4 3).trans rfl
    have c2 : (W3.drew.setCells b 0 (List.replicate r (.int .u8 0))).cell? ⟨W.heap.size, 0, none⟩ = some (.int .i64 mn) := (blk_cell b6 0).trans rfl
    have c3 : (W3.drew.setCells b 0 (List.replicate r (.int .u8 0))).cell? ⟨g, mn.toNat * 2, none⟩ = some (.slice (some ⟨b, 0, none⟩) r r) := (blk_cell b5 _).trans hc0'
    have HCL := Aside0.mk (show ∀ ty, (Builtin.clear_ #[58] ty #[.slice (some ⟨b, 0, none⟩) r r]).run Try.prog W3.drew = .ok (.tuple #[]) (W3.drew.setCells b 0 (List.replicate r (.int .u8 0))) from fun ty =>
      Lib.run_clear_slice W3.drew 58 5 ty (.int .u8 0) Try.underlying58 (fun w => Try.zeroValue5 w) rfl rfl b 0 r r (by omega) (fun j hj => by
        rw [Nat.zero_add, blk_cell (blk_drew b3) j, Array.getElem?_eq_getElem (by omega)]; rfl) (fun j _ => blk_frozen (blk_drew b3) _))
    go_region_held3 (fun W' => W'.cell? ⟨p, 3, none⟩ = some (.slice (some ⟨g, 0, none⟩) k gcap) ∧ W'.cell? ⟨W.heap.size, 0, none⟩ = some (.int .i64 mn) ∧ W'.cell? ⟨g, mn.toNat * 2, none⟩ = some (.slice (some ⟨b, 0, none⟩) r r)) (first | exact ⟨a1, a2, a3⟩ | exact ⟨c1, c2, c3⟩)
      (first | (refine step_clear rfl (.tmp 94) 58 rfl (.slice (some ⟨b, 0, none⟩) r r) (by simp [Act.eval]) HCL.out ?_))
    obtain ⟨ov, hov⟩ := Option.isSome_iff_exists.1 hc1'
    have e1 : ((W3.drew.setCells b 0 (List.replicate r (.int .u8 0))).drew.setCell ⟨g, mn.toNat * 2 + 1, none⟩ (.bool true)).heap[p]? = _ := blk_far (blk_drew b4) (blk_ne p3 g3 (by decide)) _
    have e2 : ((W3.drew.setCells b 0 (List.replicate r (.int .u8 0))).drew.setCell ⟨g, mn.toNat * 2 + 1, none⟩ (.bool true)).heap[W.heap.size]? = _ := blk_far (blk_drew b6) (blk_ne n3 g3 (by decide)) _
    have c4 : (W3.drew.setCells b 0 (List.replicate r (.int .u8 0))).drew.cell? ⟨g, mn.toNat * 2 + 1, none⟩ = some ov := (blk_cell (blk_drew b5) _).trans hov
    have c5 : (W3.drew.setCells b 0 (List.replicate r (.int .u8 0))).drew.frozen? ⟨g, mn.toNat * 2 + 1, none⟩ = false := blk_frozen (blk_drew b5) _
    have e3 : ((W3.drew.setCells b 0 (List.replicate r (.int .u8 0))).drew.setCell ⟨g, mn.toNat * 2 + 1, none⟩ (.bool true)).cell? ⟨p, 3, none⟩ = some (.slice (some ⟨g, 0, none⟩) k gcap) := (blk_cell e1 3).trans rfl
    have e4 : ((W3.drew.setCells b 0 (List.replicate r (.int .u8 0))).drew.setCell ⟨g, mn.toNat * 2 + 1, none⟩ (.bool true)).cell? ⟨W.heap.size, 0, none⟩ = some (.int .i64 mn) := (blk_cell e2 0).trans rfl
    have e5 : ((W3.drew.setCells b 0 (List.replicate r (.int .u8 0))).drew.setCell ⟨g, mn.toNat * 2 + 1, none⟩ (.bool true)).cell? ⟨p, 0, none⟩ = some (.int .i32 1) := (blk_cell e1 0).trans rfl
    have e6 : ((W3.drew.setCells b 0 (List.replicate r (.int .u8 0))).drew.setCell ⟨g, mn.toNat * 2 + 1, none⟩ (.bool true)).frozen? ⟨p, 0, none⟩ = false := blk_frozen e1 0
    clear a1 a2 a3 p3 g3 b3 n3 b4 b5 b6 e1 e2 hov
    go_wp2
    go_region_held3 (fun W' => W'.cell? ⟨p, 3, none⟩ = some (.slice (some ⟨g, 0, none⟩) k gcap) ∧ W'.cell? ⟨W.heap.size, 0, none⟩ = some (.int .i64 mn)) (first | exact ⟨c1, c2⟩ | exact ⟨e3, e4⟩) (first | fail)
    go_wp2
    refine leaves_cons (f := 113) (args := #[.pointer (some ⟨p, 0, none⟩)]) (by simp) (by simp [go_sem]) ?_
    refine (Mx.unlock_deferred ⟨p, 0, none⟩ .returning _ e5 e6).mono ?_
    rintro e u' w'' ⟨rfl, rfl, rfl⟩
    have hR := HE.out (List.replicate r (.int .u8 0))
    rw [HLL.out] at hR
    obtain ⟨hE⟩ := HM2
    subst hE
    exact ⟨_, results_tmp2 rfl _ _ _, rfl, hR⟩
  · have d3 : ((L'.length : Int) == 0) = false := by rw [beq_eq_false_iff_ne]; omega
    go_wp2_with (first | (go_at_call 116; refine HMN.out.mono ?_; rintro e w' ⟨rfl, hw'⟩; rw [hw']; clear hw') | (go_at_call 117; refine HDEL.out.mono ?_; rintro e w' ⟨rfl, hdel⟩; have x4 : w'.cell? ⟨p, 4, none⟩ = some (.map (some m)) := (blk_cell hdel.hp 4).trans rfl; obtain ⟨es1, ck1, hrun, hs1, hs2, hs3⟩ := hdel.hD.upd wr (.slice (some ⟨c, 0, none⟩) L'.length cap)))
    have ne : ∀ {i : Nat} {cs : Array Value} {t : TypeId}, w'.heap[i]? = some (.cells cs t (0, 0)) → i ≠ m := by
      rintro i cs t h rfl
      obtain ⟨e0, c0, hmm, _⟩ := hdel.hD
      rw [hmm] at h
      cases h
    have p3 := (hs2 p (ne hdel.hp)).trans hdel.hp
    have g3 := (hs2 g (ne hdel.hg)).trans hdel.hg
    have b3 := (hs2 b (ne hdel.hb)).trans hdel.hb
    have n3 := (hs2 W.heap.size (ne hdel.hn)).trans hdel.hn
    have HE := Aside0.mk (fun vs => tookOld_end (L' := L') vs hdel hZ0 hs2 hs3 (by funext q; simp [hl]) HOW.out.1 HOW.out.2 hp0 hg0 hbb0 hm0)
    obtain ⟨W3, hW3⟩ : ∃ W3, W3 = ChangeMaps.setBlock w' m (.map es1 ck1) := ⟨_, rfl⟩
    rw [← hW3] at p3 g3 b3 n3 HE ⊢
    clear hW3 hs1 hs2 hs3 hrun hdel x4 hl d1 d2 d3 lk k4 hLW hDW hBW hpW hoW hL hb0
    have hbp' : b ≠ p := blk_ne b3 p3 (by decide)
    have hbg' : b ≠ g := blk_ne b3 g3 (by decide)
    have hbn' : b ≠ W.heap.size := blk_ne b3 n3 (by decide)
    have a1 : W3.cell? ⟨p, 3, none⟩ = some (.slice (some ⟨g, 0, none⟩) k gcap) := (blk_cell p3 3).trans rfl
    have a2 : W3.cell? ⟨W.heap.size, 0, none⟩ = some (.int .i64 mn) := (blk_cell n3 0).trans rfl
    have a3 : W3.cell? ⟨g, mn.toNat * 2, none⟩ = some (.slice (some ⟨b, 0, none⟩) r r) := (blk_cell g3 _).trans hc0'
    have b4 : (W3.drew.setCells b 0 (List.replicate r (.int .u8 0))).heap[p]? = _ := (setCells_other (Ne.symm hbp') _ 0 _).trans p3
    have b5 : (W3.drew.setCells b 0 (List.replicate r (.int .u8 0))).heap[g]? = _ := (setCells_other (Ne.symm hbg') _ 0 _).trans g3
    have b6 : (W3.drew.setCells b 0 (List.replicate r (.int .u8 0))).heap[W.heap.size]? = _ := (setCells_other (Ne.symm hbn') _ 0 _).trans n3
    have c1 : (W3.drew.setCells b 0 (List.replicate r (.int .u8 0))).cell? ⟨p, 3, none⟩ = some (.slice (some ⟨g, 0, none⟩) k gcap) := (blk_cell b4 3).trans rfl
    have c2 : (W3.drew.setCells b 0 (List.replicate r (.int .u8 0))).cell? ⟨W.heap.size, 0, none⟩ = some (.int .i64 mn) := (blk_cell b6 0).trans rfl
    have c3 : (W3.drew.setCells b 0 (List.replicate r (.int .u8 0))).cell? ⟨g, mn.toNat * 2, none⟩ = some (.slice (some ⟨b, 0, none⟩) r r) := (blk_cell b5 _).trans hc0'
    have HCL := Aside0.mk (show ∀ ty, (Builtin.clear_ #[58] ty #[.slice (some ⟨b, 0, none⟩) r r]).run Try.prog W3.drew = .ok (.tuple #[]) (W3.drew.setCells b 0 (List.replicate r (.int .u8 0))) from fun ty =>
      Lib.run_clear_slice W3.drew 58 5 ty (.int .u8 0) Try.underlying58 (fun w => Try.zeroValue5 w) rfl rfl b 0 r r (by omega) (fun j hj => by
        rw [Nat.zero_add, blk_cell (blk_drew b3) j, Array.getElem?_eq_getElem (by omega)]; rfl) (fun j _ => blk_frozen (blk_drew b3) _))
    go_region_held3 (fun W' => W'.cell? ⟨p, 3, none⟩ = some (.slice (some ⟨g, 0, none⟩) k gcap) ∧ W'.cell? ⟨W.heap.size, 0, none⟩ = some (.int .i64 mn) ∧ W'.cell? ⟨g, mn.toNat * 2, none⟩ = some (.slice (some ⟨b, 0, none⟩) r r)) (first | exact ⟨a1, a2, a3⟩ | exact ⟨c1, c2, c3⟩)
      (first | (refine step_clear rfl (.tmp 94) 58 rfl (.slice (some ⟨b, 0, none⟩) r r) (by simp [Act.eval]) HCL.out ?_))
    obtain ⟨ov, hov⟩ := Option.isSome_iff_exists.1 hc1'
    have e1 : ((W3.drew.setCells b 0 (List.replicate r (.int .u8 0))).drew.setCell ⟨g, mn.toNat * 2 + 1, none⟩ (.bool true)).heap[p]? = _ := blk_far (blk_drew b4) (blk_ne p3 g3 (by decide)) _
    have e2 : ((W3.drew.setCells b 0 (List.replicate r (.int .u8 0))).drew.setCell ⟨g, mn.toNat * 2 + 1, none⟩ (.bool true)).heap[W.heap.size]? = _ := blk_far (blk_drew b6) (blk_ne n3 g3 (by decide)) _
    have c4 : (W3.drew.setCells b 0 (List.replicate r (.int .u8 0))).drew.cell? ⟨g, mn.toNat * 2 + 1, none⟩ = some ov := (blk_cell (blk_drew b5) _).trans hov
    have c5 : (W3.drew.setCells b 0 (List.replicate r (.int .u8 0))).drew.frozen? ⟨g, mn.toNat * 2 + 1, none⟩ = false := blk_frozen (blk_drew b5) _
    have e3 : ((W3.drew.setCells b 0 (List.replicate r (.int .u8 0))).drew.setCell ⟨g, mn.toNat * 2 + 1, none⟩ (.bool true)).cell? ⟨p, 3, none⟩ = some (.slice (some ⟨g, 0, none⟩) k gcap) := (blk_cell e1 3).trans rfl
    have e4 : ((W3.drew.setCells b 0 (List.replicate r (.int .u8 0))).drew.setCell ⟨g, mn.toNat * 2 + 1, none⟩ (.bool true)).cell? ⟨W.heap.size, 0, none⟩ = some (.int .i64 mn) := (blk_cell e2 0).trans rfl
    have e5 : ((W3.drew.setCells b 0 (List.replicate r (.int .u8 0))).drew.setCell ⟨g, mn.toNat * 2 + 1, none⟩ (.bool true)).cell? ⟨p, 0, none⟩ = some (.int .i32 1) := (blk_cell e1 0).trans rfl
    have e6 : ((W3.drew.setCells b 0 (List.replicate r (.int .u8 0))).drew.setCell ⟨g, mn.toNat * 2 + 1, none⟩ (.bool true)).frozen? ⟨p, 0, none⟩ = false := blk_frozen e1 0
    clear a1 a2 a3 p3 g3 b3 n3 b4 b5 b6 e1 e2 hov
    go_wp2
    go_region_held3 (fun W' => W'.cell? ⟨p, 3, none⟩ = some (.slice (some ⟨g, 0, none⟩) k gcap) ∧ W'.cell? ⟨W.heap.size, 0, none⟩ = some (.int .i64 mn)) (first | exact ⟨c1, c2⟩ | exact ⟨e3, e4⟩) (first | fail)
    go_wp2
    refine leaves_cons (f := 113) (args := #[.pointer (some ⟨p, 0, none⟩)]) (by simp) (by simp [go_sem]) ?_
    refine (Mx.unlock_deferred ⟨p, 0, none⟩ .returning _ e5 e6).mono ?_
    rintro e u' w'' ⟨rfl, rfl, rfl⟩
    have hR := HE.out (List.replicate r (.int .u8 0))
    rw [HLL.out] at hR
    obtain ⟨hE⟩ := HM2
    subst hE
    exact ⟨_, results_tmp2 rfl _ _ _, rfl, hR⟩
end Go.Proofs.Ytpmdgmnpkdoamaa.Pl
