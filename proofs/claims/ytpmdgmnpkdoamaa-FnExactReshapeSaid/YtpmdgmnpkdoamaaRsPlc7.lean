/- Proved here: words for impl.Reshape's loop over a view's places (whether each place is one behind the one ahead), and for leaving a function that holds such a loop. Conditions: those that stand ahead in each theorem. -/
import Derived.Test.YtpmdgmnpkdoamaaRsPlc4
namespace Go.Proofs.Ytpmdgmnpkdoamaa.Odo
open Go.RowKit Go.Shelf Rf Go.Proofs.YtpmdgmnpkdoamaaW.PrintWords Go.Proofs.YtpmdgmnpkdoamaaW.PrintLast Go.Proofs.YtpmdgmnpkdoamaaW.PrintMore
/-- Each is one behind the one ahead of it. -/
def inRow : List Int → Bool
  | [] => true
  | [_] => true
  | a :: b :: t => decide (b = wrap64 (a + 1)) && inRow (b :: t)
/-- What is awaited next. -/
def nx (o : Int) (pre : List Int) : Int := match pre.getLast? with
  | none => o
  | some p => wrap64 (p + 1)
theorem nx_nil (o : Int) : nx o [] = o := rfl
theorem nx_snoc (o : Int) (pre : List Int) (x : Int) : nx o (pre ++ [x]) = wrap64 (x + 1) := by simp [nx]
theorem inRow_snoc (o : Int) : ∀ (pre : List Int) (x : Int), inRow (pre ++ [x]) = (inRow pre && decide (pre = [] ∨ x = nx o pre))
  | [], x => by simp [inRow]
  | [a], x => by simp [inRow, nx]
  | a :: b :: t, x => by
    have ih := inRow_snoc o (b :: t) x
    have e : nx o (a :: b :: t) = nx o (b :: t) := by simp [nx, List.getLast?_cons_cons]
    simp only [List.cons_append, inRow] at ih ⊢
    rw [ih, e]
    simp [Bool.and_assoc]
theorem inRow_left : ∀ (t pre : List Int), inRow (pre ++ t) = true → inRow pre = true
  | [], pre, h => by simpa using h
  | x :: t, pre, h => by
    have := inRow_left t (pre ++ [x]) (by simpa using h)
    rw [inRow_snoc 0, Bool.and_eq_true] at this
    exact this.1
theorem inRow_pre {xs pre : List Int} (h : pre <+: xs) (hx : inRow xs = true) : inRow pre = true := by
  obtain ⟨t, rfl⟩ := h
  exact inRow_left t pre hx
/-- A row doesn't lie in a block that holds no cells. -/
theorem R_apart {α : Type} {d : Kd α} {e base D : Nat} {w : World} {ok : Nat → Prop} {v : Value} {xs : List α} {ds : Option (List Deferred)} (h : d.R e w base ok v xs) (hD : w.heap[D]? = some (.deferred ds)) (o : Obj) : d.R e (w.putObj D o) base ok v xs :=
  Kd.R_mono (Kd.R_step (ok := fun k => ok k ∧ k ≠ D) (Kd.R_mono (Kd.R_bound h) (fun k hk => ⟨hk.1, by
    obtain ⟨_, _, _, q, hq, cells', hc⟩ := hk
    rintro rfl
    rw [hc] at hD
    injection hD with hD
    cases hD⟩)) (fun k hk _ => World.putObj_heap_other hk.2)) (fun _ hk => hk.1)
theorem R_neD {α : Type} {d : Kd α} {e base D : Nat} {w : World} {ok : Nat → Prop} {v : Value} {xs : List α} {ds : Option (List Deferred)} (h : d.R e w base ok v xs) (hD : w.heap[D]? = some (.deferred ds)) : some D ≠ v.ownBlock := by
  intro hk
  obtain ⟨_, _, _, q, hq, cells', hc⟩ := (Kd.R_bound h).1 D hk.symm
  rw [hc] at hD
  injection hD with hD
  cases hD
/-- How a function that holds a loop over a function leaves: by its return alone. -/
def leavesQ (P : Program) (fn : Func) (R : Ending → World → Prop) : Exit → Act → World → Prop
  | .ret, a, w => LeavesInM Fence.wide 4 P fn a.tmps R a.defers .returning w
  | _, _, _ => False
theorem calls_leaves {P : Program} {f : FuncId} {fn : Func} {c : Code} {args : Array Value} {w : World} {R : Ending → World → Prop} (hf : P.funcs[f]? = some fn) (hb : fn.body = some c)
    (h : c.wp P (leavesQ P fn R) { tmps := args ++ Array.replicate (fn.ntmps - args.size) undef, defers := [] } w) : Calls P f args w R :=
  callsIn_wide.1 (callsIn_of_wp_marks (n := 4) hf hb trivial (wpIn_mono (wpIn_wide.2 h) (fun e a w hq => by cases e <;> first | exact hq | exact hq.elim)) rfl)
theorem leave_mark {P : Program} {fn : Func} {R : Ending → World → Prop} {tmps : Array Value} {D : Nat} {w : World} {v : Value} (hK : w.heap[D]? = some (.deferred (some []))) (hr : (results fn tmps).run P (w.putObj D (.deferred none)) = .ok v (w.putObj D (.deferred none)))
    (hR : R (.returned v) (w.putObj D (.deferred none))) : leavesQ P fn R .ret { tmps := tmps, defers := [{ target := .collected D, args := #[] }] } w :=
  ⟨by simp, .inl ⟨_, _, rfl, run_takeDeferred hK, _, hr, hR⟩⟩
theorem blk_put_obj {w : World} {g D : Nat} {o o' : Obj} {ds : Option (List Deferred)} (h : w.heap[g]? = some o) (ho : o.isCells = true) (hD : w.heap[D]? = some (.deferred ds)) : (w.putObj D o').heap[g]? = some o :=
  (World.putObj_heap_other (by rintro rfl; rw [h] at hD; cases hD; cases ho)).trans h
theorem below_put_obj {w W : World} {D : Nat} {o' : Obj} (h : Below w.heap.size w W) (hD : w.heap.size ≤ D) (hK : W.heap[D]? = some (.deferred (some []))) : Below w.heap.size w (W.putObj D o') :=
  h.trans (belowK_b (w := w) (Nat.le_refl _) W D _ _ hD hK rfl rfl)
theorem far {w : World} {g : Nat} {o : Obj} (h : w.heap[g]? = some o) {p : Addr} (hp : g ≠ p.block) (u : Value) : (w.setCell p u).heap[g]? = some o := (Below.heap_setCell w p u g hp).trans h
/-- What holds ahead of each round: the view's box, the result's, next and first, and that the places so far are a row. -/
def RowI (w : World) (V R N F : Nat) (view : Array Value) (o : Int) (xs pre : List Int) (W : World) : Prop :=
  (W.heap[V]? = some (.cells view 32 (0, 0)) ∧ W.heap[R]? = some (.cells #[.int .i64 0, .slice none 0 0, .slice none 0 0, .int .i64 0] 53 (0, 0)) ∧ W.heap[N]? = some (.cells #[.int .i64 (nx o pre)] 2 (0, 0)) ∧
    W.heap[F]? = some (.cells #[.bool (decide (pre = []))] 4 (0, 0)) ∧ (inRow pre = true ∧ pre <+: xs)) ∧ Below w.heap.size w W
def RowX (w : World) (R : Nat) (c : Code) (pre : List Int) (W : World) : Prop :=
  (W.heap[R]? = some (.cells #[.int .i64 13, .slice none 0 0, .slice none 0 0, .int .i64 0] 53 (0, 0)) ∧ (c = .ret ∧ inRow pre = false)) ∧ Below w.heap.size w W
variable {w W : World} {V R N F m : Nat} {view : Array Value} {o x : Int} {xs pre : List Int}
theorem rowI_T (h : w.heap.size ≤ m) : OwnT 137 m (RowI w V R N F view o xs) :=
  ownT_and (ownT_and (blk_T 137 m V 32 (fun _ => view) (by decide)) (ownT_and (blk_T 137 m R 53 (fun _ => #[.int .i64 0, .slice none 0 0, .slice none 0 0, .int .i64 0]) (by decide))
    (ownT_and (blk_T 137 m N 2 (fun pre => #[.int .i64 (nx o pre)]) (by decide)) (ownT_and (blk_T 137 m F 4 (fun pre => #[.bool (decide (pre = []))]) (by decide)) (pure_T _ _ _))))) (below_T h (Nat.le_refl _))
theorem rowX_T (h : w.heap.size ≤ m) (c : Code) : OwnT 137 m (RowX w R c) :=
  ownT_and (ownT_and (blk_T 137 m R 53 (fun _ => #[.int .i64 13, .slice none 0 0, .slice none 0 0, .int .i64 0]) (by decide)) (pure_T _ _ _)) (below_T h (Nat.le_refl _))
theorem rowI_step (h : RowI w V R N F view o xs pre W) (hx : pre = [] ∨ x = nx o pre) (hp : pre ++ [x] <+: xs) (h1 : V ≠ N) (h2 : V ≠ F) (h3 : R ≠ N) (h4 : R ≠ F) (h5 : F ≠ N) (h6 : w.heap.size ≤ N) (h7 : w.heap.size ≤ F) (B : Nat) :
    KeepsFrom B W ((W.setCell ⟨F, 0, none⟩ (.bool false)).setCell ⟨N, 0, none⟩ (.int .i64 (wrap64 (x + 1)))) ∧ KpT W ((W.setCell ⟨F, 0, none⟩ (.bool false)).setCell ⟨N, 0, none⟩ (.int .i64 (wrap64 (x + 1)))) ∧
      RowI w V R N F view o xs (pre ++ [x]) ((W.setCell ⟨F, 0, none⟩ (.bool false)).setCell ⟨N, 0, none⟩ (.int .i64 (wrap64 (x + 1)))) := by
  obtain ⟨⟨hv, hr, hn, hf, hrow, _⟩, hB⟩ := h
  have hn' := far (p := ⟨F, 0, none⟩) hn (Ne.symm h5) (.bool false)
  refine ⟨((KeepsOthers.setCell _ _ _).trans (KeepsOthers.setCell _ _ _)).from _, kpT_t (kpT_grown (grown_put W F 0 _) (fun r cs e h => ?_)) (kpT_grown (grown_put _ N 0 _) (fun r cs e h => ?_)), ⟨far (far hv h2 _) h1 _, far (far hr h4 _) h3 _, ?_, ?_, ?_, hp⟩, ?_⟩
  · cases e; rw [hf] at h; cases h
  · cases e; rw [hn'] at h; cases h
  · rw [nx_snoc]; exact blk_put hn' 0 _ rfl
  · have e : decide (pre ++ [x] = []) = false := by simp
    rw [e]; exact far (blk_put hf 0 _ rfl) h5 _
  · rw [inRow_snoc o, hrow]; simpa using hx
  · exact (hB.setCell h7 _).setCell h6 _
theorem rowX_step (h : RowI w V R N F view o xs pre W) (hx : ¬ (pre = [] ∨ x = nx o pre)) (h6 : w.heap.size ≤ R) (B : Nat) :
    KeepsFrom B W ((((W.setCell ⟨R, 0, none⟩ (.int .i64 13)).setCell ⟨R, 1, none⟩ (.slice none 0 0)).setCell ⟨R, 2, none⟩ (.slice none 0 0)).setCell ⟨R, 3, none⟩ (.int .i64 0)) ∧
      RowX w R .ret (pre ++ [x]) ((((W.setCell ⟨R, 0, none⟩ (.int .i64 13)).setCell ⟨R, 1, none⟩ (.slice none 0 0)).setCell ⟨R, 2, none⟩ (.slice none 0 0)).setCell ⟨R, 3, none⟩ (.int .i64 0)) := by
  obtain ⟨⟨hv, hr, hn, hf, hrow, _⟩, hB⟩ := h
  refine ⟨((((KeepsOthers.setCell _ _ _).trans (KeepsOthers.setCell _ _ _)).trans (KeepsOthers.setCell _ _ _)).trans (KeepsOthers.setCell _ _ _)).from _, ⟨?_, rfl, ?_⟩, (((hB.setCell h6 _).setCell h6 _).setCell h6 _).setCell h6 _⟩
  · exact blk_put (blk_put (blk_put (blk_put hr 0 _ rfl) 1 _ rfl) 2 _ rfl) 3 _ rfl
  · rw [inRow_snoc o, decide_eq_false hx]; simp
end Go.Proofs.Ytpmdgmnpkdoamaa.Odo
