/- Proved here: what impl.offsets answers: the places of a view's elements, in an own list. Conditions: as in the Places text, or the count of the shape is 0. -/
import Derived.Test.YtpmdgmnpkdoamabDoorRdPlc2
import Derived.OwnWalk
namespace Go.Proofs.YtpmdgmnpkdoamabDoor.Odo
open Go.RowKit Go.Shelf Rf Go.Proofs.YtpmdgmnpkdoamabDoorW.PrintWords Go.Proofs.YtpmdgmnpkdoamabDoorW.PrintLast Go.Proofs.YtpmdgmnpkdoamabDoorW.PrintMore
attribute [local go_sem] Oper.semAt_some wide_fn
theorem holdsRow_T {β : Type} (T m n₀ B : Nat) (t e : TypeId) (size : Nat) (k : β → Nat) (f : β → List Value) (ht : t ≠ T) (he : e ≠ T) : OwnT T m (fun s W => ∃ v, Boxed W B t v ∧ W.ownsRow n₀ e size v (k s) (f s)) := by
 rintro s X Y row ⟨v, hv, hr⟩ hg hrow
 refine ⟨v, hv.kept hg (fun e' => ?_), hr.kept hg ?_⟩
 ·obtain ⟨_, o, ho, hc⟩ := hrow B e'.symm
  rw [show X.heap[B]? = _ from hv] at ho; cases ho
  rcases hc with hc | ⟨cs, hc⟩
  ·cases hc
  ·cases hc; exact ht rfl
 ·rcases hr.2 with ⟨rfl, _⟩ | ⟨g, cap, cur, rfl, _, hgb, _⟩
  ·exact .inl rfl
  ·refine .inr fun e' => ?_
   obtain ⟨_, o, ho, hc⟩ := hrow g (by simpa [Value.ownBlock] using e'.symm)
   rw [hgb] at ho; cases ho
   rcases hc with hc | ⟨cs, hc⟩
   ·cases hc
   ·cases hc; exact he rfl
theorem below_T {β : Type} {T m n₀ : Nat} {w : World} (h1 : n₀ ≤ m) (h2 : n₀ ≤ w.heap.size) : OwnT T m (fun (_ : β) W => Below n₀ w W) := fun _ _ _ _ h hg hr =>
 pw_below_grown h _ (Nat.le_trans h2 h.size) hg (fun k e => Nat.le_trans h1 (hr k e).1)
theorem ownT_and {β : Type} {T m : Nat} {I J : β → World → Prop} (h : OwnT T m I) (k : OwnT T m J) : OwnT T m (fun s W => I s W ∧ J s W) := fun s W W' row a b c => ⟨h s W W' row a.1 b c, k s W W' row a.2 b c⟩
theorem flat_len {α : Type} (f : Nat → List α) (c : Int) (h : ∀ i, ((f i).length : Int) = c) : ∀ m : Nat, (((List.range m).flatMap f).length : Int) = (m : Int) * c
 | 0 => by simp
 | m + 1 => by
  rw [List.range_succ, List.flatMap_append, List.length_append, Int.natCast_add, flat_len f c h m]
  simp only [List.flatMap_cons, List.flatMap_nil, List.append_nil, h, Int.natCast_add, Int.natCast_one, Int.add_mul, Int.one_mul]
theorem places_len : ∀ (l0 l1 : List Int) (o : Int), l1.length = l0.length → (∀ x ∈ l0, 0 ≤ x) → ((places l0 l1 o).length : Int) = pr l0
 | [], l1, o, _, _ => by cases l1 <;> simp [places, pr]
 | _ :: _, [], _, h, _ => by simp at h
 | n :: l0, s :: l1, o, h, hp => by
  have n0 : 0 ≤ n := hp n (by simp)
  simp only [places, pr]
  rw [flat_len _ (pr l0) (fun i => places_len l0 l1 _ (by simpa using h) (fun x hx => hp x (by simp [hx])))]
  rw [Int.toNat_of_nonneg n0]
theorem placesOf_len {l0 l1 : List Int} {o c : Int} (h : Good l0 l1 o c) : (placesOf l0 l1 o c).length ≤ 4096 := by
 unfold placesOf
 by_cases hc : c = 0
 ·rw [if_pos hc]; simp
 ·rw [if_neg hc]
  obtain ⟨h1, h2, h3⟩ := h
  obtain ⟨h4, h5, h6, _⟩ := h3 hc
  have := places_len l0 l1 o h1 (fun x hx => by have := h4 x hx; omega)
  omega
end Go.Proofs.YtpmdgmnpkdoamabDoor.Odo
