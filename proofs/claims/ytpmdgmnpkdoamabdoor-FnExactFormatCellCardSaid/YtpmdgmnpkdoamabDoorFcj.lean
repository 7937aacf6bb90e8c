/- Proved here: strconv.FormatInt and strconv.Itoa are those that the kit's contracts were proved of, and what they answer at base 10. Condition: the table of powers of ten holds what it was laid with. -/
import Derived.Test.YtpmdgmnpkdoamabDoorFci
import Derived.Shelf.Strconv.Itoa4
import Derived.Lib.AppendIntMem
import Derived.KernelRfl
namespace Go.Proofs.YtpmdgmnpkdoamabDoor.Vc
open Go Go.Shelf Go.RowKit Fl Prom
/-- The numbers of the shelf's functions, types and variables here. -/
def rho : Ren := ⟨fun n => if n = 129 then 210 else if n = 171 then 166 else if n = 173 then 110 else if n = 243 then 197 else if n = 246 then 167 else if n = 283 then 198 else if n = 284 then 199 else if n = 285 then 200 else if n = 286 then 201 else if n = 317 then 209 else if n = 318 then 211 else if n = 319 then 212 else if n = 320 then 213 else if n = 337 then 216 else if n = 338 then 217 else n, fun n => if n = 37 then 48 else if n = 46 then 169 else if n = 51 then 219 else if n = 53 then 197 else if n = 171 then 206 else if n = 173 then 209 else if n = 212 then 218 else if n = 213 then 220 else if n = 232 then 226 else if n = 233 then 227 else n, fun n => if n = 17 then 2 else if n = 18 then 3 else if n = 19 then 4 else n⟩
theorem lay173 : LaysM.n173 Tryd.prog rho where
  mixed := by kernel_rfl
  f129 := by kernel_rfl
  f173 := by kernel_rfl
  f246 := by kernel_rfl
  f283 := by kernel_rfl
  f284 := by kernel_rfl
  f285 := by kernel_rfl
  f286 := by kernel_rfl
  f317 := by kernel_rfl
  f318 := by kernel_rfl
  f319 := by kernel_rfl
  f320 := by kernel_rfl
  f337 := by kernel_rfl
  f338 := by kernel_rfl
  t0 := Tryd.underlying0
  a0 := fun w => Tryd.isAgg0 w
  z0 := fun w => Tryd.sizeOf0 w
  v0 := fun w => Tryd.zeroValue0 w
  t2 := Tryd.underlying2
  a2 := fun w => Tryd.isAgg2 w
  z2 := fun w => Tryd.sizeOf2 w
  v2 := fun w => Tryd.zeroValue2 w
  t3 := Tryd.underlying3
  a3 := fun w => Tryd.isAgg3 w
  z3 := fun w => Tryd.sizeOf3 w
  v3 := fun w => Tryd.zeroValue3 w
  t4 := Tryd.underlying4
  a4 := fun w => Tryd.isAgg4 w
  z4 := fun w => Tryd.sizeOf4 w
  v4 := fun w => Tryd.zeroValue4 w
  t5 := Tryd.underlying5
  a5 := fun w => Tryd.isAgg5 w
  z5 := fun w => Tryd.sizeOf5 w
  v5 := fun w => Tryd.zeroValue5 w
  t9 := Tryd.underlying9
  a9 := fun w => Tryd.isAgg9 w
  z9 := fun w => Tryd.sizeOf9 w
  v9 := fun w => Tryd.zeroValue9 w
  t20 := Tryd.underlying20
  a20 := fun w => Tryd.isAgg20 w
  z20 := fun w => Tryd.sizeOf20 w
  v20 := fun w => Tryd.zeroValue20 w
  t37 := Tryd.underlying48
  a37 := fun w => Tryd.isAgg48 w
  z37 := fun w => Tryd.sizeOf48 w
  v37 := fun w => Tryd.zeroValue48 w
  t46 := Tryd.underlying169
  a46 := fun w => Tryd.isAgg169 w
  z46 := fun w => Tryd.sizeOf169 w
  v46 := fun w => Tryd.zeroValue169 w
  t51 := Tryd.underlying219
  a51 := fun w => Tryd.isAgg219 w
  z51 := fun w => Tryd.sizeOf219 w
  v51 := fun w => Tryd.zeroValue219 w
  t53 := Tryd.underlying197
  a53 := fun w => Tryd.isAgg197 w
  z53 := fun w => Tryd.sizeOf197 w
  v53 := fun w => Tryd.zeroValue197 w
  t171 := Tryd.underlying206
  a171 := fun w => Tryd.isAgg206 w
  z171 := fun w => Tryd.sizeOf206 w
  v171 := fun w => Tryd.zeroValue206 w
  t173 := Tryd.underlying209
  a173 := fun w => Tryd.isAgg209 w
  z173 := fun w => Tryd.sizeOf209 w
  v173 := fun w => Tryd.zeroValue209 w
  t212 := Tryd.underlying218
  a212 := fun w => Tryd.isAgg218 w
  z212 := fun w => Tryd.sizeOf218 w
  v212 := fun w => Tryd.zeroValue218 w
  t213 := Tryd.underlying220
  a213 := fun w => Tryd.isAgg220 w
  z213 := fun w => Tryd.sizeOf220 w
  t232 := Tryd.underlying226
  a232 := fun w => Tryd.isAgg226 w
  z232 := fun w => Tryd.sizeOf226 w
  v232 := fun w => Tryd.zeroValue226 w
  t233 := Tryd.underlying227
  a233 := fun w => Tryd.isAgg227 w
  z233 := fun w => Tryd.sizeOf227 w
  v233 := fun w => Tryd.zeroValue227 w
  g17 := by kernel_rfl
  g18 := by kernel_rfl
  g19 := by kernel_rfl
  i0 := by kernel_rfl
  i2 := by kernel_rfl
  i3 := by kernel_rfl
  i4 := by kernel_rfl
  i5 := by kernel_rfl
  i9 := by kernel_rfl
  i20 := by kernel_rfl
  i37 := by kernel_rfl
  i46 := by kernel_rfl
  i51 := by kernel_rfl
  i53 := by kernel_rfl
  i171 := by kernel_rfl
  i173 := by kernel_rfl
  i212 := by kernel_rfl
  i232 := by kernel_rfl
  i233 := by kernel_rfl
  m17 := by kernel_rfl
  m18 := by kernel_rfl
  m19 := by kernel_rfl
theorem lay171 : LaysM.n171 Tryd.prog rho where
  mixed := by kernel_rfl
  f129 := by kernel_rfl
  f171 := by kernel_rfl
  f243 := by kernel_rfl
  f246 := by kernel_rfl
  f283 := by kernel_rfl
  f284 := by kernel_rfl
  f285 := by kernel_rfl
  f286 := by kernel_rfl
  f317 := by kernel_rfl
  f318 := by kernel_rfl
  f319 := by kernel_rfl
  f320 := by kernel_rfl
  f337 := by kernel_rfl
  f338 := by kernel_rfl
  t0 := Tryd.underlying0
  a0 := fun w => Tryd.isAgg0 w
  z0 := fun w => Tryd.sizeOf0 w
  v0 := fun w => Tryd.zeroValue0 w
  t2 := Tryd.underlying2
  a2 := fun w => Tryd.isAgg2 w
  z2 := fun w => Tryd.sizeOf2 w
  v2 := fun w => Tryd.zeroValue2 w
  t3 := Tryd.underlying3
  a3 := fun w => Tryd.isAgg3 w
  z3 := fun w => Tryd.sizeOf3 w
  v3 := fun w => Tryd.zeroValue3 w
  t4 := Tryd.underlying4
  a4 := fun w => Tryd.isAgg4 w
  z4 := fun w => Tryd.sizeOf4 w
  v4 := fun w => Tryd.zeroValue4 w
  t5 := Tryd.underlying5
  a5 := fun w => Tryd.isAgg5 w
  z5 := fun w => Tryd.sizeOf5 w
  v5 := fun w => Tryd.zeroValue5 w
  t9 := Tryd.underlying9
  a9 := fun w => Tryd.isAgg9 w
  z9 := fun w => Tryd.sizeOf9 w
  v9 := fun w => Tryd.zeroValue9 w
  t20 := Tryd.underlying20
  a20 := fun w => Tryd.isAgg20 w
  z20 := fun w => Tryd.sizeOf20 w
  v20 := fun w => Tryd.zeroValue20 w
  t37 := Tryd.underlying48
  a37 := fun w => Tryd.isAgg48 w
  z37 := fun w => Tryd.sizeOf48 w
  v37 := fun w => Tryd.zeroValue48 w
  t46 := Tryd.underlying169
  a46 := fun w => Tryd.isAgg169 w
  z46 := fun w => Tryd.sizeOf169 w
  v46 := fun w => Tryd.zeroValue169 w
  t51 := Tryd.underlying219
  a51 := fun w => Tryd.isAgg219 w
  z51 := fun w => Tryd.sizeOf219 w
  v51 := fun w => Tryd.zeroValue219 w
  t53 := Tryd.underlying197
  a53 := fun w => Tryd.isAgg197 w
  z53 := fun w => Tryd.sizeOf197 w
  v53 := fun w => Tryd.zeroValue197 w
  t171 := Tryd.underlying206
  a171 := fun w => Tryd.isAgg206 w
  z171 := fun w => Tryd.sizeOf206 w
  v171 := fun w => Tryd.zeroValue206 w
  t173 := Tryd.underlying209
  a173 := fun w => Tryd.isAgg209 w
  z173 := fun w => Tryd.sizeOf209 w
  v173 := fun w => Tryd.zeroValue209 w
  t212 := Tryd.underlying218
  a212 := fun w => Tryd.isAgg218 w
  z212 := fun w => Tryd.sizeOf218 w
  v212 := fun w => Tryd.zeroValue218 w
  t213 := Tryd.underlying220
  a213 := fun w => Tryd.isAgg220 w
  z213 := fun w => Tryd.sizeOf220 w
  t232 := Tryd.underlying226
  a232 := fun w => Tryd.isAgg226 w
  z232 := fun w => Tryd.sizeOf226 w
  v232 := fun w => Tryd.zeroValue226 w
  t233 := Tryd.underlying227
  a233 := fun w => Tryd.isAgg227 w
  z233 := fun w => Tryd.sizeOf227 w
  v233 := fun w => Tryd.zeroValue227 w
  g17 := by kernel_rfl
  g18 := by kernel_rfl
  g19 := by kernel_rfl
  i0 := by kernel_rfl
  i2 := by kernel_rfl
  i3 := by kernel_rfl
  i4 := by kernel_rfl
  i5 := by kernel_rfl
  i9 := by kernel_rfl
  i20 := by kernel_rfl
  i37 := by kernel_rfl
  i46 := by kernel_rfl
  i51 := by kernel_rfl
  i53 := by kernel_rfl
  i171 := by kernel_rfl
  i173 := by kernel_rfl
  i212 := by kernel_rfl
  i232 := by kernel_rfl
  i233 := by kernel_rfl
  m17 := by kernel_rfl
  m18 := by kernel_rfl
  m19 := by kernel_rfl
/-- The table of powers of ten holds what it was laid with. -/
def Tab (w : World) : Prop := Lib.TabIs Tryd.prog w "internal/strconv.uint64pow10" .u64 Lib.pow10Tab
theorem tab_below {w w' : World} (h : Tab w) (hb : Below w.heap.size w w') : Tab w' := Lib.tabBelow_of_tabIs h w' hb
theorem fmtint_run (n : Int) (h0 : -9223372036854775808 ≤ n) (h1 : n ≤ 9223372036854775807) (w : World) (hT : Tab w) : Calls Tryd.prog 110 #[.int .i64 n, .int .i64 10] w fun e w' => e = .returned (SB (Lib.itoa n)) ∧ Below w.heap.size w w' := by
  have h := Any.strconv_FormatInt_10 lay173 n h0 h1 w hT
  rw [show rho.f 173 = 110 from rfl] at h
  refine h.mono ?_
  rintro e w' ⟨rfl, k, os, rfl⟩
  exact ⟨rfl, Lib.below_grow _ _ (Nat.le_refl _) _ _⟩
theorem itoa_run (n : Int) (h0 : -9223372036854775808 ≤ n) (h1 : n ≤ 9223372036854775807) (w : World) (hT : Tab w) : Calls Tryd.prog 166 #[.int .i64 n] w fun e w' => e = .returned (SB (Lib.itoa n)) ∧ Below w.heap.size w w' := by
  have h := Any.strconv_Itoa lay171 n h0 h1 w hT
  rw [show rho.f 171 = 166 from rfl] at h
  refine h.mono ?_
  rintro e w' ⟨rfl, k, os, rfl⟩
  exact ⟨rfl, Lib.below_grow _ _ (Nat.le_refl _) _ _⟩
end Go.Proofs.YtpmdgmnpkdoamabDoor.Vc
