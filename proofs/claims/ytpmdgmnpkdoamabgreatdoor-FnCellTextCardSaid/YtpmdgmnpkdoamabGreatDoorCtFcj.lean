/- Proved here: strconv.FormatInt, Itoa, ParseInt and strings.TrimPrefix, Trim, Cut are those that the kit's contracts were proved of; what FormatInt and Itoa answer at base 10. Condition: the table of powers of ten holds what it was laid with. -/
import Derived.Test.YtpmdgmnpkdoamabGreatDoorCtFci
import Derived.Shelf.Strconv.Itoa4
import Derived.Shelf.Strconv.ParseIntPublic10
import Derived.Shelf.Strings.Prefix
import Derived.Shelf.Strings.SlTrimAscii
import Derived.Shelf.Strings.Cut
import Derived.Lib.AppendIntMem
import Derived.KernelRfl
namespace Go.Proofs.YtpmdgmnpkdoamabGreatDoor.Vc
open Go Go.Shelf Go.RowKit Fl Prom
/-- The numbers of the shelf's functions, types and variables here. -/
def rho : Ren := ⟨fun n => if n = 101 then 133 else if n = 119 then 226 else if n = 120 then 219 else if n = 129 then 191 else if n = 137 then 225 else if n = 145 then 75 else if n = 151 then 202 else if n = 152 then 218 else if n = 160 then 134 else if n = 171 then 125 else if n = 173 then 65 else if n = 174 then 135 else if n = 197 then 201 else if n = 205 then 223 else if n = 206 then 199 else if n = 208 then 170 else if n = 217 then 195 else if n = 219 then 169 else if n = 220 then 132 else if n = 224 then 197 else if n = 225 then 196 else if n = 227 then 173 else if n = 228 then 200 else if n = 231 then 171 else if n = 232 then 172 else if n = 233 then 174 else if n = 234 then 175 else if n = 235 then 176 else if n = 236 then 177 else if n = 243 then 164 else if n = 245 then 179 else if n = 246 then 126 else if n = 247 then 178 else if n = 260 then 217 else if n = 266 then 215 else if n = 267 then 198 else if n = 271 then 203 else if n = 279 then 205 else if n = 280 then 206 else if n = 281 then 207 else if n = 282 then 208 else if n = 283 then 165 else if n = 284 then 166 else if n = 285 then 167 else if n = 286 then 168 else if n = 287 then 204 else if n = 314 then 216 else if n = 316 then 222 else if n = 317 then 190 else if n = 318 then 192 else if n = 319 then 193 else if n = 320 then 194 else if n = 321 then 220 else if n = 322 then 221 else if n = 337 then 213 else if n = 338 then 214 else n, fun n => if n = 37 then 52 else if n = 46 then 215 else if n = 51 then 224 else if n = 53 then 193 else if n = 59 then 124 else if n = 75 then 178 else if n = 80 then 261 else if n = 85 then 179 else if n = 105 then 231 else if n = 116 then 207 else if n = 117 then 208 else if n = 119 then 252 else if n = 124 then 211 else if n = 127 then 257 else if n = 138 then 254 else if n = 139 then 255 else if n = 143 then 258 else if n = 145 then 260 else if n = 146 then 241 else if n = 167 then 234 else if n = 168 then 237 else if n = 171 then 199 else if n = 173 then 202 else if n = 175 then 235 else if n = 210 then 248 else if n = 212 then 223 else if n = 213 then 225 else if n = 232 then 250 else if n = 233 then 251 else n, fun n => if n = 1 then 3 else if n = 3 then 8 else if n = 4 then 9 else if n = 15 then 4 else if n = 16 then 5 else if n = 17 then 2 else if n = 18 then 6 else if n = 19 then 7 else n⟩
set_option maxRecDepth 100000 in
theorem lay173 : LaysM.n173 Tryz.prog rho where
  mixed := by kernel_rfl
  f129 := by kernel_rfl
  f173 := by kernel_rfl
  f246 := by kernel_rfl
  f283 := by kernel_rfl
  f284 := by kernel_rfl
  f285 := by kernel_rfl
  f286 := by kernel_rfl
  f317 := by kernel_rfl
  f318 := by kernel_rfl
  f319 := by kernel_rfl
  f320 := by kernel_rfl
  f337 := by kernel_rfl
  f338 := by kernel_rfl
  t0 := Tryz.underlying0
  a0 := fun w => Tryz.isAgg0 w
  z0 := fun w => Tryz.sizeOf0 w
  v0 := fun w => Tryz.zeroValue0 w
  t2 := Tryz.underlying2
  a2 := fun w => Tryz.isAgg2 w
  z2 := fun w => Tryz.sizeOf2 w
  v2 := fun w => Tryz.zeroValue2 w
  t3 := Tryz.underlying3
  a3 := fun w => Tryz.isAgg3 w
  z3 := fun w => Tryz.sizeOf3 w
  v3 := fun w => Tryz.zeroValue3 w
  t4 := Tryz.underlying4
  a4 := fun w => Tryz.isAgg4 w
  z4 := fun w => Tryz.sizeOf4 w
  v4 := fun w => Tryz.zeroValue4 w
  t5 := Tryz.underlying5
  a5 := fun w => Tryz.isAgg5 w
  z5 := fun w => Tryz.sizeOf5 w
  v5 := fun w => Tryz.zeroValue5 w
  t9 := Tryz.underlying9
  a9 := fun w => Tryz.isAgg9 w
  z9 := fun w => Tryz.sizeOf9 w
  v9 := fun w => Tryz.zeroValue9 w
  t20 := Tryz.underlying20
  a20 := fun w => Tryz.isAgg20 w
  z20 := fun w => Tryz.sizeOf20 w
  v20 := fun w => Tryz.zeroValue20 w
  t37 := Tryz.underlying52
  a37 := fun w => Tryz.isAgg52 w
  z37 := fun w => Tryz.sizeOf52 w
  v37 := fun w => Tryz.zeroValue52 w
  t46 := Tryz.underlying215
  a46 := fun w => Tryz.isAgg215 w
  z46 := fun w => Tryz.sizeOf215 w
  v46 := fun w => Tryz.zeroValue215 w
  t51 := Tryz.underlying224
  a51 := fun w => Tryz.isAgg224 w
  z51 := fun w => Tryz.sizeOf224 w
  v51 := fun w => Tryz.zeroValue224 w
  t53 := Tryz.underlying193
  a53 := fun w => Tryz.isAgg193 w
  z53 := fun w => Tryz.sizeOf193 w
  v53 := fun w => Tryz.zeroValue193 w
  t171 := Tryz.underlying199
  a171 := fun w => Tryz.isAgg199 w
  z171 := fun w => Tryz.sizeOf199 w
  v171 := fun w => Tryz.zeroValue199 w
  t173 := Tryz.underlying202
  a173 := fun w => Tryz.isAgg202 w
  z173 := fun w => Tryz.sizeOf202 w
  v173 := fun w => Tryz.zeroValue202 w
  t212 := Tryz.underlying223
  a212 := fun w => Tryz.isAgg223 w
  z212 := fun w => Tryz.sizeOf223 w
  v212 := fun w => Tryz.zeroValue223 w
  t213 := Tryz.underlying225
  a213 := fun w => Tryz.isAgg225 w
  z213 := fun w => Tryz.sizeOf225 w
  t232 := Tryz.underlying250
  a232 := fun w => Tryz.isAgg250 w
  z232 := fun w => Tryz.sizeOf250 w
  v232 := fun w => Tryz.zeroValue250 w
  t233 := Tryz.underlying251
  a233 := fun w => Tryz.isAgg251 w
  z233 := fun w => Tryz.sizeOf251 w
  v233 := fun w => Tryz.zeroValue251 w
  g17 := by kernel_rfl
  g18 := by kernel_rfl
  g19 := by kernel_rfl
  i0 := by kernel_rfl
  i2 := by kernel_rfl
  i3 := by kernel_rfl
  i4 := by kernel_rfl
  i5 := by kernel_rfl
  i9 := by kernel_rfl
  i20 := by kernel_rfl
  i37 := by kernel_rfl
  i46 := by kernel_rfl
  i51 := by kernel_rfl
  i53 := by kernel_rfl
  i171 := by kernel_rfl
  i173 := by kernel_rfl
  i212 := by kernel_rfl
  i232 := by kernel_rfl
  i233 := by kernel_rfl
  m17 := by kernel_rfl
  m18 := by kernel_rfl
  m19 := by kernel_rfl
set_option maxRecDepth 100000 in
theorem lay171 : LaysM.n171 Tryz.prog rho where
  mixed := by kernel_rfl
  f129 := by kernel_rfl
  f171 := by kernel_rfl
  f243 := by kernel_rfl
  f246 := by kernel_rfl
  f283 := by kernel_rfl
  f284 := by kernel_rfl
  f285 := by kernel_rfl
  f286 := by kernel_rfl
  f317 := by kernel_rfl
  f318 := by kernel_rfl
  f319 := by kernel_rfl
  f320 := by kernel_rfl
  f337 := by kernel_rfl
  f338 := by kernel_rfl
  t0 := Tryz.underlying0
  a0 := fun w => Tryz.isAgg0 w
  z0 := fun w => Tryz.sizeOf0 w
  v0 := fun w => Tryz.zeroValue0 w
  t2 := Tryz.underlying2
  a2 := fun w => Tryz.isAgg2 w
  z2 := fun w => Tryz.sizeOf2 w
  v2 := fun w => Tryz.zeroValue2 w
  t3 := Tryz.underlying3
  a3 := fun w => Tryz.isAgg3 w
  z3 := fun w => Tryz.sizeOf3 w
  v3 := fun w => Tryz.zeroValue3 w
  t4 := Tryz.underlying4
  a4 := fun w => Tryz.isAgg4 w
  z4 := fun w => Tryz.sizeOf4 w
  v4 := fun w => Tryz.zeroValue4 w
  t5 := Tryz.underlying5
  a5 := fun w => Tryz.isAgg5 w
  z5 := fun w => Tryz.sizeOf5 w
  v5 := fun w => Tryz.zeroValue5 w
  t9 := Tryz.underlying9
  a9 := fun w => Tryz.isAgg9 w
  z9 := fun w => Tryz.sizeOf9 w
  v9 := fun w => Tryz.zeroValue9 w
  t20 := Tryz.underlying20
  a20 := fun w => Tryz.isAgg20 w
  z20 := fun w => Tryz.sizeOf20 w
  v20 := fun w => Tryz.zeroValue20 w
  t37 := Tryz.underlying52
  a37 := fun w => Tryz.isAgg52 w
  z37 := fun w => Tryz.sizeOf52 w
  v37 := fun w => Tryz.zeroValue52 w
  t46 := Tryz.underlying215
  a46 := fun w => Tryz.isAgg215 w
  z46 := fun w => Tryz.sizeOf215 w
  v46 := fun w => Tryz.zeroValue215 w
  t51 := Tryz.underlying224
  a51 := fun w => Tryz.isAgg224 w
  z51 := fun w => Tryz.sizeOf224 w
  v51 := fun w => Tryz.zeroValue224 w
  t53 := Tryz.underlying193
  a53 := fun w => Tryz.isAgg193 w
  z53 := fun w => Tryz.sizeOf193 w
  v53 := fun w => Tryz.zeroValue193 w
  t171 := Tryz.underlying199
  a171 := fun w => Tryz.isAgg199 w
  z171 := fun w => Tryz.sizeOf199 w
  v171 := fun w => Tryz.zeroValue199 w
  t173 := Tryz.underlying202
  a173 := fun w => Tryz.isAgg202 w
  z173 := fun w => Tryz.sizeOf202 w
  v173 := fun w => Tryz.zeroValue202 w
  t212 := Tryz.underlying223
  a212 := fun w => Tryz.isAgg223 w
  z212 := fun w => Tryz.sizeOf223 w
  v212 := fun w => Tryz.zeroValue223 w
  t213 := Tryz.underlying225
  a213 := fun w => Tryz.isAgg225 w
  z213 := fun w => Tryz.sizeOf225 w
  t232 := Tryz.underlying250
  a232 := fun w => Tryz.isAgg250 w
  z232 := fun w => Tryz.sizeOf250 w
  v232 := fun w => Tryz.zeroValue250 w
  t233 := Tryz.underlying251
  a233 := fun w => Tryz.isAgg251 w
  z233 := fun w => Tryz.sizeOf251 w
  v233 := fun w => Tryz.zeroValue251 w
  g17 := by kernel_rfl
  g18 := by kernel_rfl
  g19 := by kernel_rfl
  i0 := by kernel_rfl
  i2 := by kernel_rfl
  i3 := by kernel_rfl
  i4 := by kernel_rfl
  i5 := by kernel_rfl
  i9 := by kernel_rfl
  i20 := by kernel_rfl
  i37 := by kernel_rfl
  i46 := by kernel_rfl
  i51 := by kernel_rfl
  i53 := by kernel_rfl
  i171 := by kernel_rfl
  i173 := by kernel_rfl
  i212 := by kernel_rfl
  i232 := by kernel_rfl
  i233 := by kernel_rfl
  m17 := by kernel_rfl
  m18 := by kernel_rfl
  m19 := by kernel_rfl
set_option maxRecDepth 100000 in
theorem lay101 : Lays.n101 Tryz.prog rho where
  mixed := by kernel_rfl
  f101 := by kernel_rfl
  f206 := by kernel_rfl
  f208 := by kernel_rfl
  t3 := Tryz.underlying3
  a3 := fun w => Tryz.isAgg3 w
  z3 := fun w => Tryz.sizeOf3 w
  v3 := fun w => Tryz.zeroValue3 w
  t4 := Tryz.underlying4
  a4 := fun w => Tryz.isAgg4 w
  z4 := fun w => Tryz.sizeOf4 w
  v4 := fun w => Tryz.zeroValue4 w
  t9 := Tryz.underlying9
  a9 := fun w => Tryz.isAgg9 w
  z9 := fun w => Tryz.sizeOf9 w
  v9 := fun w => Tryz.zeroValue9 w
set_option maxRecDepth 100000 in
theorem lay160 : Lays.n160 Tryz.prog rho where
  mixed := by kernel_rfl
  f119 := by kernel_rfl
  f120 := by kernel_rfl
  f137 := by kernel_rfl
  f151 := by kernel_rfl
  f152 := by kernel_rfl
  f160 := by kernel_rfl
  f197 := by kernel_rfl
  f217 := by kernel_rfl
  f224 := by kernel_rfl
  f225 := by kernel_rfl
  f227 := by kernel_rfl
  f228 := by kernel_rfl
  f231 := by kernel_rfl
  f232 := by kernel_rfl
  f233 := by kernel_rfl
  f234 := by kernel_rfl
  f235 := by kernel_rfl
  f236 := by kernel_rfl
  f260 := by kernel_rfl
  f266 := by kernel_rfl
  f271 := by kernel_rfl
  t0 := Tryz.underlying0
  a0 := fun w => Tryz.isAgg0 w
  z0 := fun w => Tryz.sizeOf0 w
  v0 := fun w => Tryz.zeroValue0 w
  t3 := Tryz.underlying3
  a3 := fun w => Tryz.isAgg3 w
  z3 := fun w => Tryz.sizeOf3 w
  v3 := fun w => Tryz.zeroValue3 w
  t4 := Tryz.underlying4
  a4 := fun w => Tryz.isAgg4 w
  z4 := fun w => Tryz.sizeOf4 w
  v4 := fun w => Tryz.zeroValue4 w
  t5 := Tryz.underlying5
  a5 := fun w => Tryz.isAgg5 w
  z5 := fun w => Tryz.sizeOf5 w
  v5 := fun w => Tryz.zeroValue5 w
  t9 := Tryz.underlying9
  a9 := fun w => Tryz.isAgg9 w
  z9 := fun w => Tryz.sizeOf9 w
  v9 := fun w => Tryz.zeroValue9 w
  t21 := Tryz.underlying21
  a21 := fun w => Tryz.isAgg21 w
  z21 := fun w => Tryz.sizeOf21 w
  v21 := fun w => Tryz.zeroValue21 w
  t46 := Tryz.underlying215
  a46 := fun w => Tryz.isAgg215 w
  z46 := fun w => Tryz.sizeOf215 w
  v46 := fun w => Tryz.zeroValue215 w
  t105 := Tryz.underlying231
  a105 := fun w => Tryz.isAgg231 w
  z105 := fun w => Tryz.sizeOf231 w
  v105 := fun w => Tryz.zeroValue231 w
  t116 := Tryz.underlying207
  a116 := fun w => Tryz.isAgg207 w
  z116 := fun w => Tryz.sizeOf207 w
  t117 := Tryz.underlying208
  a117 := fun w => Tryz.isAgg208 w
  z117 := fun w => Tryz.sizeOf208 w
  v117 := fun w => Tryz.zeroValue208 w
  t119 := Tryz.underlying252
  a119 := fun w => Tryz.isAgg252 w
  z119 := fun w => Tryz.sizeOf252 w
  t124 := Tryz.underlying211
  a124 := fun w => Tryz.isAgg211 w
  z124 := fun w => Tryz.sizeOf211 w
  v124 := fun w => Tryz.zeroValue211 w
  t138 := Tryz.underlying254
  a138 := fun w => Tryz.isAgg254 w
  z138 := fun w => Tryz.sizeOf254 w
  v138 := fun w => Tryz.zeroValue254 w
  t139 := Tryz.underlying255
  a139 := fun w => Tryz.isAgg255 w
  z139 := fun w => Tryz.sizeOf255 w
  v139 := fun w => Tryz.zeroValue255 w
  g3 := by kernel_rfl
  g4 := by kernel_rfl
set_option maxRecDepth 100000 in
theorem lay145 : LaysM.n145 Tryz.prog rho where
  mixed := by kernel_rfl
  f145 := by kernel_rfl
  f217 := by kernel_rfl
  f219 := by kernel_rfl
  f220 := by kernel_rfl
  f224 := by kernel_rfl
  f225 := by kernel_rfl
  f266 := by kernel_rfl
  f267 := by kernel_rfl
  f314 := by kernel_rfl
  t3 := Tryz.underlying3
  a3 := fun w => Tryz.isAgg3 w
  z3 := fun w => Tryz.sizeOf3 w
  v3 := fun w => Tryz.zeroValue3 w
  t4 := Tryz.underlying4
  a4 := fun w => Tryz.isAgg4 w
  z4 := fun w => Tryz.sizeOf4 w
  v4 := fun w => Tryz.zeroValue4 w
  t5 := Tryz.underlying5
  a5 := fun w => Tryz.isAgg5 w
  z5 := fun w => Tryz.sizeOf5 w
  v5 := fun w => Tryz.zeroValue5 w
  t9 := Tryz.underlying9
  a9 := fun w => Tryz.isAgg9 w
  z9 := fun w => Tryz.sizeOf9 w
  v9 := fun w => Tryz.zeroValue9 w
  t46 := Tryz.underlying215
  a46 := fun w => Tryz.isAgg215 w
  z46 := fun w => Tryz.sizeOf215 w
  v46 := fun w => Tryz.zeroValue215 w
  t51 := Tryz.underlying224
  a51 := fun w => Tryz.isAgg224 w
  z51 := fun w => Tryz.sizeOf224 w
  v51 := fun w => Tryz.zeroValue224 w
  t59 := Tryz.underlying124
  a59 := fun w => Tryz.isAgg124 w
  z59 := fun w => Tryz.sizeOf124 w
  v59 := fun w => Tryz.zeroValue124 w
  t146 := Tryz.underlying241
  a146 := fun w => Tryz.isAgg241 w
  z146 := fun w => Tryz.sizeOf241 w
  v146 := fun w => Tryz.zeroValue241 w
  g1 := by kernel_rfl
  i3 := by kernel_rfl
  i4 := by kernel_rfl
  i5 := by kernel_rfl
  i9 := by kernel_rfl
  i46 := by kernel_rfl
  i51 := by kernel_rfl
  i59 := by kernel_rfl
  i146 := by kernel_rfl
  m1 := by kernel_rfl
  s1_3 := fun w h => cell_of_shapedOpen_int h (of_decide_eq_true (Eq.refl true)) (Eq.refl (some (#[Value.int IntKind.i64 0], 3))) rfl (Eq.refl true) (Eq.refl (some [3])) Tryz.underlying3
set_option maxRecDepth 100000 in
theorem lay174 : LaysC.n174 Tryz.prog rho where
  mixed := by kernel_rfl
  f129 := by kernel_rfl
  f171 := by kernel_rfl
  f174 := by kernel_rfl
  f205 := by kernel_rfl
  f243 := by kernel_rfl
  f245 := by kernel_rfl
  f246 := by kernel_rfl
  f247 := by kernel_rfl
  f279 := by kernel_rfl
  f280 := by kernel_rfl
  f281 := by kernel_rfl
  f282 := by kernel_rfl
  f283 := by kernel_rfl
  f284 := by kernel_rfl
  f285 := by kernel_rfl
  f286 := by kernel_rfl
  f287 := by kernel_rfl
  f316 := by kernel_rfl
  f317 := by kernel_rfl
  f318 := by kernel_rfl
  f319 := by kernel_rfl
  f320 := by kernel_rfl
  f321 := by kernel_rfl
  f322 := by kernel_rfl
  f337 := by kernel_rfl
  f338 := by kernel_rfl
  t0 := Tryz.underlying0
  a0 := fun w => Tryz.isAgg0 w
  z0 := fun w => Tryz.sizeOf0 w
  v0 := fun w => Tryz.zeroValue0 w
  t2 := Tryz.underlying2
  a2 := fun w => Tryz.isAgg2 w
  z2 := fun w => Tryz.sizeOf2 w
  v2 := fun w => Tryz.zeroValue2 w
  t3 := Tryz.underlying3
  a3 := fun w => Tryz.isAgg3 w
  z3 := fun w => Tryz.sizeOf3 w
  v3 := fun w => Tryz.zeroValue3 w
  t4 := Tryz.underlying4
  a4 := fun w => Tryz.isAgg4 w
  z4 := fun w => Tryz.sizeOf4 w
  v4 := fun w => Tryz.zeroValue4 w
  t5 := Tryz.underlying5
  a5 := fun w => Tryz.isAgg5 w
  z5 := fun w => Tryz.sizeOf5 w
  v5 := fun w => Tryz.zeroValue5 w
  t9 := Tryz.underlying9
  a9 := fun w => Tryz.isAgg9 w
  z9 := fun w => Tryz.sizeOf9 w
  v9 := fun w => Tryz.zeroValue9 w
  t20 := Tryz.underlying20
  a20 := fun w => Tryz.isAgg20 w
  z20 := fun w => Tryz.sizeOf20 w
  v20 := fun w => Tryz.zeroValue20 w
  t21 := Tryz.underlying21
  a21 := fun w => Tryz.isAgg21 w
  z21 := fun w => Tryz.sizeOf21 w
  v21 := fun w => Tryz.zeroValue21 w
  t37 := Tryz.underlying52
  a37 := fun w => Tryz.isAgg52 w
  z37 := fun w => Tryz.sizeOf52 w
  v37 := fun w => Tryz.zeroValue52 w
  t46 := Tryz.underlying215
  a46 := fun w => Tryz.isAgg215 w
  z46 := fun w => Tryz.sizeOf215 w
  v46 := fun w => Tryz.zeroValue215 w
  t51 := Tryz.underlying224
  a51 := fun w => Tryz.isAgg224 w
  z51 := fun w => Tryz.sizeOf224 w
  v51 := fun w => Tryz.zeroValue224 w
  t53 := Tryz.underlying193
  a53 := fun w => Tryz.isAgg193 w
  z53 := fun w => Tryz.sizeOf193 w
  v53 := fun w => Tryz.zeroValue193 w
  t75 := Tryz.underlying178
  a75 := fun w => Tryz.isAgg178 w
  z75 := fun w => Tryz.sizeOf178 w
  v75 := fun w => Tryz.zeroValue178 w
  t85 := Tryz.underlying179
  a85 := fun w => Tryz.isAgg179 w
  z85 := fun w => Tryz.sizeOf179 w
  v85 := fun w => Tryz.zeroValue179 w
  t127 := Tryz.underlying257
  a127 := fun w => Tryz.isAgg257 w
  z127 := fun w => Tryz.sizeOf257 w
  v127 := fun w => Tryz.zeroValue257 w
  t143 := Tryz.underlying258
  a143 := fun w => Tryz.isAgg258 w
  z143 := fun w => Tryz.sizeOf258 w
  v143 := fun w => Tryz.zeroValue258 w
  t145 := Tryz.underlying260
  a145 := fun w => Tryz.isAgg260 w
  z145 := fun w => Tryz.sizeOf260 w
  v145 := fun w => Tryz.zeroValue260 w
  t167 := Tryz.underlying234
  a167 := fun w => Tryz.isAgg234 w
  z167 := fun w => Tryz.sizeOf234 w
  v167 := fun w => Tryz.zeroValue234 w
  t168 := Tryz.underlying237
  a168 := fun w => Tryz.isAgg237 w
  z168 := fun w => Tryz.sizeOf237 w
  v168 := fun w => Tryz.zeroValue237 w
  t171 := Tryz.underlying199
  a171 := fun w => Tryz.isAgg199 w
  z171 := fun w => Tryz.sizeOf199 w
  v171 := fun w => Tryz.zeroValue199 w
  t173 := Tryz.underlying202
  a173 := fun w => Tryz.isAgg202 w
  z173 := fun w => Tryz.sizeOf202 w
  v173 := fun w => Tryz.zeroValue202 w
  t175 := Tryz.underlying235
  a175 := fun w => Tryz.isAgg235 w
  z175 := fun w => Tryz.sizeOf235 w
  v175 := fun w => Tryz.zeroValue235 w
  t210 := Tryz.underlying248
  a210 := fun w => Tryz.isAgg248 w
  z210 := fun w => Tryz.sizeOf248 w
  v210 := fun w => Tryz.zeroValue248 w
  t212 := Tryz.underlying223
  a212 := fun w => Tryz.isAgg223 w
  z212 := fun w => Tryz.sizeOf223 w
  v212 := fun w => Tryz.zeroValue223 w
  t213 := Tryz.underlying225
  a213 := fun w => Tryz.isAgg225 w
  z213 := fun w => Tryz.sizeOf225 w
  t232 := Tryz.underlying250
  a232 := fun w => Tryz.isAgg250 w
  z232 := fun w => Tryz.sizeOf250 w
  v232 := fun w => Tryz.zeroValue250 w
  t233 := Tryz.underlying251
  a233 := fun w => Tryz.isAgg251 w
  z233 := fun w => Tryz.sizeOf251 w
  v233 := fun w => Tryz.zeroValue251 w
  g15 := by kernel_rfl
  g16 := by kernel_rfl
  g17 := by kernel_rfl
  g18 := by kernel_rfl
  g19 := by kernel_rfl
  t80 := Tryz.underlying261
  a80 := fun w => Tryz.isAgg261 w
  z80 := fun w => Tryz.sizeOf261 w
  v80 := fun w => Tryz.zeroValue261 w
  i0 := by kernel_rfl
  i2 := by kernel_rfl
  i3 := by kernel_rfl
  i4 := by kernel_rfl
  i5 := by kernel_rfl
  i9 := by kernel_rfl
  i20 := by kernel_rfl
  i21 := by kernel_rfl
  i37 := by kernel_rfl
  i46 := by kernel_rfl
  i51 := by kernel_rfl
  i53 := by kernel_rfl
  i75 := by kernel_rfl
  i80 := by kernel_rfl
  i85 := by kernel_rfl
  i127 := by kernel_rfl
  i143 := by kernel_rfl
  i145 := by kernel_rfl
  i167 := by kernel_rfl
  i168 := by kernel_rfl
  i171 := by kernel_rfl
  i173 := by kernel_rfl
  i175 := by kernel_rfl
  i210 := by kernel_rfl
  i212 := by kernel_rfl
  i232 := by kernel_rfl
  i233 := by kernel_rfl
  m15 := by kernel_rfl
  m16 := by kernel_rfl
  m17 := by kernel_rfl
  m18 := by kernel_rfl
  m19 := by kernel_rfl
  c0 := by kernel_rfl
  c2 := by kernel_rfl
  c3 := by kernel_rfl
  c4 := by kernel_rfl
  c5 := by kernel_rfl
  c9 := by kernel_rfl
  c20 := by kernel_rfl
  c21 := by kernel_rfl
  c37 := by kernel_rfl
  c46 := by kernel_rfl
  c51 := by kernel_rfl
  c53 := by kernel_rfl
  c75 := by kernel_rfl
  c80 := by kernel_rfl
  c85 := by kernel_rfl
  c127 := by kernel_rfl
  c143 := by kernel_rfl
  c145 := by kernel_rfl
  c167 := by kernel_rfl
  c168 := by kernel_rfl
  c171 := by kernel_rfl
  c173 := by kernel_rfl
  c175 := by kernel_rfl
  c210 := by kernel_rfl
  c212 := by kernel_rfl
  c213 := by kernel_rfl
  c232 := by kernel_rfl
  c233 := by kernel_rfl
/-- The table of powers of ten holds what it was laid with. -/
def Tab (w : World) : Prop := Lib.TabIs Tryz.prog w "internal/strconv.uint64pow10" .u64 Lib.pow10Tab
theorem tab_below {w w' : World} (h : Tab w) (hb : Below w.heap.size w w') : Tab w' := Lib.tabBelow_of_tabIs h w' hb
theorem fmtint_run (n : Int) (h0 : -9223372036854775808 ≤ n) (h1 : n ≤ 9223372036854775807) (w : World) (hT : Tab w) : Calls Tryz.prog 65 #[.int .i64 n, .int .i64 10] w fun e w' => e = .returned (SB (Lib.itoa n)) ∧ Below w.heap.size w w' := by
  have h := Any.strconv_FormatInt_10 lay173 n h0 h1 w hT
  rw [show rho.f 173 = 65 by kernel_rfl] at h
  refine h.mono ?_
  rintro e w' ⟨rfl, k, os, rfl⟩
  exact ⟨rfl, Lib.below_grow _ _ (Nat.le_refl _) _ _⟩
theorem itoa_run (n : Int) (h0 : -9223372036854775808 ≤ n) (h1 : n ≤ 9223372036854775807) (w : World) (hT : Tab w) : Calls Tryz.prog 125 #[.int .i64 n] w fun e w' => e = .returned (SB (Lib.itoa n)) ∧ Below w.heap.size w w' := by
  have h := Any.strconv_Itoa lay171 n h0 h1 w hT
  rw [show rho.f 171 = 125 by kernel_rfl] at h
  refine h.mono ?_
  rintro e w' ⟨rfl, k, os, rfl⟩
  exact ⟨rfl, Lib.below_grow _ _ (Nat.le_refl _) _ _⟩
end Go.Proofs.YtpmdgmnpkdoamabGreatDoor.Vc
