/- The library contracts laid at this seat, in the plain words that a tool of the kit has written. -/
import Derived.Shelf.Small.Wraps
import Derived.Shelf.Strings.Prefix
import Derived.Shelf.Strings.Split
import Derived.Shelf.Strings.Cut
import Derived.Shelf.Strings.Search3
import Derived.Shelf.Small.Strs
import Derived.Shelf.Strings.Builder1
import Derived.Shelf.Strconv.Atoi
import Derived.Shelf.Strconv.Itoa3
import Derived.Shelf.Strings.Repeat
import Derived.Test.YtkfpiadgjbhcpaaGreatDoorProg
import Derived.WalkKit
import Derived.Orders
namespace Go.Proofs
open Go.Shelf
def Tryz.lays99_ren : Go.Shelf.Ren := ⟨fun | 99 => 178 | 206 => 227 | n => n, fun | 9 => 9 | 4 => 4 | 3 => 3 | n => n, fun | n => n⟩
theorem Tryz.lays99 : Go.Proofs.Lays.n99 Tryz.prog Tryz.lays99_ren := {
  mixed := by kernel_rfl
  f99 := Tryz.func178.trans (congrArg some (by kernel_rfl))
  f206 := Tryz.func227.trans (congrArg some (by kernel_rfl))
  t3 := Tryz.underlying3
  a3 := Tryz.isAgg3
  z3 := Tryz.sizeOf3
  v3 := Tryz.zeroValue3
  t4 := Tryz.underlying4
  a4 := Tryz.isAgg4
  z4 := Tryz.sizeOf4
  v4 := Tryz.zeroValue4
  t9 := Tryz.underlying9
  a9 := Tryz.isAgg9
  z9 := Tryz.sizeOf9
  v9 := Tryz.zeroValue9 }
def Tryz.lays100_ren : Go.Shelf.Ren := ⟨fun | 100 => 187 | 207 => 242 | n => n, fun | 9 => 9 | 4 => 4 | 3 => 3 | n => n, fun | n => n⟩
theorem Tryz.lays100 : Go.Proofs.Lays.n100 Tryz.prog Tryz.lays100_ren := {
  mixed := by kernel_rfl
  f100 := Tryz.func187.trans (congrArg some (by kernel_rfl))
  f207 := Tryz.func242.trans (congrArg some (by kernel_rfl))
  t3 := Tryz.underlying3
  a3 := Tryz.isAgg3
  z3 := Tryz.sizeOf3
  v3 := Tryz.zeroValue3
  t4 := Tryz.underlying4
  a4 := Tryz.isAgg4
  z4 := Tryz.sizeOf4
  v4 := Tryz.zeroValue4
  t9 := Tryz.underlying9
  a9 := Tryz.isAgg9
  z9 := Tryz.sizeOf9
  v9 := Tryz.zeroValue9 }
def Tryz.lays144_ren : Go.Shelf.Ren := ⟨fun | 144 => 217 | 143 => 182 | 219 => 231 | 217 => 276 | 225 => 277 | 224 => 278 | 267 => 279 | 266 => 300 | 314 => 301 | n => n, fun | 9 => 9 | 4 => 4 | 3 => 3 | 5 => 5 | 46 => 260 | 146 => 296 | 51 => 295 | n => n, fun | 1 => 1 | n => n⟩
theorem Tryz.lays144 : Go.Proofs.Lays.n144 Tryz.prog Tryz.lays144_ren := {
  mixed := by kernel_rfl
  f143 := Tryz.func182.trans (congrArg some (by kernel_rfl))
  f144 := Tryz.func217.trans (congrArg some (by kernel_rfl))
  f217 := Tryz.func276.trans (congrArg some (by kernel_rfl))
  f219 := Tryz.func231.trans (congrArg some (by kernel_rfl))
  f224 := Tryz.func278.trans (congrArg some (by kernel_rfl))
  f225 := Tryz.func277.trans (congrArg some (by kernel_rfl))
  f266 := Tryz.func300.trans (congrArg some (by kernel_rfl))
  f267 := Tryz.func279.trans (congrArg some (by kernel_rfl))
  f314 := Tryz.func301.trans (congrArg some (by kernel_rfl))
  t3 := Tryz.underlying3
  a3 := Tryz.isAgg3
  z3 := Tryz.sizeOf3
  v3 := Tryz.zeroValue3
  t4 := Tryz.underlying4
  a4 := Tryz.isAgg4
  z4 := Tryz.sizeOf4
  v4 := Tryz.zeroValue4
  t5 := Tryz.underlying5
  a5 := Tryz.isAgg5
  z5 := Tryz.sizeOf5
  v5 := Tryz.zeroValue5
  t9 := Tryz.underlying9
  a9 := Tryz.isAgg9
  z9 := Tryz.sizeOf9
  v9 := Tryz.zeroValue9
  t46 := Tryz.underlying260
  a46 := Tryz.isAgg260
  z46 := Tryz.sizeOf260
  v46 := Tryz.zeroValue260
  t51 := Tryz.underlying295
  a51 := Tryz.isAgg295
  z51 := Tryz.sizeOf295
  v51 := Tryz.zeroValue295
  t146 := Tryz.underlying296
  a146 := Tryz.isAgg296
  z146 := Tryz.sizeOf296
  v146 := Tryz.zeroValue296
  g1 := by kernel_rfl }
def Tryz.lays137_ren : Go.Shelf.Ren := ⟨fun | 137 => 299 | 217 => 276 | 266 => 300 | n => n, fun | 9 => 9 | 5 => 5 | 3 => 3 | n => n, fun | n => n⟩
theorem Tryz.lays137 : Go.Proofs.Lays.n137 Tryz.prog Tryz.lays137_ren := {
  mixed := by kernel_rfl
  f137 := Tryz.func299.trans (congrArg some (by kernel_rfl))
  f217 := Tryz.func276.trans (congrArg some (by kernel_rfl))
  f266 := Tryz.func300.trans (congrArg some (by kernel_rfl))
  t3 := Tryz.underlying3
  a3 := Tryz.isAgg3
  z3 := Tryz.sizeOf3
  v3 := Tryz.zeroValue3
  t5 := Tryz.underlying5
  a5 := Tryz.isAgg5
  z5 := Tryz.sizeOf5
  v5 := Tryz.zeroValue5
  t9 := Tryz.underlying9
  a9 := Tryz.isAgg9
  z9 := Tryz.sizeOf9
  v9 := Tryz.zeroValue9 }
def Tryz.lays106_ren : Go.Shelf.Ren := ⟨fun | 106 => 146 | 213 => 213 | 265 => 269 | n => n, fun | 9 => 9 | 3 => 3 | n => n, fun | n => n⟩
theorem Tryz.lays106 : Go.Proofs.Lays.n106 Tryz.prog Tryz.lays106_ren := {
  mixed := by kernel_rfl
  f106 := Tryz.func146.trans (congrArg some (by kernel_rfl))
  f213 := Tryz.func213.trans (congrArg some (by kernel_rfl))
  f265 := Tryz.func269.trans (congrArg some (by kernel_rfl))
  t3 := Tryz.underlying3
  a3 := Tryz.isAgg3
  z3 := Tryz.sizeOf3
  v3 := Tryz.zeroValue3
  t9 := Tryz.underlying9
  a9 := Tryz.isAgg9
  z9 := Tryz.sizeOf9
  v9 := Tryz.zeroValue9 }
def Tryz.lays172_ren : Go.Shelf.Ren := ⟨fun | 172 => 121 | 244 => 184 | 245 => 185 | 247 => 236 | 279 => 237 | 280 => 238 | 281 => 239 | 282 => 240 | 287 => 282 | 316 => 283 | 171 => 76 | 205 => 284 | 321 => 303 | 322 => 304 | 243 => 132 | 246 => 199 | 283 => 264 | 284 => 265 | 285 => 266 | 286 => 267 | 129 => 263 | 317 => 295 | 318 => 296 | 319 => 297 | 320 => 298 | 337 => 310 | 338 => 311 | n => n, fun | 9 => 9 | 3 => 3 | 75 => 134 | 76 => 135 | 4 => 4 | 5 => 5 | 167 => 312 | 37 => 130 | 0 => 0 | 85 => 313 | 2 => 2 | 168 => 315 | 53 => 298 | 175 => 340 | 46 => 260 | 210 => 344 | 127 => 203 | 145 => 368 | 143 => 366 | 21 => 21 | 171 => 333 | 173 => 335 | 212 => 358 | 51 => 295 | 20 => 20 | 213 => 359 | 232 => 384 | 233 => 385 | 80 => 140 | n => n, fun | 15 => 2 | 16 => 3 | 17 => 5 | 18 => 8 | 19 => 9 | n => n⟩
theorem Tryz.lays172 : Go.Proofs.Lays.n172 Tryz.prog Tryz.lays172_ren := {
  mixed := by kernel_rfl
  f129 := Tryz.func263.trans (congrArg some (by kernel_rfl))
  f171 := Tryz.func76.trans (congrArg some (by kernel_rfl))
  f172 := Tryz.func121.trans (congrArg some (by kernel_rfl))
  f205 := Tryz.func284.trans (congrArg some (by kernel_rfl))
  f243 := Tryz.func132.trans (congrArg some (by kernel_rfl))
  f244 := Tryz.func184.trans (congrArg some (by kernel_rfl))
  f245 := Tryz.func185.trans (congrArg some (by kernel_rfl))
  f246 := Tryz.func199.trans (congrArg some (by kernel_rfl))
  f247 := Tryz.func236.trans (congrArg some (by kernel_rfl))
  f279 := Tryz.func237.trans (congrArg some (by kernel_rfl))
  f280 := Tryz.func238.trans (congrArg some (by kernel_rfl))
  f281 := Tryz.func239.trans (congrArg some (by kernel_rfl))
  f282 := Tryz.func240.trans (congrArg some (by kernel_rfl))
  f283 := Tryz.func264.trans (congrArg some (by kernel_rfl))
  f284 := Tryz.func265.trans (congrArg some (by kernel_rfl))
  f285 := Tryz.func266.trans (congrArg some (by kernel_rfl))
  f286 := Tryz.func267.trans (congrArg some (by kernel_rfl))
  f287 := Tryz.func282.trans (congrArg some (by kernel_rfl))
  f316 := Tryz.func283.trans (congrArg some (by kernel_rfl))
  f317 := Tryz.func295.trans (congrArg some (by kernel_rfl))
  f318 := Tryz.func296.trans (congrArg some (by kernel_rfl))
  f319 := Tryz.func297.trans (congrArg some (by kernel_rfl))
  f320 := Tryz.func298.trans (congrArg some (by kernel_rfl))
  f321 := Tryz.func303.trans (congrArg some (by kernel_rfl))
  f322 := Tryz.func304.trans (congrArg some (by kernel_rfl))
  f337 := Tryz.func310.trans (congrArg some (by kernel_rfl))
  f338 := Tryz.func311.trans (congrArg some (by kernel_rfl))
  t0 := Tryz.underlying0
  a0 := Tryz.isAgg0
  z0 := Tryz.sizeOf0
  v0 := Tryz.zeroValue0
  t2 := Tryz.underlying2
  a2 := Tryz.isAgg2
  z2 := Tryz.sizeOf2
  v2 := Tryz.zeroValue2
  t3 := Tryz.underlying3
  a3 := Tryz.isAgg3
  z3 := Tryz.sizeOf3
  v3 := Tryz.zeroValue3
  t4 := Tryz.underlying4
  a4 := Tryz.isAgg4
  z4 := Tryz.sizeOf4
  v4 := Tryz.zeroValue4
  t5 := Tryz.underlying5
  a5 := Tryz.isAgg5
  z5 := Tryz.sizeOf5
  v5 := Tryz.zeroValue5
  t9 := Tryz.underlying9
  a9 := Tryz.isAgg9
  z9 := Tryz.sizeOf9
  v9 := Tryz.zeroValue9
  t20 := Tryz.underlying20
  a20 := Tryz.isAgg20
  z20 := Tryz.sizeOf20
  v20 := Tryz.zeroValue20
  t21 := Tryz.underlying21
  a21 := Tryz.isAgg21
  z21 := Tryz.sizeOf21
  v21 := Tryz.zeroValue21
  t37 := Tryz.underlying130
  a37 := Tryz.isAgg130
  z37 := Tryz.sizeOf130
  v37 := Tryz.zeroValue130
  t46 := Tryz.underlying260
  a46 := Tryz.isAgg260
  z46 := Tryz.sizeOf260
  v46 := Tryz.zeroValue260
  t51 := Tryz.underlying295
  a51 := Tryz.isAgg295
  z51 := Tryz.sizeOf295
  v51 := Tryz.zeroValue295
  t53 := Tryz.underlying298
  a53 := Tryz.isAgg298
  z53 := Tryz.sizeOf298
  v53 := Tryz.zeroValue298
  t75 := Tryz.underlying134
  a75 := Tryz.isAgg134
  z75 := Tryz.sizeOf134
  v75 := Tryz.zeroValue134
  t76 := Tryz.underlying135
  a76 := Tryz.isAgg135
  z76 := Tryz.sizeOf135
  v76 := Tryz.zeroValue135
  t85 := Tryz.underlying313
  a85 := Tryz.isAgg313
  z85 := Tryz.sizeOf313
  v85 := Tryz.zeroValue313
  t127 := Tryz.underlying203
  a127 := Tryz.isAgg203
  z127 := Tryz.sizeOf203
  v127 := Tryz.zeroValue203
  t143 := Tryz.underlying366
  a143 := Tryz.isAgg366
  z143 := Tryz.sizeOf366
  v143 := Tryz.zeroValue366
  t145 := Tryz.underlying368
  a145 := Tryz.isAgg368
  z145 := Tryz.sizeOf368
  v145 := Tryz.zeroValue368
  t167 := Tryz.underlying312
  a167 := Tryz.isAgg312
  z167 := Tryz.sizeOf312
  v167 := Tryz.zeroValue312
  t168 := Tryz.underlying315
  a168 := Tryz.isAgg315
  z168 := Tryz.sizeOf315
  v168 := Tryz.zeroValue315
  t171 := Tryz.underlying333
  a171 := Tryz.isAgg333
  z171 := Tryz.sizeOf333
  v171 := Tryz.zeroValue333
  t173 := Tryz.underlying335
  a173 := Tryz.isAgg335
  z173 := Tryz.sizeOf335
  v173 := Tryz.zeroValue335
  t175 := Tryz.underlying340
  a175 := Tryz.isAgg340
  z175 := Tryz.sizeOf340
  v175 := Tryz.zeroValue340
  t210 := Tryz.underlying344
  a210 := Tryz.isAgg344
  z210 := Tryz.sizeOf344
  v210 := Tryz.zeroValue344
  t212 := Tryz.underlying358
  a212 := Tryz.isAgg358
  z212 := Tryz.sizeOf358
  v212 := Tryz.zeroValue358
  t213 := Tryz.underlying359
  a213 := Tryz.isAgg359
  z213 := Tryz.sizeOf359
  t232 := Tryz.underlying384
  a232 := Tryz.isAgg384
  z232 := Tryz.sizeOf384
  v232 := Tryz.zeroValue384
  t233 := Tryz.underlying385
  a233 := Tryz.isAgg385
  z233 := Tryz.sizeOf385
  v233 := Tryz.zeroValue385
  g15 := by kernel_rfl
  g16 := by kernel_rfl
  g17 := by kernel_rfl
  g18 := by kernel_rfl
  g19 := by kernel_rfl }
def Tryz.laysM171_ren : Go.Shelf.Ren := ⟨fun | 171 => 76 | 243 => 132 | 246 => 199 | 283 => 264 | 284 => 265 | 285 => 266 | 286 => 267 | 129 => 263 | 317 => 295 | 318 => 296 | 319 => 297 | 320 => 298 | 337 => 310 | 338 => 311 | n => n, fun | 3 => 3 | 9 => 9 | 2 => 2 | 4 => 4 | 171 => 333 | 0 => 0 | 53 => 298 | 37 => 130 | 5 => 5 | 173 => 335 | 212 => 358 | 51 => 295 | 20 => 20 | 213 => 359 | 46 => 260 | 232 => 384 | 233 => 385 | n => n, fun | 17 => 5 | 18 => 8 | 19 => 9 | n => n⟩
theorem Tryz.laysM171 : Go.Proofs.LaysM.n171 Tryz.prog Tryz.laysM171_ren := {
  mixed := by kernel_rfl
  f129 := Tryz.func263.trans (congrArg some (by kernel_rfl))
  f171 := Tryz.func76.trans (congrArg some (by kernel_rfl))
  f243 := Tryz.func132.trans (congrArg some (by kernel_rfl))
  f246 := Tryz.func199.trans (congrArg some (by kernel_rfl))
  f283 := Tryz.func264.trans (congrArg some (by kernel_rfl))
  f284 := Tryz.func265.trans (congrArg some (by kernel_rfl))
  f285 := Tryz.func266.trans (congrArg some (by kernel_rfl))
  f286 := Tryz.func267.trans (congrArg some (by kernel_rfl))
  f317 := Tryz.func295.trans (congrArg some (by kernel_rfl))
  f318 := Tryz.func296.trans (congrArg some (by kernel_rfl))
  f319 := Tryz.func297.trans (congrArg some (by kernel_rfl))
  f320 := Tryz.func298.trans (congrArg some (by kernel_rfl))
  f337 := Tryz.func310.trans (congrArg some (by kernel_rfl))
  f338 := Tryz.func311.trans (congrArg some (by kernel_rfl))
  t0 := Tryz.underlying0
  a0 := Tryz.isAgg0
  z0 := Tryz.sizeOf0
  v0 := Tryz.zeroValue0
  t2 := Tryz.underlying2
  a2 := Tryz.isAgg2
  z2 := Tryz.sizeOf2
  v2 := Tryz.zeroValue2
  t3 := Tryz.underlying3
  a3 := Tryz.isAgg3
  z3 := Tryz.sizeOf3
  v3 := Tryz.zeroValue3
  t4 := Tryz.underlying4
  a4 := Tryz.isAgg4
  z4 := Tryz.sizeOf4
  v4 := Tryz.zeroValue4
  t5 := Tryz.underlying5
  a5 := Tryz.isAgg5
  z5 := Tryz.sizeOf5
  v5 := Tryz.zeroValue5
  t9 := Tryz.underlying9
  a9 := Tryz.isAgg9
  z9 := Tryz.sizeOf9
  v9 := Tryz.zeroValue9
  t20 := Tryz.underlying20
  a20 := Tryz.isAgg20
  z20 := Tryz.sizeOf20
  v20 := Tryz.zeroValue20
  t37 := Tryz.underlying130
  a37 := Tryz.isAgg130
  z37 := Tryz.sizeOf130
  v37 := Tryz.zeroValue130
  t46 := Tryz.underlying260
  a46 := Tryz.isAgg260
  z46 := Tryz.sizeOf260
  v46 := Tryz.zeroValue260
  t51 := Tryz.underlying295
  a51 := Tryz.isAgg295
  z51 := Tryz.sizeOf295
  v51 := Tryz.zeroValue295
  t53 := Tryz.underlying298
  a53 := Tryz.isAgg298
  z53 := Tryz.sizeOf298
  v53 := Tryz.zeroValue298
  t171 := Tryz.underlying333
  a171 := Tryz.isAgg333
  z171 := Tryz.sizeOf333
  v171 := Tryz.zeroValue333
  t173 := Tryz.underlying335
  a173 := Tryz.isAgg335
  z173 := Tryz.sizeOf335
  v173 := Tryz.zeroValue335
  t212 := Tryz.underlying358
  a212 := Tryz.isAgg358
  z212 := Tryz.sizeOf358
  v212 := Tryz.zeroValue358
  t213 := Tryz.underlying359
  a213 := Tryz.isAgg359
  z213 := Tryz.sizeOf359
  t232 := Tryz.underlying384
  a232 := Tryz.isAgg384
  z232 := Tryz.sizeOf384
  v232 := Tryz.zeroValue384
  t233 := Tryz.underlying385
  a233 := Tryz.isAgg385
  z233 := Tryz.sizeOf385
  v233 := Tryz.zeroValue385
  g17 := by kernel_rfl
  g18 := by kernel_rfl
  g19 := by kernel_rfl
  i0 := by kernel_rfl
  i2 := by kernel_rfl
  i3 := by kernel_rfl
  i4 := by kernel_rfl
  i5 := by kernel_rfl
  i9 := by kernel_rfl
  i20 := by kernel_rfl
  i37 := by kernel_rfl
  i46 := by kernel_rfl
  i51 := by kernel_rfl
  i53 := by kernel_rfl
  i171 := by kernel_rfl
  i173 := by kernel_rfl
  i212 := by kernel_rfl
  i232 := by kernel_rfl
  i233 := by kernel_rfl
  m17 := by kernel_rfl
  m18 := by kernel_rfl
  m19 := by kernel_rfl }
end Go.Proofs
set_option linter.unusedSimpArgs false
set_option linter.unusedVariables false
set_option linter.unusedSectionVars false
namespace Go.Av
open Go Go.RowKit

/-- plain data. 'fz': a slice whose cells never change any more; 'sl', 'ptr': a slice of, a pointer into, a block of the call's own (numbered); 'pin': a pointer into a frozen slice; 'raw': the value itself; 'any': nothing is known. -/
inductive AV where
  | int (k : IntKind) (n : Int)
  | bool (b : Bool)
  | str (s : List UInt8)
  | fz (esz : Nat) (l : List AV)
  | agg (l : List AV)
  | tup (l : List AV)
  | sl (id off len cap : Nat)
  | ptr (id n i off : Nat)
  | pin (esz : Nat) (l : List AV) (i off : Nat)
  | mp (id : Nat)
  | fn (f : Fn) (cap : List AV)
  | raw (v : Value)
  | any

def cellsOf : AV → List AV
  | .agg l => l
  | v => [v]
def flat : List AV → List AV
  | [] => []
  | x :: r => cellsOf x ++ flat r

abbrev Mem := Nat → Nat → Option Value

mutual
/-- 'v' is 'a': the cells of frozen slices stand in 'h'; 'Lf' says what a reference into memory of one's own is (let in where the flag is false). -/
inductive RV (h : Mem) (Lf : Value → AV → Prop) : Bool → Value → AV → Prop
  | leaf {v a} : Lf v a → RV h Lf false v a
  | int {fl} (k n) : RV h Lf fl (.int k n) (.int k n)
  | bool {fl} (b) : RV h Lf fl (.bool b) (.bool b)
  | str {fl} (s : List UInt8) : RV h Lf fl (.string ⟨s.toArray⟩) (.str s)
  | raw {fl} (v) : RV h Lf fl v (.raw v)
  | any {fl} (v) : RV h Lf fl v .any
  | fznil {fl} (esz) : RV h Lf fl (.slice none 0 0) (.fz esz [])
  | fz {fl} (b o c esz : Nat) (l : List AV) (vs : List Value) : RL h Lf true vs (flat l) → (∀ x ∈ l, (cellsOf x).length = esz) →
      (∀ k v, vs[k]? = some v → h b (o + k) = some v) → l.length ≤ c → RV h Lf fl (.slice (some ⟨b, o, none⟩) l.length c) (.fz esz l)
  | pin {fl} (b o esz : Nat) (l : List AV) (vs : List Value) (i off : Nat) : RL h Lf true vs (flat l) → (∀ x ∈ l, (cellsOf x).length = esz) →
      (∀ k v, vs[k]? = some v → h b (o + k) = some v) → i < l.length → RV h Lf fl (.pointer (some ⟨b, o + (i * esz + off), none⟩)) (.pin esz l i off)
  | agg {fl} (vs : List Value) (l : List AV) : RL h Lf fl vs l → RV h Lf fl (.agg vs.toArray) (.agg l)
  | tup {fl} (vs : List Value) (l : List AV) : RL h Lf fl vs l → RV h Lf fl (.tuple vs.toArray) (.tup l)
  | fn {fl} (f : Fn) (vs : List Value) (l : List AV) : RL h Lf fl vs l → RV h Lf fl (.func f #[] vs.toArray) (.fn f l)
inductive RL (h : Mem) (Lf : Value → AV → Prop) : Bool → List Value → List AV → Prop
  | nil {fl} : RL h Lf fl [] []
  | cons {fl v a vs l} : RV h Lf fl v a → RL h Lf fl vs l → RL h Lf fl (v :: vs) (a :: l)
end

section
variable {h h' : Mem} {Lf Lf' : Value → AV → Prop}

/-- a greater memory, and leaves that mean more -/
theorem RV.mono (hh : ∀ b o v, h b o = some v → h' b o = some v) (hl : ∀ v a, Lf v a → Lf' v a) {fl v a} (r : RV h Lf fl v a) : RV h' Lf' fl v a := by
  induction r using RV.rec (motive_2 := fun fl vs l _ => RL h' Lf' fl vs l) with
  | leaf p => exact .leaf (hl _ _ p)
  | int k n => exact .int k n
  | bool b => exact .bool b
  | str s => exact .str s
  | raw v => exact .raw v
  | any v => exact .any v
  | fznil e => exact .fznil e
  | fz b o c esz l vs _ h1 h2 h3 ih => exact .fz b o c esz l vs ih h1 (fun k v hk => hh _ _ _ (h2 k v hk)) h3
  | pin b o esz l vs i off _ h1 h2 h3 ih => exact .pin b o esz l vs i off ih h1 (fun k v hk => hh _ _ _ (h2 k v hk)) h3
  | agg vs l _ ih => exact .agg vs l ih
  | tup vs l _ ih => exact .tup vs l ih
  | fn f vs l _ ih => exact .fn f vs l ih
  | nil => exact .nil
  | cons _ _ ih1 ih2 => exact .cons ih1 ih2

theorem RL.mono (hh : ∀ b o v, h b o = some v → h' b o = some v) (hl : ∀ v a, Lf v a → Lf' v a) {fl vs l} (r : RL h Lf fl vs l) : RL h' Lf' fl vs l := by
  induction l generalizing vs with
  | nil => cases r; exact .nil
  | cons a l ih => cases r with | cons h1 h2 => exact .cons (h1.mono hh hl) (ih h2)

/-- what is frozen needs no leaves -/
theorem RV.thaw (hh : ∀ b o v, h b o = some v → h' b o = some v) {fl v a} (r : RV h Lf true v a) : RV h' Lf' fl v a := by
  suffices H : ∀ {f v a} (_ : RV h Lf f v a), f = true → ∀ fl, RV h' Lf' fl v a from H r rfl fl
  intro f v a r
  induction r using RV.rec (motive_2 := fun f vs l _ => f = true → ∀ fl, RL h' Lf' fl vs l) with
  | leaf p => intro e; cases e
  | int k n => intro _ fl; exact .int k n
  | bool b => intro _ fl; exact .bool b
  | str s => intro _ fl; exact .str s
  | raw v => intro _ fl; exact .raw v
  | any v => intro _ fl; exact .any v
  | fznil e => intro _ fl; exact .fznil e
  | fz b o c esz l vs _ h1 h2 h3 ih => intro _ fl; exact .fz b o c esz l vs (ih rfl true) h1 (fun k v hk => hh _ _ _ (h2 k v hk)) h3
  | pin b o esz l vs i off _ h1 h2 h3 ih => intro _ fl; exact .pin b o esz l vs i off (ih rfl true) h1 (fun k v hk => hh _ _ _ (h2 k v hk)) h3
  | agg vs l _ ih => intro e fl; exact .agg vs l (ih e fl)
  | tup vs l _ ih => intro e fl; exact .tup vs l (ih e fl)
  | fn f vs l _ ih => intro e fl; exact .fn f vs l (ih e fl)
  | nil => exact .nil
  | cons _ _ ih1 ih2 => exact .cons (ih1 (by assumption) _) (ih2 (by assumption) _)

theorem RL.thaw (hh : ∀ b o v, h b o = some v → h' b o = some v) {fl vs l} (r : RL h Lf true vs l) : RL h' Lf' fl vs l := by
  induction l generalizing vs with
  | nil => cases r; exact .nil
  | cons a l ih => cases r with | cons h1 h2 => exact .cons (h1.thaw hh) (ih h2)

theorem RL.length {fl vs l} (r : RL h Lf fl vs l) : vs.length = l.length := by
  induction l generalizing vs with
  | nil => cases r; rfl
  | cons a l ih => cases r with | cons h1 h2 => simp [ih h2]

theorem RL.get {fl vs l} (r : RL h Lf fl vs l) {k : Nat} {a : AV} (hk : l[k]? = some a) : ∃ v, vs[k]? = some v ∧ RV h Lf fl v a := by
  induction l generalizing vs k with
  | nil => simp at hk
  | cons b l ih =>
    cases r with
    | cons h1 h2 =>
      cases k with
      | zero => simp at hk; subst hk; exact ⟨_, rfl, h1⟩
      | succ k => simpa using ih h2 (by simpa using hk)

theorem RL.getD {fl vs l} (r : RL h Lf fl vs l) (k : Nat) (v0 : Value) : RV h Lf fl (vs.getD k v0) (l.getD k .any) := by
  cases hk : l[k]? with
  | none => simp [List.getD, hk]; exact .any _
  | some a =>
    obtain ⟨v, h1, h2⟩ := r.get hk
    simpa [List.getD, hk, h1] using h2

theorem RL.append {fl vs l vs' l'} (r : RL h Lf fl vs l) (r' : RL h Lf fl vs' l') : RL h Lf fl (vs ++ vs') (l ++ l') := by
  induction l generalizing vs with
  | nil => cases r; exact r'
  | cons a l ih => cases r with | cons h1 h2 => exact .cons h1 (ih h2)

theorem RL.take {fl vs l} (r : RL h Lf fl vs l) (n : Nat) : RL h Lf fl (vs.take n) (l.take n) := by
  induction l generalizing vs n with
  | nil => cases r; simp; exact .nil
  | cons a l ih =>
    cases r with
    | cons h1 h2 =>
      cases n with
      | zero => simp; exact .nil
      | succ n => simp; exact .cons h1 (ih h2 n)

theorem RL.drop {fl vs l} (r : RL h Lf fl vs l) (n : Nat) : RL h Lf fl (vs.drop n) (l.drop n) := by
  induction l generalizing vs n with
  | nil => cases r; simp; exact .nil
  | cons a l ih =>
    cases r with
    | cons h1 h2 =>
      cases n with
      | zero => simp; exact .cons h1 h2
      | succ n => simp; exact ih h2 n

theorem RL.set {fl vs l} (r : RL h Lf fl vs l) (k : Nat) {v : Value} {a : AV} (rv : RV h Lf fl v a) : RL h Lf fl (vs.set k v) (l.set k a) := by
  induction l generalizing vs k with
  | nil => cases r; simp; exact .nil
  | cons b l ih =>
    cases r with
    | cons h1 h2 =>
      cases k with
      | zero => simp; exact .cons rv h2
      | succ k => simp; exact .cons h1 (ih h2 k)

theorem RL.of_get {fl : Bool} : ∀ {vs : List Value} {l : List AV}, vs.length = l.length → (∀ (k : Nat) (v : Value) (a : AV), vs[k]? = some v → l[k]? = some a → RV h Lf fl v a) → RL h Lf fl vs l
  | [], [], _, _ => .nil
  | [], _ :: _, e, _ => by simp at e
  | _ :: _, [], e, _ => by simp at e
  | v :: vs, a :: l, e, H => .cons (H 0 v a rfl rfl) (RL.of_get (by simpa using e) fun k v a h1 h2 => H (k + 1) v a (by simpa using h1) (by simpa using h2))
end

theorem flat_append (l m : List AV) : flat (l ++ m) = flat l ++ flat m := by
  induction l with
  | nil => rfl
  | cons x l ih => simp [flat, ih]

theorem flat_length {l : List AV} {esz : Nat} (h : ∀ x ∈ l, (cellsOf x).length = esz) : (flat l).length = l.length * esz := by
  induction l with
  | nil => simp [flat]
  | cons x l ih =>
    simp only [flat, List.length_append, List.length_cons, Nat.succ_mul]
    rw [h x (by simp), ih (fun y hy => h y (by simp [hy]))]
    omega

theorem flat_drop {esz : Nat} : ∀ {l : List AV} (_ : ∀ x ∈ l, (cellsOf x).length = esz) (i : Nat), (flat l).drop (i * esz) = flat (l.drop i)
  | [], _, i => by simp [flat]
  | x :: l, h, 0 => by simp
  | x :: l, h, i + 1 => by
    have hx := h x (by simp)
    rw [Nat.succ_mul, Nat.add_comm, ← List.drop_drop]
    simp only [flat, List.drop_succ_cons]
    rw [List.drop_append, hx]
    simp [← hx]
    rw [hx]
    exact flat_drop (fun y hy => h y (by simp [hy])) i

theorem flat_take {esz : Nat} : ∀ {l : List AV} (_ : ∀ x ∈ l, (cellsOf x).length = esz) (i : Nat), (flat l).take (i * esz) = flat (l.take i)
  | [], _, i => by simp [flat]
  | x :: l, h, 0 => by simp [flat]
  | x :: l, h, i + 1 => by
    have hx := h x (by simp)
    rw [Nat.succ_mul, Nat.add_comm]
    simp only [flat, List.take_succ_cons]
    rw [← hx, List.take_length_add_append, hx, flat_take (fun y hy => h y (by simp [hy])) i]

theorem flat_get {l : List AV} {esz : Nat} (h : ∀ x ∈ l, (cellsOf x).length = esz) {i j : Nat} {x : AV} (hi : l[i]? = some x) (hj : j < esz) : (flat l)[i * esz + j]? = (cellsOf x)[j]? := by
  have h1 := flat_drop h i
  have : l.drop i = x :: l.drop (i + 1) := by
    rw [List.drop_eq_getElem?_toList_append, hi]; rfl
  rw [this] at h1
  simp only [flat] at h1
  have hx := h x (List.mem_of_getElem? hi)
  rw [← List.getElem?_drop, h1, List.getElem?_append_left (by omega)]

end Go.Av
