/- The library contracts laid at this seat, in the plain words that a tool of the kit has written. -/
import Derived.Shelf.Strings.IndexAnyAll
import Derived.Shelf.Strings.SlTrimAscii
import Derived.Shelf.Strconv.AtoiErr
import Derived.Test.YtkfpiadgjbhcpaaGreatDoorProg
import Derived.Test.YtkfpiadgjbhcpaaGreatDoorE22
import Derived.Test.YtkfpiadgjbhcpaaGreatDoorE17
import Derived.Test.YtkfpiadgjbhcpaaGreatDoorE19
namespace Go.Proofs
open Go.Shelf
def Tryz.lays150_ren : Go.Shelf.Ren := ⟨fun | 150 => 247 | 153 => 289 | 152 => 302 | 226 => 308 | 227 => 233 | 228 => 280 | 137 => 299 | 119 => 312 | 224 => 278 | 225 => 277 | 217 => 276 | 266 => 300 | n => n, fun | 9 => 9 | 4 => 4 | 3 => 3 | 5 => 5 | 21 => 21 | 117 => 308 | 116 => 307 | 0 => 0 | 46 => 260 | 124 => 311 | n => n, fun | n => n⟩
theorem Tryz.lays150 : Go.Proofs.Lays.n150 Tryz.prog Tryz.lays150_ren := {
  mixed := by kernel_rfl
  f119 := Tryz.func312.trans (congrArg some (by kernel_rfl))
  f137 := Tryz.func299.trans (congrArg some (by kernel_rfl))
  f150 := Tryz.func247.trans (congrArg some (by kernel_rfl))
  f152 := Tryz.func302.trans (congrArg some (by kernel_rfl))
  f153 := Tryz.func289.trans (congrArg some (by kernel_rfl))
  f217 := Tryz.func276.trans (congrArg some (by kernel_rfl))
  f224 := Tryz.func278.trans (congrArg some (by kernel_rfl))
  f225 := Tryz.func277.trans (congrArg some (by kernel_rfl))
  f226 := Tryz.func308.trans (congrArg some (by kernel_rfl))
  f227 := Tryz.func233.trans (congrArg some (by kernel_rfl))
  f228 := Tryz.func280.trans (congrArg some (by kernel_rfl))
  f266 := Tryz.func300.trans (congrArg some (by kernel_rfl))
  t0 := Tryz.underlying0
  a0 := Tryz.isAgg0
  z0 := Tryz.sizeOf0
  v0 := Tryz.zeroValue0
  t3 := Tryz.underlying3
  a3 := Tryz.isAgg3
  z3 := Tryz.sizeOf3
  v3 := Tryz.zeroValue3
  t4 := Tryz.underlying4
  a4 := Tryz.isAgg4
  z4 := Tryz.sizeOf4
  v4 := Tryz.zeroValue4
  t5 := Tryz.underlying5
  a5 := Tryz.isAgg5
  z5 := Tryz.sizeOf5
  v5 := Tryz.zeroValue5
  t9 := Tryz.underlying9
  a9 := Tryz.isAgg9
  z9 := Tryz.sizeOf9
  v9 := Tryz.zeroValue9
  t21 := Tryz.underlying21
  a21 := Tryz.isAgg21
  z21 := Tryz.sizeOf21
  v21 := Tryz.zeroValue21
  t46 := Tryz.underlying260
  a46 := Tryz.isAgg260
  z46 := Tryz.sizeOf260
  v46 := Tryz.zeroValue260
  t116 := Tryz.underlying307
  a116 := Tryz.isAgg307
  z116 := Tryz.sizeOf307
  t117 := Tryz.underlying308
  a117 := Tryz.isAgg308
  z117 := Tryz.sizeOf308
  v117 := Tryz.zeroValue308
  t124 := Tryz.underlying311
  a124 := Tryz.isAgg311
  z124 := Tryz.sizeOf311
  v124 := Tryz.zeroValue311 }
def Tryz.lays160_ren : Go.Shelf.Ren := ⟨fun | 160 => 241 | 232 => 285 | 231 => 232 | 227 => 233 | 234 => 286 | 233 => 234 | 236 => 287 | 235 => 235 | 228 => 280 | 271 => 305 | 151 => 281 | 197 => 229 | 120 => 313 | 152 => 302 | 260 => 275 | 137 => 299 | 119 => 312 | 224 => 278 | 225 => 277 | 217 => 276 | 266 => 300 | n => n, fun | 9 => 9 | 4 => 4 | 3 => 3 | 5 => 5 | 117 => 308 | 116 => 307 | 0 => 0 | 124 => 311 | 21 => 21 | 105 => 302 | 46 => 260 | 119 => 318 | 139 => 362 | 138 => 361 | n => n, fun | 3 => 6 | 4 => 7 | n => n⟩
theorem Tryz.lays160 : Go.Proofs.Lays.n160 Tryz.prog Tryz.lays160_ren := {
  mixed := by kernel_rfl
  f119 := Tryz.func312.trans (congrArg some (by kernel_rfl))
  f120 := Tryz.func313.trans (congrArg some (by kernel_rfl))
  f137 := Tryz.func299.trans (congrArg some (by kernel_rfl))
  f151 := Tryz.func281.trans (congrArg some (by kernel_rfl))
  f152 := Tryz.func302.trans (congrArg some (by kernel_rfl))
  f160 := Tryz.func241.trans (congrArg some (by kernel_rfl))
  f197 := Tryz.func229.trans (congrArg some (by kernel_rfl))
  f217 := Tryz.func276.trans (congrArg some (by kernel_rfl))
  f224 := Tryz.func278.trans (congrArg some (by kernel_rfl))
  f225 := Tryz.func277.trans (congrArg some (by kernel_rfl))
  f227 := Tryz.func233.trans (congrArg some (by kernel_rfl))
  f228 := Tryz.func280.trans (congrArg some (by kernel_rfl))
  f231 := Tryz.func232.trans (congrArg some (by kernel_rfl))
  f232 := Tryz.func285.trans (congrArg some (by kernel_rfl))
  f233 := Tryz.func234.trans (congrArg some (by kernel_rfl))
  f234 := Tryz.func286.trans (congrArg some (by kernel_rfl))
  f235 := Tryz.func235.trans (congrArg some (by kernel_rfl))
  f236 := Tryz.func287.trans (congrArg some (by kernel_rfl))
  f260 := Tryz.func275.trans (congrArg some (by kernel_rfl))
  f266 := Tryz.func300.trans (congrArg some (by kernel_rfl))
  f271 := Tryz.func305.trans (congrArg some (by kernel_rfl))
  t0 := Tryz.underlying0
  a0 := Tryz.isAgg0
  z0 := Tryz.sizeOf0
  v0 := Tryz.zeroValue0
  t3 := Tryz.underlying3
  a3 := Tryz.isAgg3
  z3 := Tryz.sizeOf3
  v3 := Tryz.zeroValue3
  t4 := Tryz.underlying4
  a4 := Tryz.isAgg4
  z4 := Tryz.sizeOf4
  v4 := Tryz.zeroValue4
  t5 := Tryz.underlying5
  a5 := Tryz.isAgg5
  z5 := Tryz.sizeOf5
  v5 := Tryz.zeroValue5
  t9 := Tryz.underlying9
  a9 := Tryz.isAgg9
  z9 := Tryz.sizeOf9
  v9 := Tryz.zeroValue9
  t21 := Tryz.underlying21
  a21 := Tryz.isAgg21
  z21 := Tryz.sizeOf21
  v21 := Tryz.zeroValue21
  t46 := Tryz.underlying260
  a46 := Tryz.isAgg260
  z46 := Tryz.sizeOf260
  v46 := Tryz.zeroValue260
  t105 := Tryz.underlying302
  a105 := Tryz.isAgg302
  z105 := Tryz.sizeOf302
  v105 := Tryz.zeroValue302
  t116 := Tryz.underlying307
  a116 := Tryz.isAgg307
  z116 := Tryz.sizeOf307
  t117 := Tryz.underlying308
  a117 := Tryz.isAgg308
  z117 := Tryz.sizeOf308
  v117 := Tryz.zeroValue308
  t119 := Tryz.underlying318
  a119 := Tryz.isAgg318
  z119 := Tryz.sizeOf318
  t124 := Tryz.underlying311
  a124 := Tryz.isAgg311
  z124 := Tryz.sizeOf311
  v124 := Tryz.zeroValue311
  t138 := Tryz.underlying361
  a138 := Tryz.isAgg361
  z138 := Tryz.sizeOf361
  v138 := Tryz.zeroValue361
  t139 := Tryz.underlying362
  a139 := Tryz.isAgg362
  z139 := Tryz.sizeOf362
  v139 := Tryz.zeroValue362
  g3 := by kernel_rfl
  g4 := by kernel_rfl }
def Tryz.lays161_ren : Go.Shelf.Ren := ⟨fun | 161 => 183 | 231 => 232 | 227 => 233 | 233 => 234 | 235 => 235 | 228 => 280 | 197 => 229 | 151 => 281 | 260 => 275 | 152 => 302 | 137 => 299 | 119 => 312 | 224 => 278 | 225 => 277 | 217 => 276 | 266 => 300 | n => n, fun | 9 => 9 | 4 => 4 | 3 => 3 | 5 => 5 | 117 => 308 | 116 => 307 | 0 => 0 | 124 => 311 | 105 => 302 | 21 => 21 | 119 => 318 | 46 => 260 | 139 => 362 | 138 => 361 | n => n, fun | 3 => 6 | 4 => 7 | n => n⟩
theorem Tryz.lays161 : Go.Proofs.Lays.n161 Tryz.prog Tryz.lays161_ren := {
  mixed := by kernel_rfl
  f119 := Tryz.func312.trans (congrArg some (by kernel_rfl))
  f137 := Tryz.func299.trans (congrArg some (by kernel_rfl))
  f151 := Tryz.func281.trans (congrArg some (by kernel_rfl))
  f152 := Tryz.func302.trans (congrArg some (by kernel_rfl))
  f161 := Tryz.func183.trans (congrArg some (by kernel_rfl))
  f197 := Tryz.func229.trans (congrArg some (by kernel_rfl))
  f217 := Tryz.func276.trans (congrArg some (by kernel_rfl))
  f224 := Tryz.func278.trans (congrArg some (by kernel_rfl))
  f225 := Tryz.func277.trans (congrArg some (by kernel_rfl))
  f227 := Tryz.func233.trans (congrArg some (by kernel_rfl))
  f228 := Tryz.func280.trans (congrArg some (by kernel_rfl))
  f231 := Tryz.func232.trans (congrArg some (by kernel_rfl))
  f233 := Tryz.func234.trans (congrArg some (by kernel_rfl))
  f235 := Tryz.func235.trans (congrArg some (by kernel_rfl))
  f260 := Tryz.func275.trans (congrArg some (by kernel_rfl))
  f266 := Tryz.func300.trans (congrArg some (by kernel_rfl))
  t0 := Tryz.underlying0
  a0 := Tryz.isAgg0
  z0 := Tryz.sizeOf0
  v0 := Tryz.zeroValue0
  t3 := Tryz.underlying3
  a3 := Tryz.isAgg3
  z3 := Tryz.sizeOf3
  v3 := Tryz.zeroValue3
  t4 := Tryz.underlying4
  a4 := Tryz.isAgg4
  z4 := Tryz.sizeOf4
  v4 := Tryz.zeroValue4
  t5 := Tryz.underlying5
  a5 := Tryz.isAgg5
  z5 := Tryz.sizeOf5
  v5 := Tryz.zeroValue5
  t9 := Tryz.underlying9
  a9 := Tryz.isAgg9
  z9 := Tryz.sizeOf9
  v9 := Tryz.zeroValue9
  t21 := Tryz.underlying21
  a21 := Tryz.isAgg21
  z21 := Tryz.sizeOf21
  v21 := Tryz.zeroValue21
  t46 := Tryz.underlying260
  a46 := Tryz.isAgg260
  z46 := Tryz.sizeOf260
  v46 := Tryz.zeroValue260
  t105 := Tryz.underlying302
  a105 := Tryz.isAgg302
  z105 := Tryz.sizeOf302
  v105 := Tryz.zeroValue302
  t116 := Tryz.underlying307
  a116 := Tryz.isAgg307
  z116 := Tryz.sizeOf307
  t117 := Tryz.underlying308
  a117 := Tryz.isAgg308
  z117 := Tryz.sizeOf308
  v117 := Tryz.zeroValue308
  t119 := Tryz.underlying318
  a119 := Tryz.isAgg318
  z119 := Tryz.sizeOf318
  t124 := Tryz.underlying311
  a124 := Tryz.isAgg311
  z124 := Tryz.sizeOf311
  v124 := Tryz.zeroValue311
  t138 := Tryz.underlying361
  a138 := Tryz.isAgg361
  z138 := Tryz.sizeOf361
  v138 := Tryz.zeroValue361
  t139 := Tryz.underlying362
  a139 := Tryz.isAgg362
  z139 := Tryz.sizeOf362
  v139 := Tryz.zeroValue362
  g3 := by kernel_rfl
  g4 := by kernel_rfl }
def Tryz.laysC172_ren : Go.Shelf.Ren := ⟨fun | 172 => 121 | 244 => 184 | 245 => 185 | 247 => 236 | 279 => 237 | 280 => 238 | 281 => 239 | 282 => 240 | 287 => 282 | 316 => 283 | 171 => 76 | 205 => 284 | 321 => 303 | 322 => 304 | 243 => 132 | 246 => 199 | 283 => 264 | 284 => 265 | 285 => 266 | 286 => 267 | 129 => 263 | 317 => 295 | 318 => 296 | 319 => 297 | 320 => 298 | 337 => 310 | 338 => 311 | n => n, fun | 9 => 9 | 3 => 3 | 75 => 134 | 76 => 135 | 4 => 4 | 5 => 5 | 167 => 312 | 37 => 130 | 0 => 0 | 85 => 313 | 2 => 2 | 168 => 315 | 53 => 298 | 175 => 340 | 46 => 260 | 210 => 344 | 127 => 203 | 145 => 368 | 143 => 366 | 21 => 21 | 171 => 333 | 173 => 335 | 212 => 358 | 51 => 295 | 20 => 20 | 213 => 359 | 232 => 384 | 233 => 385 | 80 => 140 | n => n, fun | 15 => 2 | 16 => 3 | 17 => 5 | 18 => 8 | 19 => 9 | n => n⟩
theorem Tryz.laysC172 : Go.Proofs.LaysC.n172 Tryz.prog Tryz.laysC172_ren := {
  mixed := by kernel_rfl
  f129 := Tryz.func263.trans (congrArg some (by kernel_rfl))
  f171 := Tryz.func76.trans (congrArg some (by kernel_rfl))
  f172 := Tryz.func121.trans (congrArg some (by kernel_rfl))
  f205 := Tryz.func284.trans (congrArg some (by kernel_rfl))
  f243 := Tryz.func132.trans (congrArg some (by kernel_rfl))
  f244 := Tryz.func184.trans (congrArg some (by kernel_rfl))
  f245 := Tryz.func185.trans (congrArg some (by kernel_rfl))
  f246 := Tryz.func199.trans (congrArg some (by kernel_rfl))
  f247 := Tryz.func236.trans (congrArg some (by kernel_rfl))
  f279 := Tryz.func237.trans (congrArg some (by kernel_rfl))
  f280 := Tryz.func238.trans (congrArg some (by kernel_rfl))
  f281 := Tryz.func239.trans (congrArg some (by kernel_rfl))
  f282 := Tryz.func240.trans (congrArg some (by kernel_rfl))
  f283 := Tryz.func264.trans (congrArg some (by kernel_rfl))
  f284 := Tryz.func265.trans (congrArg some (by kernel_rfl))
  f285 := Tryz.func266.trans (congrArg some (by kernel_rfl))
  f286 := Tryz.func267.trans (congrArg some (by kernel_rfl))
  f287 := Tryz.func282.trans (congrArg some (by kernel_rfl))
  f316 := Tryz.func283.trans (congrArg some (by kernel_rfl))
  f317 := Tryz.func295.trans (congrArg some (by kernel_rfl))
  f318 := Tryz.func296.trans (congrArg some (by kernel_rfl))
  f319 := Tryz.func297.trans (congrArg some (by kernel_rfl))
  f320 := Tryz.func298.trans (congrArg some (by kernel_rfl))
  f321 := Tryz.func303.trans (congrArg some (by kernel_rfl))
  f322 := Tryz.func304.trans (congrArg some (by kernel_rfl))
  f337 := Tryz.func310.trans (congrArg some (by kernel_rfl))
  f338 := Tryz.func311.trans (congrArg some (by kernel_rfl))
  t0 := Tryz.underlying0
  a0 := Tryz.isAgg0
  z0 := Tryz.sizeOf0
  v0 := Tryz.zeroValue0
  t2 := Tryz.underlying2
  a2 := Tryz.isAgg2
  z2 := Tryz.sizeOf2
  v2 := Tryz.zeroValue2
  t3 := Tryz.underlying3
  a3 := Tryz.isAgg3
  z3 := Tryz.sizeOf3
  v3 := Tryz.zeroValue3
  t4 := Tryz.underlying4
  a4 := Tryz.isAgg4
  z4 := Tryz.sizeOf4
  v4 := Tryz.zeroValue4
  t5 := Tryz.underlying5
  a5 := Tryz.isAgg5
  z5 := Tryz.sizeOf5
  v5 := Tryz.zeroValue5
  t9 := Tryz.underlying9
  a9 := Tryz.isAgg9
  z9 := Tryz.sizeOf9
  v9 := Tryz.zeroValue9
  t20 := Tryz.underlying20
  a20 := Tryz.isAgg20
  z20 := Tryz.sizeOf20
  v20 := Tryz.zeroValue20
  t21 := Tryz.underlying21
  a21 := Tryz.isAgg21
  z21 := Tryz.sizeOf21
  v21 := Tryz.zeroValue21
  t37 := Tryz.underlying130
  a37 := Tryz.isAgg130
  z37 := Tryz.sizeOf130
  v37 := Tryz.zeroValue130
  t46 := Tryz.underlying260
  a46 := Tryz.isAgg260
  z46 := Tryz.sizeOf260
  v46 := Tryz.zeroValue260
  t51 := Tryz.underlying295
  a51 := Tryz.isAgg295
  z51 := Tryz.sizeOf295
  v51 := Tryz.zeroValue295
  t53 := Tryz.underlying298
  a53 := Tryz.isAgg298
  z53 := Tryz.sizeOf298
  v53 := Tryz.zeroValue298
  t75 := Tryz.underlying134
  a75 := Tryz.isAgg134
  z75 := Tryz.sizeOf134
  v75 := Tryz.zeroValue134
  t76 := Tryz.underlying135
  a76 := Tryz.isAgg135
  z76 := Tryz.sizeOf135
  v76 := Tryz.zeroValue135
  t85 := Tryz.underlying313
  a85 := Tryz.isAgg313
  z85 := Tryz.sizeOf313
  v85 := Tryz.zeroValue313
  t127 := Tryz.underlying203
  a127 := Tryz.isAgg203
  z127 := Tryz.sizeOf203
  v127 := Tryz.zeroValue203
  t143 := Tryz.underlying366
  a143 := Tryz.isAgg366
  z143 := Tryz.sizeOf366
  v143 := Tryz.zeroValue366
  t145 := Tryz.underlying368
  a145 := Tryz.isAgg368
  z145 := Tryz.sizeOf368
  v145 := Tryz.zeroValue368
  t167 := Tryz.underlying312
  a167 := Tryz.isAgg312
  z167 := Tryz.sizeOf312
  v167 := Tryz.zeroValue312
  t168 := Tryz.underlying315
  a168 := Tryz.isAgg315
  z168 := Tryz.sizeOf315
  v168 := Tryz.zeroValue315
  t171 := Tryz.underlying333
  a171 := Tryz.isAgg333
  z171 := Tryz.sizeOf333
  v171 := Tryz.zeroValue333
  t173 := Tryz.underlying335
  a173 := Tryz.isAgg335
  z173 := Tryz.sizeOf335
  v173 := Tryz.zeroValue335
  t175 := Tryz.underlying340
  a175 := Tryz.isAgg340
  z175 := Tryz.sizeOf340
  v175 := Tryz.zeroValue340
  t210 := Tryz.underlying344
  a210 := Tryz.isAgg344
  z210 := Tryz.sizeOf344
  v210 := Tryz.zeroValue344
  t212 := Tryz.underlying358
  a212 := Tryz.isAgg358
  z212 := Tryz.sizeOf358
  v212 := Tryz.zeroValue358
  t213 := Tryz.underlying359
  a213 := Tryz.isAgg359
  z213 := Tryz.sizeOf359
  t232 := Tryz.underlying384
  a232 := Tryz.isAgg384
  z232 := Tryz.sizeOf384
  v232 := Tryz.zeroValue384
  t233 := Tryz.underlying385
  a233 := Tryz.isAgg385
  z233 := Tryz.sizeOf385
  v233 := Tryz.zeroValue385
  g15 := by kernel_rfl
  g16 := by kernel_rfl
  g17 := by kernel_rfl
  g18 := by kernel_rfl
  g19 := by kernel_rfl
  t80 := Tryz.underlying140
  a80 := Tryz.isAgg140
  z80 := Tryz.sizeOf140
  v80 := Tryz.zeroValue140
  i0 := by kernel_rfl
  i2 := by kernel_rfl
  i3 := by kernel_rfl
  i4 := by kernel_rfl
  i5 := by kernel_rfl
  i9 := by kernel_rfl
  i20 := by kernel_rfl
  i21 := by kernel_rfl
  i37 := by kernel_rfl
  i46 := by kernel_rfl
  i51 := by kernel_rfl
  i53 := by kernel_rfl
  i75 := by kernel_rfl
  i76 := by kernel_rfl
  i80 := by kernel_rfl
  i85 := by kernel_rfl
  i127 := by kernel_rfl
  i143 := by kernel_rfl
  i145 := by kernel_rfl
  i167 := by kernel_rfl
  i168 := by kernel_rfl
  i171 := by kernel_rfl
  i173 := by kernel_rfl
  i175 := by kernel_rfl
  i210 := by kernel_rfl
  i212 := by kernel_rfl
  i232 := by kernel_rfl
  i233 := by kernel_rfl
  m15 := by kernel_rfl
  m16 := by kernel_rfl
  m17 := by kernel_rfl
  m18 := by kernel_rfl
  m19 := by kernel_rfl
  c0 := by kernel_rfl
  c2 := by kernel_rfl
  c3 := by kernel_rfl
  c4 := by kernel_rfl
  c5 := by kernel_rfl
  c9 := by kernel_rfl
  c20 := by kernel_rfl
  c21 := by kernel_rfl
  c37 := by kernel_rfl
  c46 := by kernel_rfl
  c51 := by kernel_rfl
  c53 := by kernel_rfl
  c75 := by kernel_rfl
  c76 := by kernel_rfl
  c80 := by kernel_rfl
  c85 := by kernel_rfl
  c127 := by kernel_rfl
  c143 := by kernel_rfl
  c145 := by kernel_rfl
  c167 := by kernel_rfl
  c168 := by kernel_rfl
  c171 := by kernel_rfl
  c173 := by kernel_rfl
  c175 := by kernel_rfl
  c210 := by kernel_rfl
  c212 := by kernel_rfl
  c213 := by kernel_rfl
  c232 := by kernel_rfl
  c233 := by kernel_rfl }
end Go.Proofs
set_option maxRecDepth 100000
set_option linter.unusedSimpArgs false
set_option linter.unusedVariables false
namespace Go.Proofs.YtkfpiadgjbhcpaaGreatDoor
open Go Go.Av Go.RowKit

theorem pc_libB {f : FuncId} {args : List AV} {r : AV} (vs : List Value) (v : Value) (hb : hasBody Tryz.prog f = true) (ha : ∀ h vs', RL h Lf0 true vs' args → vs' = vs) (hr : ∀ h, RV h Lf0 true v r)
    (H : ∀ w, Calls Tryz.prog f vs.toArray w fun e w' => e = .returned v ∧ Below w.heap.size w w') : Pc Tryz.prog f args (· = r) := by
  refine ⟨hb, fun h w vs' hm hv => ?_⟩
  have := ha h vs' hv
  subst this
  refine (H w).mono ?_
  rintro e w' ⟨rfl, hs⟩
  have hs : Same w w' := ⟨hs.os, hs.tape, ⟨hs.output, trivial⟩, hs.size, hs.block⟩
  exact ⟨v, r, h, rfl, rfl, fun b o v e => ⟨hs.cell (hm b o v e).1, (hm b o v e).2⟩, fun _ _ _ x => x, fun b o e n => (n e).elim, hs, hr h⟩

def asciiL (s : List UInt8) : Prop := ∀ b ∈ s, b.toNat < 128
theorem ascii_at {s : List UInt8} (h : asciiL s) : ∀ (j : Nat) b, (⟨s.toArray⟩ : ByteArray).data.toList[j]? = some b → b.toNat < 128 := fun j b hb => h b (List.mem_of_getElem? hb)
theorem ascii_set {s : List UInt8} (h : s.all (fun b => decide (b.toNat < 128)) = true) : asciiL s := fun b hb => of_decide_eq_true (List.all_eq_true.1 h b hb)
theorem ascii_ok {s : List UInt8} (h : s.all okB = true) : asciiL s := fun b hb => by
  have := List.all_eq_true.1 h b hb
  simp only [okB, Bool.and_eq_true, Bool.not_eq_true', decide_eq_false_iff_not] at this
  omega

theorem set116 : (Tryz.prog.info? (Tryz.lays150_ren.t 116)).map (fun i => (i.zero, i.size)) = some (some (.agg (Array.replicate 256 (.bool false))), 256) := by kernel_rfl
theorem set160 : (Tryz.prog.info? (Tryz.lays160_ren.t 116)).map (fun i => (i.zero, i.size)) = some (some (.agg (Array.replicate 256 (.bool false))), 256) := by kernel_rfl
theorem set161 : (Tryz.prog.info? (Tryz.lays161_ren.t 116)).map (fun i => (i.zero, i.size)) = some (some (.agg (Array.replicate 256 (.bool false))), 256) := by kernel_rfl
theorem containsAny_pc (s p : List UInt8) (hs : s.length < 4294967281) (hp : p.length < 4294967281) (h1 : asciiL s) (h2 : asciiL p) : Pc Tryz.prog 247 [.str s, .str p] (· = .bool (Lib.containsAny s p)) :=
  pc_libB [_, _] (.bool (Lib.containsAny s p)) hB247 (two_strs s p) (fun h => .bool _) fun w => Any.strings_ContainsAny_laid Tryz.lays150 set116 ⟨s.toArray⟩ ⟨p.toArray⟩ w hs hp (ascii_at h1) (ascii_at h2)
theorem trim_pc (s p : List UInt8) (hs : s.length < 4294967281) (hp : p.length < 4294967281) (h2 : asciiL p) : Pc Tryz.prog 241 [.str s, .str p] (· = .str (Lib.trimS s p)) :=
  pc_libB [_, _] (.string ⟨(Lib.trimS s p).toArray⟩) hB241 (two_strs s p) (fun h => .str _) fun w => Any.strings_Trim_laid Tryz.lays160 set160 ⟨s.toArray⟩ ⟨p.toArray⟩ w (show s.length ≤ _ by omega) hp (ascii_at h2)
theorem trimLeft_pc (s p : List UInt8) (hp : p.length < 4294967281) (h2 : asciiL p) : Pc Tryz.prog 183 [.str s, .str p] (· = .str (Lib.trimLeftS s p)) :=
  pc_libB [_, _] (.string ⟨(Lib.trimLeftS s p).toArray⟩) hB183 (two_strs s p) (fun h => .str _) fun w => Any.strings_TrimLeft_laid Tryz.lays161 set161 ⟨s.toArray⟩ ⟨p.toArray⟩ w hp (ascii_at h2)

def turnC (c : UInt8) : Bool := capI c.toNat || (((c.toNat : Int) == 32) || ((c.toNat : Int) == 46))
def isTurnL (s : List UInt8) : Bool := s.all turnC && decide ((s.length : Int) ≤ 40)

theorem isTurn_pc (s : List UInt8) (hs : s.length < 1000000) : Pc Tryz.prog 273 [.str s] (· = .bool (isTurnL s)) := by
  refine pc_intro (ct_intro Tryz.func273 rfl Tryz.ntmps273 hB273 (by simp) fun h ρ w => go (N := 30) Tryz.ntmps273 300 ?_)
  simp only [go_sem]
  refine aloop (ι := Nat) (fun i => s.length - i) (fun i => [(6, .int .i64 i), (5, .int .i64 s.length), (0, .str s)]) (fun _ => []) (fun i => i ≤ s.length ∧ (s.take i).all turnC = true) 0 ⟨by omega, by simp⟩ ?_ ?_
  · refine Shift.weak ?_
    simp only [wk, go_sem]
  · rintro i ⟨g1, g2⟩ J hJ
    refine go (N := 30) Tryz.ntmps273 300 ?_
    by_cases hi : i < s.length
    · have d1 : decide ((i : Int) < (s.length : Int)) = true := by simp; omega
      have hx : s.getD i 0 = s[i] := by simp [List.getD, hi]
      simp only [go_sem, d1, hx]
      refine ⟨by omega, by simpa using hi, ?_⟩
      refine pcall1 (isCapital_pc _) rfl (N := 30) Tryz.ntmps273 rfl (go (N := 30) Tryz.ntmps273 300 ?_)
      have bad : turnC s[i] = false → isTurnL s = false := fun h => by simp only [isTurnL, all_false_at hi h, Bool.false_and]
      have again : turnC s[i] = true → (s.take (i + 1)).all turnC = true := fun h => all_take_succ hi g2 h
      have e1 : (i : Int) + 1 = ((i + 1 : Nat) : Int) := by omega
      unfold turnC at bad again
      cases q1 : capI s[i].toNat with
      | true =>
        simp only [go_sem]
        rw [e1]
        repeat refine And.intro (by omega) ?_
        refine ainv (hJ (i + 1) ⟨by omega, again (by rw [q1]; rfl)⟩ (by omega)) (Shift.weak ?_)
        simp only [wk, go_sem]
      | false =>
        cases q2 : ((s[i].toNat : Int) == 32) with
        | true =>
          have q2' : ((s[i].toNat : Int) != 32) = false := by rw [bne, q2]; rfl
          simp only [go_sem, q2', hx]
          rw [e1]
          repeat refine And.intro (by omega) ?_
          refine ainv (hJ (i + 1) ⟨by omega, again (by rw [q1, q2]; rfl)⟩ (by omega)) (Shift.weak ?_)
          simp only [wk, go_sem]
        | false =>
          have q2' : ((s[i].toNat : Int) != 32) = true := by rw [bne, q2]; rfl
          cases q3 : ((s[i].toNat : Int) == 46) with
          | true =>
            have q3' : ((s[i].toNat : Int) != 46) = false := by rw [bne, q3]; rfl
            simp only [go_sem, q2', q3', hx]
            rw [e1]
            repeat refine And.intro (by omega) ?_
            refine ainv (hJ (i + 1) ⟨by omega, again (by rw [q1, q2, q3]; rfl)⟩ (by omega)) (Shift.weak ?_)
            simp only [wk, go_sem]
          | false =>
            have q3' : ((s[i].toNat : Int) != 46) = true := by rw [bne, q3]; rfl
            simp only [go_sem, q2', q3', hx]
            repeat refine And.intro (by omega) ?_
            exact aret [2] rfl ⟨by rw [bad (by rw [q1, q2, q3]; rfl)]; rfl, rfl⟩
    · have d1 : decide ((i : Int) < (s.length : Int)) = false := by simp; omega
      have : i = s.length := by omega
      subst this
      simp only [go_sem, d1]
      refine aret [2] rfl ⟨?_, rfl⟩
      rw [List.take_length] at g2
      simp [resV, Av.get, isTurnL, g2]

def nameL (s : List UInt8) : Bool := properL s 30 [39, 46, 45]
theorem isName_pch {S : Std} (hS : LibOk S) (s : List UInt8) (hs : s.length < 1000000) : PcH Tryz.prog S 272 [.str s] (· = .bool (nameL s)) := by
  refine pch_intro (cth_intro Tryz.func272 rfl Tryz.ntmps272 hB272 (by simp) fun h ρ w hg => go (N := 5) Tryz.ntmps272 300 ?_)
  simp only [go_sem]
  refine pcallH1 hg (proper_pch hS s 30 _ hs) rfl (N := 5) Tryz.ntmps272 rfl (go (N := 5) Tryz.ntmps272 300 ?_)
  simp only [go_sem]
  exact aret [2] rfl ⟨rfl, rfl⟩

def followsL (k l : Int) : Bool := if k == 3 then l == 2 || l == 4 else if k == 4 then l == 2 || (l == 3 || l == 4) else l != 2 && l != 3
theorem follows_pc (k l : Int) : Pc Tryz.prog 222 [.int .i64 k, .int .i64 l] (· = .bool (followsL k l)) := by
  refine pc_intro (ct_intro Tryz.func222 rfl Tryz.ntmps222 hB222 (by simp) fun h ρ w => go (N := 33) Tryz.ntmps222 300 ?_)
  unfold followsL
  cases q3 : k == 3 with
  | true =>
    cases q : l == 2 <;>
    · simp only [go_sem, q3, q]
      exact aret [4] rfl ⟨rfl, rfl⟩
  | false =>
    cases q4 : k == 4 with
    | true =>
      cases q : l == 2 <;> cases q' : l == 3 <;>
      · simp only [go_sem, q3, q4, q, q']
        exact aret [4] rfl ⟨rfl, rfl⟩
    | false =>
      cases q : l != 2 <;>
      · simp only [go_sem, q3, q4, q]
        exact aret [4] rfl ⟨rfl, rfl⟩

structure Pa where
  kind : Int
  text : List UInt8
structure Sc where
  no : List UInt8
  place : Int
  set : List UInt8
  time : Int
  paras : List Pa
structure Sr where
  title : List UInt8
  scenes : List Sc
def paA (p : Pa) : AV := .agg [.int .i64 p.kind, .str p.text]
def scA (x : Sc) : AV := .agg [.str x.no, .int .i64 x.place, .str x.set, .int .i64 x.time, .fz 2 (x.paras.map paA)]
def srA (x : Sr) : AV := .agg [.str x.title, .fz 5 (x.scenes.map scA)]

def paraOk (p : Pa) : Bool := decide (1 ≤ p.kind) && (decide (p.kind ≤ 5) && (p.text != [] && (plainL p.text && (decide (p.text.length ≤ 2000) &&
  ((p.kind != 2 || nameL p.text) && ((p.kind != 3 || (decide (p.text.length ≤ 200) && !Lib.containsAny p.text [40, 41])) && (p.kind != 5 || isTurnL p.text)))))))

theorem paraFault_pch {S : Std} (hS : LibOk S) (p : Pa) (h : paraOk p = true) : PcH Tryz.prog S 221 [paA p] (· = .int .i64 0) := by
  obtain ⟨k, s⟩ := p
  simp only [paraOk, Bool.and_eq_true, decide_eq_true_eq, bne_iff_ne, ne_eq, Bool.or_eq_true, Bool.not_eq_true'] at h
  obtain ⟨h1, h2, h3, h4, h5, h6, h7, h8⟩ := h
  have e0 : (s == []) = false := by simpa using h3
  have hs : s.length < 1000000 := by omega
  have d2 : decide ((s.length : Int) > 2000) = false := by simp; omega
  have hasc : asciiL s := ascii_ok (by simp only [plainL, Bool.and_eq_true] at h4; exact h4.1)
  unfold paA
  have hk : k = 1 ∨ k = 2 ∨ k = 3 ∨ k = 4 ∨ k = 5 := by omega
  refine pch_intro (cth_intro Tryz.func221 rfl Tryz.ntmps221 hB221 (by simp) fun h ρ w hg => go (N := 66) Tryz.ntmps221 300 ?_)
  rcases hk with rfl | rfl | rfl | rfl | rfl
  · simp only [go_sem, e0, d2]
    refine pcallH1 hg (plain_pch hS s hs) rfl (N := 66) Tryz.ntmps221 rfl (go (N := 66) Tryz.ntmps221 300 ?_)
    rw [h4]
    simp only [go_sem, e0, d2]
    exact aret [2] rfl ⟨rfl, rfl⟩
  · simp only [go_sem, e0, d2]
    refine pcallH1 hg (plain_pch hS s hs) rfl (N := 66) Tryz.ntmps221 rfl (go (N := 66) Tryz.ntmps221 300 ?_)
    rw [h4]
    simp only [go_sem, e0, d2]
    refine pcallH1 hg (isName_pch hS s hs) rfl (N := 66) Tryz.ntmps221 rfl (go (N := 66) Tryz.ntmps221 300 ?_)
    rw [h6.resolve_left (by simp)]
    simp only [go_sem]
    exact aret [2] rfl ⟨rfl, rfl⟩
  · have h7 := h7.resolve_left (by simp)
    have d3 : decide ((s.length : Int) > 200) = false := by simp; omega
    simp only [go_sem, e0, d2, d3]
    refine pcallH1 hg (plain_pch hS s hs) rfl (N := 66) Tryz.ntmps221 rfl (go (N := 66) Tryz.ntmps221 300 ?_)
    rw [h4]
    simp only [go_sem, e0, d2, d3]
    refine pcall1 (containsAny_pc s [40, 41] (by omega) (by decide) hasc (ascii_set rfl)) rfl (N := 66) Tryz.ntmps221 rfl (go (N := 66) Tryz.ntmps221 300 ?_)
    rw [h7.2]
    simp only [go_sem]
    exact aret [2] rfl ⟨rfl, rfl⟩
  · simp only [go_sem, e0, d2]
    refine pcallH1 hg (plain_pch hS s hs) rfl (N := 66) Tryz.ntmps221 rfl (go (N := 66) Tryz.ntmps221 300 ?_)
    rw [h4]
    simp only [go_sem, e0, d2]
    exact aret [2] rfl ⟨rfl, rfl⟩
  · simp only [go_sem, e0, d2]
    refine pcallH1 hg (plain_pch hS s hs) rfl (N := 66) Tryz.ntmps221 rfl (go (N := 66) Tryz.ntmps221 300 ?_)
    rw [h4]
    simp only [go_sem, e0, d2]
    refine pcall1 (isTurn_pc s hs) rfl (N := 66) Tryz.ntmps221 rfl (go (N := 66) Tryz.ntmps221 300 ?_)
    rw [h8.resolve_left (by simp)]
    simp only [go_sem]
    exact aret [2] rfl ⟨rfl, rfl⟩
end Go.Proofs.YtkfpiadgjbhcpaaGreatDoor
set_option linter.unusedSectionVars false
namespace Go.Av
open Go Go.RowKit
variable [Tr]

def cellTo (n : Nat) (a a' : AV) : Prop := a' = a ∨ (a = .raw (.slice none 0 0) ∧ (a' = .sl n 0 0 0 ∨ ∃ es, a' = .fz es []))
def toC (n : Nat) : List AV → List AV → Prop
  | [], [] => True
  | a :: r, a' :: r' => cellTo n a a' ∧ toC n r r'
  | _, _ => False
theorem cellTo.refl {n : Nat} {a : AV} : cellTo n a a := .inl rfl
theorem cellTo.sl {n : Nat} : cellTo n (.raw (.slice none 0 0)) (.sl n 0 0 0) := .inr ⟨rfl, .inl rfl⟩
theorem cellTo.fz {n es : Nat} : cellTo n (.raw (.slice none 0 0)) (.fz es []) := .inr ⟨rfl, .inr ⟨es, rfl⟩⟩

section
variable {h : Mem} {ρ : Own} {s : List Blk} {w : World}
theorem toC_RL {n es : Nat} (hn : s[n]? = some (.arr es [])) : ∀ {l l' : List AV} {vs : List Value}, toC n l l' → RL h (Lf ρ s) false vs l → RL h (Lf ρ s) false vs l'
  | [], [], _, _, r => r
  | a :: l, a' :: l', _, t, r => by
    cases r with
    | cons r1 r2 =>
      refine .cons ?_ (toC_RL hn t.2 r2)
      rcases t.1 with rfl | ⟨rfl, rfl | ⟨e, rfl⟩⟩
      · exact r1
      · rw [inv_raw r1]
        exact .leaf ⟨rfl, by simp only [LfC, hn]; exact ⟨by simp, fun _ => .inl ⟨trivial, trivial, none, rfl⟩⟩⟩
      · rw [inv_raw r1]
        exact .fznil e
  | [], _ :: _, _, t, _ => t.elim
  | _ :: _, [], _, t, _ => t.elim

theorem Mine.recell (m : Mine h ρ s w) {id n es es' : Nat} {l l' : List AV} (hb : s[id]? = some (.arr es l)) (hlen : l'.length = l.length) (hcl : ∀ x ∈ l', (cellsOf x).length = es) (hn : s[n]? = some (.arr es' [])) (ht : toC n (flat l) (flat l')) :
    Mine h ρ (s.set id (.arr es l')) w ∧ Later h ρ s w h ρ (s.set id (.arr es l')) w := by
  have hid := (List.getElem?_eq_some_iff.1 hb).1
  have hk : ∀ v a, Lf ρ s v a → Lf ρ (s.set id (.arr es l')) v a := fun v a x => ⟨x.1, LfC_set (b' := .arr es l') hb (fun _ _ => rfl) (Or.inl ⟨rfl, hlen, rfl⟩) x.2⟩
  refine ⟨⟨m.mem, ?_, fun i hi => m.out i (by simpa using hi), m.inj, m.disj⟩, ⟨fun _ _ _ x => x, fun _ _ a b => (b a).elim, hk, rfl, rfl, ⟨rfl, Tr.same rfl⟩, Nat.le_refl _, fun _ _ _ => rfl, fun i _ t x => .inl ⟨i, t, x⟩⟩⟩
  intro i blk e
  by_cases hi : i = id
  · subst hi
    simp [hid] at e
    subst e
    rcases m.own i _ hb with ⟨h1, h2⟩ | ⟨g, tot, cur, t, h1, h2, h3, h4, h5, h6, h7, h8, h9⟩
    · exact .inl ⟨by subst h1; simpa using hlen, h2⟩
    · refine .inr ⟨g, tot, cur, t, h1, h2, h3, by omega, h5, h6, hcl, h8, ?_⟩
      rw [hlen]
      exact (toC_RL hn ht h9).mono (fun _ _ _ x => x) hk
  · rw [List.getElem?_set_ne (Ne.symm hi)] at e
    exact (m.own i blk e).mono (fun _ _ _ x => x) hk rfl (fun _ _ _ => rfl)
end

variable {c : Cx} {e : Env} {s : List Blk}
/-- a block whose cells with nil are told as empty slices: frozen ones, or the new block of one's own -/
theorem Shift.cells (id es' : Nat) {es : Nat} {l : List AV} (l' : List AV) (hb : s.getD id .dead = .arr es l) (hlen : l'.length = l.length) (hcl : ∀ x ∈ l', (cellsOf x).length = es) (ht : toC s.length (flat l) (flat l')) :
    Shift c e s e (List.set (s ++ [Blk.arr es' []]) id (Blk.arr es l')) := by
  rintro a w ⟨hh, ρ, hm, hlt, he, hdf, hsz, hX⟩
  obtain ⟨m1, l1⟩ := hm.pushNil es'
  have hid := sto_get hb
  have hlt' : id < s.length := (List.getElem?_eq_some_iff.1 hid).1
  obtain ⟨m2, l2⟩ := m1.recell (id := id) (n := s.length) (es' := es') (by rw [List.getElem?_append_left hlt']; exact hid) hlen hcl (by simp) ht
  exact ⟨hh, ρ, m2, hlt.trans (l1.trans l2), fun t => ((he t).mono l1.hle l1.keep).mono l2.hle l2.keep, hdf, hsz, c.hx.later hm (l1.trans l2) hX⟩
end Go.Av
