/- The library contracts laid at this seat, in the plain words that a tool of the kit has written. -/
import Derived.Shelf.Strings.IndexAnyAll
import Derived.Shelf.Strings.SlTrimAscii
import Derived.Shelf.Strconv.AtoiErr
import Derived.Test.YtnfkjpihaficbaaGreatDoorH21
namespace Go.Proofs
open Go.Shelf
def Tryz.lays150_ren:Go.Shelf.Ren:=⟨fun | 150=>292 | 153=>303 | 152=>277 | 226=>306 | 227=>181 | 228=>237 | 137=>188 | 119=>298 | 224=>288 | 225=>287 | 217=>242 | 266=>279 | n=>n,fun | 9=>9 | 4=>4 | 3=>3 | 5=>5 | 21=>21 | 117=>264 | 116=>263 | 0=>0 | 46=>206 | 124=>267 | n=>n,fun | n=>n⟩
theorem Tryz.lays150:Go.Proofs.Lays.n150 Tryz.prog Tryz.lays150_ren:={
 mixed:=by kernel_rfl
 f119:=Tryz.func298.trans (congrArg some (by kernel_rfl))
 f137:=Tryz.func188.trans (congrArg some (by kernel_rfl))
 f150:=Tryz.func292.trans (congrArg some (by kernel_rfl))
 f152:=Tryz.func277.trans (congrArg some (by kernel_rfl))
 f153:=Tryz.func303.trans (congrArg some (by kernel_rfl))
 f217:=Tryz.func242.trans (congrArg some (by kernel_rfl))
 f224:=Tryz.func288.trans (congrArg some (by kernel_rfl))
 f225:=Tryz.func287.trans (congrArg some (by kernel_rfl))
 f226:=Tryz.func306.trans (congrArg some (by kernel_rfl))
 f227:=Tryz.func181.trans (congrArg some (by kernel_rfl))
 f228:=Tryz.func237.trans (congrArg some (by kernel_rfl))
 f266:=Tryz.func279.trans (congrArg some (by kernel_rfl))
 t0:=Tryz.underlying0
 a0:=Tryz.isAgg0
 z0:=Tryz.sizeOf0
 v0:=Tryz.zeroValue0
 t3:=Tryz.underlying3
 a3:=Tryz.isAgg3
 z3:=Tryz.sizeOf3
 v3:=Tryz.zeroValue3
 t4:=Tryz.underlying4
 a4:=Tryz.isAgg4
 z4:=Tryz.sizeOf4
 v4:=Tryz.zeroValue4
 t5:=Tryz.underlying5
 a5:=Tryz.isAgg5
 z5:=Tryz.sizeOf5
 v5:=Tryz.zeroValue5
 t9:=Tryz.underlying9
 a9:=Tryz.isAgg9
 z9:=Tryz.sizeOf9
 v9:=Tryz.zeroValue9
 t21:=Tryz.underlying21
 a21:=Tryz.isAgg21
 z21:=Tryz.sizeOf21
 v21:=Tryz.zeroValue21
 t46:=Tryz.underlying206
 a46:=Tryz.isAgg206
 z46:=Tryz.sizeOf206
 v46:=Tryz.zeroValue206
 t116:=Tryz.underlying263
 a116:=Tryz.isAgg263
 z116:=Tryz.sizeOf263
 t117:=Tryz.underlying264
 a117:=Tryz.isAgg264
 z117:=Tryz.sizeOf264
 v117:=Tryz.zeroValue264
 t124:=Tryz.underlying267
 a124:=Tryz.isAgg267
 z124:=Tryz.sizeOf267
 v124:=Tryz.zeroValue267 }
def Tryz.lays160_ren:Go.Shelf.Ren:=⟨fun | 160=>131 | 232=>180 | 231=>179 | 227=>181 | 234=>183 | 233=>182 | 236=>185 | 235=>184 | 228=>237 | 271=>240 | 151=>239 | 197=>238 | 120=>278 | 152=>277 | 260=>276 | 137=>188 | 119=>298 | 224=>288 | 225=>287 | 217=>242 | 266=>279 | n=>n,fun | 9=>9 | 4=>4 | 3=>3 | 5=>5 | 117=>264 | 116=>263 | 0=>0 | 124=>267 | 21=>21 | 105=>309 | 46=>206 | 119=>258 | 139=>369 | 138=>368 | n=>n,fun | 3=>6 | 4=>7 | n=>n⟩
theorem Tryz.lays160:Go.Proofs.Lays.n160 Tryz.prog Tryz.lays160_ren:={
 mixed:=by kernel_rfl
 f119:=Tryz.func298.trans (congrArg some (by kernel_rfl))
 f120:=Tryz.func278.trans (congrArg some (by kernel_rfl))
 f137:=Tryz.func188.trans (congrArg some (by kernel_rfl))
 f151:=Tryz.func239.trans (congrArg some (by kernel_rfl))
 f152:=Tryz.func277.trans (congrArg some (by kernel_rfl))
 f160:=Tryz.func131.trans (congrArg some (by kernel_rfl))
 f197:=Tryz.func238.trans (congrArg some (by kernel_rfl))
 f217:=Tryz.func242.trans (congrArg some (by kernel_rfl))
 f224:=Tryz.func288.trans (congrArg some (by kernel_rfl))
 f225:=Tryz.func287.trans (congrArg some (by kernel_rfl))
 f227:=Tryz.func181.trans (congrArg some (by kernel_rfl))
 f228:=Tryz.func237.trans (congrArg some (by kernel_rfl))
 f231:=Tryz.func179.trans (congrArg some (by kernel_rfl))
 f232:=Tryz.func180.trans (congrArg some (by kernel_rfl))
 f233:=Tryz.func182.trans (congrArg some (by kernel_rfl))
 f234:=Tryz.func183.trans (congrArg some (by kernel_rfl))
 f235:=Tryz.func184.trans (congrArg some (by kernel_rfl))
 f236:=Tryz.func185.trans (congrArg some (by kernel_rfl))
 f260:=Tryz.func276.trans (congrArg some (by kernel_rfl))
 f266:=Tryz.func279.trans (congrArg some (by kernel_rfl))
 f271:=Tryz.func240.trans (congrArg some (by kernel_rfl))
 t0:=Tryz.underlying0
 a0:=Tryz.isAgg0
 z0:=Tryz.sizeOf0
 v0:=Tryz.zeroValue0
 t3:=Tryz.underlying3
 a3:=Tryz.isAgg3
 z3:=Tryz.sizeOf3
 v3:=Tryz.zeroValue3
 t4:=Tryz.underlying4
 a4:=Tryz.isAgg4
 z4:=Tryz.sizeOf4
 v4:=Tryz.zeroValue4
 t5:=Tryz.underlying5
 a5:=Tryz.isAgg5
 z5:=Tryz.sizeOf5
 v5:=Tryz.zeroValue5
 t9:=Tryz.underlying9
 a9:=Tryz.isAgg9
 z9:=Tryz.sizeOf9
 v9:=Tryz.zeroValue9
 t21:=Tryz.underlying21
 a21:=Tryz.isAgg21
 z21:=Tryz.sizeOf21
 v21:=Tryz.zeroValue21
 t46:=Tryz.underlying206
 a46:=Tryz.isAgg206
 z46:=Tryz.sizeOf206
 v46:=Tryz.zeroValue206
 t105:=Tryz.underlying309
 a105:=Tryz.isAgg309
 z105:=Tryz.sizeOf309
 v105:=Tryz.zeroValue309
 t116:=Tryz.underlying263
 a116:=Tryz.isAgg263
 z116:=Tryz.sizeOf263
 t117:=Tryz.underlying264
 a117:=Tryz.isAgg264
 z117:=Tryz.sizeOf264
 v117:=Tryz.zeroValue264
 t119:=Tryz.underlying258
 a119:=Tryz.isAgg258
 z119:=Tryz.sizeOf258
 t124:=Tryz.underlying267
 a124:=Tryz.isAgg267
 z124:=Tryz.sizeOf267
 v124:=Tryz.zeroValue267
 t138:=Tryz.underlying368
 a138:=Tryz.isAgg368
 z138:=Tryz.sizeOf368
 v138:=Tryz.zeroValue368
 t139:=Tryz.underlying369
 a139:=Tryz.isAgg369
 z139:=Tryz.sizeOf369
 v139:=Tryz.zeroValue369
 g3:=by kernel_rfl
 g4:=by kernel_rfl }
def Tryz.lays161_ren:Go.Shelf.Ren:=⟨fun | 161=>143 | 231=>179 | 227=>181 | 233=>182 | 235=>184 | 228=>237 | 197=>238 | 151=>239 | 260=>276 | 152=>277 | 137=>188 | 119=>298 | 224=>288 | 225=>287 | 217=>242 | 266=>279 | n=>n,fun | 9=>9 | 4=>4 | 3=>3 | 5=>5 | 117=>264 | 116=>263 | 0=>0 | 124=>267 | 105=>309 | 21=>21 | 119=>258 | 46=>206 | 139=>369 | 138=>368 | n=>n,fun | 3=>6 | 4=>7 | n=>n⟩
theorem Tryz.lays161:Go.Proofs.Lays.n161 Tryz.prog Tryz.lays161_ren:={
 mixed:=by kernel_rfl
 f119:=Tryz.func298.trans (congrArg some (by kernel_rfl))
 f137:=Tryz.func188.trans (congrArg some (by kernel_rfl))
 f151:=Tryz.func239.trans (congrArg some (by kernel_rfl))
 f152:=Tryz.func277.trans (congrArg some (by kernel_rfl))
 f161:=Tryz.func143.trans (congrArg some (by kernel_rfl))
 f197:=Tryz.func238.trans (congrArg some (by kernel_rfl))
 f217:=Tryz.func242.trans (congrArg some (by kernel_rfl))
 f224:=Tryz.func288.trans (congrArg some (by kernel_rfl))
 f225:=Tryz.func287.trans (congrArg some (by kernel_rfl))
 f227:=Tryz.func181.trans (congrArg some (by kernel_rfl))
 f228:=Tryz.func237.trans (congrArg some (by kernel_rfl))
 f231:=Tryz.func179.trans (congrArg some (by kernel_rfl))
 f233:=Tryz.func182.trans (congrArg some (by kernel_rfl))
 f235:=Tryz.func184.trans (congrArg some (by kernel_rfl))
 f260:=Tryz.func276.trans (congrArg some (by kernel_rfl))
 f266:=Tryz.func279.trans (congrArg some (by kernel_rfl))
 t0:=Tryz.underlying0
 a0:=Tryz.isAgg0
 z0:=Tryz.sizeOf0
 v0:=Tryz.zeroValue0
 t3:=Tryz.underlying3
 a3:=Tryz.isAgg3
 z3:=Tryz.sizeOf3
 v3:=Tryz.zeroValue3
 t4:=Tryz.underlying4
 a4:=Tryz.isAgg4
 z4:=Tryz.sizeOf4
 v4:=Tryz.zeroValue4
 t5:=Tryz.underlying5
 a5:=Tryz.isAgg5
 z5:=Tryz.sizeOf5
 v5:=Tryz.zeroValue5
 t9:=Tryz.underlying9
 a9:=Tryz.isAgg9
 z9:=Tryz.sizeOf9
 v9:=Tryz.zeroValue9
 t21:=Tryz.underlying21
 a21:=Tryz.isAgg21
 z21:=Tryz.sizeOf21
 v21:=Tryz.zeroValue21
 t46:=Tryz.underlying206
 a46:=Tryz.isAgg206
 z46:=Tryz.sizeOf206
 v46:=Tryz.zeroValue206
 t105:=Tryz.underlying309
 a105:=Tryz.isAgg309
 z105:=Tryz.sizeOf309
 v105:=Tryz.zeroValue309
 t116:=Tryz.underlying263
 a116:=Tryz.isAgg263
 z116:=Tryz.sizeOf263
 t117:=Tryz.underlying264
 a117:=Tryz.isAgg264
 z117:=Tryz.sizeOf264
 v117:=Tryz.zeroValue264
 t119:=Tryz.underlying258
 a119:=Tryz.isAgg258
 z119:=Tryz.sizeOf258
 t124:=Tryz.underlying267
 a124:=Tryz.isAgg267
 z124:=Tryz.sizeOf267
 v124:=Tryz.zeroValue267
 t138:=Tryz.underlying368
 a138:=Tryz.isAgg368
 z138:=Tryz.sizeOf368
 v138:=Tryz.zeroValue368
 t139:=Tryz.underlying369
 a139:=Tryz.isAgg369
 z139:=Tryz.sizeOf369
 v139:=Tryz.zeroValue369
 g3:=by kernel_rfl
 g4:=by kernel_rfl }
def Tryz.laysC172_ren:Go.Shelf.Ren:=⟨fun | 172=>94 | 244=>144 | 245=>145 | 247=>194 | 279=>195 | 280=>196 | 281=>197 | 282=>198 | 287=>249 | 316=>250 | 171=>91 | 205=>251 | 321=>285 | 322=>286 | 243=>140 | 246=>192 | 283=>245 | 284=>246 | 285=>247 | 286=>248 | 129=>222 | 317=>281 | 318=>282 | 319=>283 | 320=>284 | 337=>300 | 338=>301 | n=>n,fun | 9=>9 | 3=>3 | 75=>176 | 76=>177 | 4=>4 | 5=>5 | 167=>274 | 37=>210 | 0=>0 | 85=>275 | 2=>2 | 168=>277 | 53=>254 | 175=>318 | 46=>206 | 210=>322 | 127=>257 | 145=>358 | 143=>356 | 21=>21 | 171=>314 | 173=>316 | 212=>353 | 51=>251 | 20=>20 | 213=>354 | 232=>371 | 233=>372 | 80=>103 | n=>n,fun | 15=>3 | 16=>4 | 17=>5 | 18=>8 | 19=>9 | n=>n⟩
theorem Tryz.laysC172:Go.Proofs.LaysC.n172 Tryz.prog Tryz.laysC172_ren:={
 mixed:=by kernel_rfl
 f129:=Tryz.func222.trans (congrArg some (by kernel_rfl))
 f171:=Tryz.func91.trans (congrArg some (by kernel_rfl))
 f172:=Tryz.func94.trans (congrArg some (by kernel_rfl))
 f205:=Tryz.func251.trans (congrArg some (by kernel_rfl))
 f243:=Tryz.func140.trans (congrArg some (by kernel_rfl))
 f244:=Tryz.func144.trans (congrArg some (by kernel_rfl))
 f245:=Tryz.func145.trans (congrArg some (by kernel_rfl))
 f246:=Tryz.func192.trans (congrArg some (by kernel_rfl))
 f247:=Tryz.func194.trans (congrArg some (by kernel_rfl))
 f279:=Tryz.func195.trans (congrArg some (by kernel_rfl))
 f280:=Tryz.func196.trans (congrArg some (by kernel_rfl))
 f281:=Tryz.func197.trans (congrArg some (by kernel_rfl))
 f282:=Tryz.func198.trans (congrArg some (by kernel_rfl))
 f283:=Tryz.func245.trans (congrArg some (by kernel_rfl))
 f284:=Tryz.func246.trans (congrArg some (by kernel_rfl))
 f285:=Tryz.func247.trans (congrArg some (by kernel_rfl))
 f286:=Tryz.func248.trans (congrArg some (by kernel_rfl))
 f287:=Tryz.func249.trans (congrArg some (by kernel_rfl))
 f316:=Tryz.func250.trans (congrArg some (by kernel_rfl))
 f317:=Tryz.func281.trans (congrArg some (by kernel_rfl))
 f318:=Tryz.func282.trans (congrArg some (by kernel_rfl))
 f319:=Tryz.func283.trans (congrArg some (by kernel_rfl))
 f320:=Tryz.func284.trans (congrArg some (by kernel_rfl))
 f321:=Tryz.func285.trans (congrArg some (by kernel_rfl))
 f322:=Tryz.func286.trans (congrArg some (by kernel_rfl))
 f337:=Tryz.func300.trans (congrArg some (by kernel_rfl))
 f338:=Tryz.func301.trans (congrArg some (by kernel_rfl))
 t0:=Tryz.underlying0
 a0:=Tryz.isAgg0
 z0:=Tryz.sizeOf0
 v0:=Tryz.zeroValue0
 t2:=Tryz.underlying2
 a2:=Tryz.isAgg2
 z2:=Tryz.sizeOf2
 v2:=Tryz.zeroValue2
 t3:=Tryz.underlying3
 a3:=Tryz.isAgg3
 z3:=Tryz.sizeOf3
 v3:=Tryz.zeroValue3
 t4:=Tryz.underlying4
 a4:=Tryz.isAgg4
 z4:=Tryz.sizeOf4
 v4:=Tryz.zeroValue4
 t5:=Tryz.underlying5
 a5:=Tryz.isAgg5
 z5:=Tryz.sizeOf5
 v5:=Tryz.zeroValue5
 t9:=Tryz.underlying9
 a9:=Tryz.isAgg9
 z9:=Tryz.sizeOf9
 v9:=Tryz.zeroValue9
 t20:=Tryz.underlying20
 a20:=Tryz.isAgg20
 z20:=Tryz.sizeOf20
 v20:=Tryz.zeroValue20
 t21:=Tryz.underlying21
 a21:=Tryz.isAgg21
 z21:=Tryz.sizeOf21
 v21:=Tryz.zeroValue21
 t37:=Tryz.underlying210
 a37:=Tryz.isAgg210
 z37:=Tryz.sizeOf210
 v37:=Tryz.zeroValue210
 t46:=Tryz.underlying206
 a46:=Tryz.isAgg206
 z46:=Tryz.sizeOf206
 v46:=Tryz.zeroValue206
 t51:=Tryz.underlying251
 a51:=Tryz.isAgg251
 z51:=Tryz.sizeOf251
 v51:=Tryz.zeroValue251
 t53:=Tryz.underlying254
 a53:=Tryz.isAgg254
 z53:=Tryz.sizeOf254
 v53:=Tryz.zeroValue254
 t75:=Tryz.underlying176
 a75:=Tryz.isAgg176
 z75:=Tryz.sizeOf176
 v75:=Tryz.zeroValue176
 t76:=Tryz.underlying177
 a76:=Tryz.isAgg177
 z76:=Tryz.sizeOf177
 v76:=Tryz.zeroValue177
 t85:=Tryz.underlying275
 a85:=Tryz.isAgg275
 z85:=Tryz.sizeOf275
 v85:=Tryz.zeroValue275
 t127:=Tryz.underlying257
 a127:=Tryz.isAgg257
 z127:=Tryz.sizeOf257
 v127:=Tryz.zeroValue257
 t143:=Tryz.underlying356
 a143:=Tryz.isAgg356
 z143:=Tryz.sizeOf356
 v143:=Tryz.zeroValue356
 t145:=Tryz.underlying358
 a145:=Tryz.isAgg358
 z145:=Tryz.sizeOf358
 v145:=Tryz.zeroValue358
 t167:=Tryz.underlying274
 a167:=Tryz.isAgg274
 z167:=Tryz.sizeOf274
 v167:=Tryz.zeroValue274
 t168:=Tryz.underlying277
 a168:=Tryz.isAgg277
 z168:=Tryz.sizeOf277
 v168:=Tryz.zeroValue277
 t171:=Tryz.underlying314
 a171:=Tryz.isAgg314
 z171:=Tryz.sizeOf314
 v171:=Tryz.zeroValue314
 t173:=Tryz.underlying316
 a173:=Tryz.isAgg316
 z173:=Tryz.sizeOf316
 v173:=Tryz.zeroValue316
 t175:=Tryz.underlying318
 a175:=Tryz.isAgg318
 z175:=Tryz.sizeOf318
 v175:=Tryz.zeroValue318
 t210:=Tryz.underlying322
 a210:=Tryz.isAgg322
 z210:=Tryz.sizeOf322
 v210:=Tryz.zeroValue322
 t212:=Tryz.underlying353
 a212:=Tryz.isAgg353
 z212:=Tryz.sizeOf353
 v212:=Tryz.zeroValue353
 t213:=Tryz.underlying354
 a213:=Tryz.isAgg354
 z213:=Tryz.sizeOf354
 t232:=Tryz.underlying371
 a232:=Tryz.isAgg371
 z232:=Tryz.sizeOf371
 v232:=Tryz.zeroValue371
 t233:=Tryz.underlying372
 a233:=Tryz.isAgg372
 z233:=Tryz.sizeOf372
 v233:=Tryz.zeroValue372
 g15:=by kernel_rfl
 g16:=by kernel_rfl
 g17:=by kernel_rfl
 g18:=by kernel_rfl
 g19:=by kernel_rfl
 t80:=Tryz.underlying103
 a80:=Tryz.isAgg103
 z80:=Tryz.sizeOf103
 v80:=Tryz.zeroValue103
 i0:=by kernel_rfl
 i2:=by kernel_rfl
 i3:=by kernel_rfl
 i4:=by kernel_rfl
 i5:=by kernel_rfl
 i9:=by kernel_rfl
 i20:=by kernel_rfl
 i21:=by kernel_rfl
 i37:=by kernel_rfl
 i46:=by kernel_rfl
 i51:=by kernel_rfl
 i53:=by kernel_rfl
 i75:=by kernel_rfl
 i76:=by kernel_rfl
 i80:=by kernel_rfl
 i85:=by kernel_rfl
 i127:=by kernel_rfl
 i143:=by kernel_rfl
 i145:=by kernel_rfl
 i167:=by kernel_rfl
 i168:=by kernel_rfl
 i171:=by kernel_rfl
 i173:=by kernel_rfl
 i175:=by kernel_rfl
 i210:=by kernel_rfl
 i212:=by kernel_rfl
 i232:=by kernel_rfl
 i233:=by kernel_rfl
 m15:=by kernel_rfl
 m16:=by kernel_rfl
 m17:=by kernel_rfl
 m18:=by kernel_rfl
 m19:=by kernel_rfl
 c0:=by kernel_rfl
 c2:=by kernel_rfl
 c3:=by kernel_rfl
 c4:=by kernel_rfl
 c5:=by kernel_rfl
 c9:=by kernel_rfl
 c20:=by kernel_rfl
 c21:=by kernel_rfl
 c37:=by kernel_rfl
 c46:=by kernel_rfl
 c51:=by kernel_rfl
 c53:=by kernel_rfl
 c75:=by kernel_rfl
 c76:=by kernel_rfl
 c80:=by kernel_rfl
 c85:=by kernel_rfl
 c127:=by kernel_rfl
 c143:=by kernel_rfl
 c145:=by kernel_rfl
 c167:=by kernel_rfl
 c168:=by kernel_rfl
 c171:=by kernel_rfl
 c173:=by kernel_rfl
 c175:=by kernel_rfl
 c210:=by kernel_rfl
 c212:=by kernel_rfl
 c213:=by kernel_rfl
 c232:=by kernel_rfl
 c233:=by kernel_rfl }
end Go.Proofs
set_option maxRecDepth 100000
set_option linter.unusedSimpArgs false
set_option linter.unusedVariables false
namespace Go.Proofs.YtnfkjpihaficbaaGreatDoor
open Go Go.Av Go.RowKit
theorem pc_libB {f:FuncId} {args:List AV} {r:AV} (vs:List Value) (v:Value) (hb:hasBody Tryz.prog f=true) (ha:∀ h vs',RL h Lf0 true vs' args→vs'=vs) (hr:∀ h,RV h Lf0 true v r)
  (H:∀ w,Calls Tryz.prog f vs.toArray w fun e w'=>e=.returned v∧Below w.heap.size w w'):Pc Tryz.prog f args (· = r):=by
 refine ⟨hb,fun h w vs' hm hv=>?_⟩
 have:=ha h vs' hv
 subst this
 refine (H w).mono ?_
 rintro e w' ⟨rfl,hs⟩
 have hs:Same w w':=⟨hs.os,hs.tape,⟨hs.output,trivial⟩,hs.size,hs.block⟩
 exact ⟨v,r,h,rfl,rfl,fun b o v e=>⟨hs.cell (hm b o v e).1,(hm b o v e).2⟩,fun _ _ _ x=>x,fun b o e n=>(n e).elim,hs,hr h⟩
def asciiL (s:List UInt8):Prop:=∀ b ∈ s,b.toNat < 128
theorem ascii_at {s:List UInt8} (h:asciiL s):∀ (j:Nat) b,(⟨s.toArray⟩:ByteArray).data.toList[j]? = some b→b.toNat < 128:=fun j b hb=>h b (List.mem_of_getElem? hb)
theorem ascii_set {s:List UInt8} (h:s.all (fun b=>decide (b.toNat < 128))=true):asciiL s:=fun b hb=>of_decide_eq_true (List.all_eq_true.1 h b hb)
theorem ascii_ok {s:List UInt8} (h:s.all okB=true):asciiL s:=fun b hb=>by
 have:=List.all_eq_true.1 h b hb
 simp only [okB,Bool.and_eq_true,Bool.not_eq_true',decide_eq_false_iff_not] at this
 omega
theorem set116:(Tryz.prog.info? (Tryz.lays150_ren.t 116)).map (fun i=>(i.zero,i.size))=some (some (.agg (Array.replicate 256 (.bool false))),256):=by kernel_rfl
theorem set160:(Tryz.prog.info? (Tryz.lays160_ren.t 116)).map (fun i=>(i.zero,i.size))=some (some (.agg (Array.replicate 256 (.bool false))),256):=by kernel_rfl
theorem set161:(Tryz.prog.info? (Tryz.lays161_ren.t 116)).map (fun i=>(i.zero,i.size))=some (some (.agg (Array.replicate 256 (.bool false))),256):=by kernel_rfl
theorem containsAny_pc (s p:List UInt8) (hs:s.length < 4294967281) (hp:p.length < 4294967281) (h1:asciiL s) (h2:asciiL p):Pc Tryz.prog 292 [.str s,.str p] (· = .bool (Lib.containsAny s p)) :=
 pc_libB [_,_] (.bool (Lib.containsAny s p)) hB292 (two_strs s p) (fun h=>.bool _) fun w=>Any.strings_ContainsAny_laid Tryz.lays150 set116 ⟨s.toArray⟩ ⟨p.toArray⟩ w hs hp (ascii_at h1) (ascii_at h2)
theorem trim_pc (s p:List UInt8) (hs:s.length < 4294967281) (hp:p.length < 4294967281) (h2:asciiL p):Pc Tryz.prog 131 [.str s,.str p] (· = .str (Lib.trimS s p)) :=
 pc_libB [_,_] (.string ⟨(Lib.trimS s p).toArray⟩) hB131 (two_strs s p) (fun h=>.str _) fun w=>Any.strings_Trim_laid Tryz.lays160 set160 ⟨s.toArray⟩ ⟨p.toArray⟩ w (show s.length ≤ _ by omega) hp (ascii_at h2)
theorem trimLeft_pc (s p:List UInt8) (hp:p.length < 4294967281) (h2:asciiL p):Pc Tryz.prog 143 [.str s,.str p] (· = .str (Lib.trimLeftS s p)) :=
 pc_libB [_,_] (.string ⟨(Lib.trimLeftS s p).toArray⟩) hB143 (two_strs s p) (fun h=>.str _) fun w=>Any.strings_TrimLeft_laid Tryz.lays161 set161 ⟨s.toArray⟩ ⟨p.toArray⟩ w hp (ascii_at h2)
def turnC (c:UInt8):Bool:=capI c.toNat || (((c.toNat:Int) == 32) || ((c.toNat:Int) == 46))
def isTurnL (s:List UInt8):Bool:=s.all turnC && decide ((s.length:Int) ≤ 40)
theorem isTurn_pc (s:List UInt8) (hs:s.length < 1000000):Pc Tryz.prog 293 [.str s] (· = .bool (isTurnL s)):=by
 refine pc_intro (ct_intro Tryz.func293 rfl Tryz.ntmps293 hB293 (by simp) fun h ρ w=>go (N:=30) Tryz.ntmps293 300 ?_)
 simp only [go_sem]
 refine aloop (ι:=Nat) (fun i=>s.length - i) (fun i=>[(6,.int .i64 i),(5,.int .i64 s.length),(0,.str s)]) (fun _=>[]) (fun i=>i ≤ s.length∧(s.take i).all turnC=true) 0 ⟨by omega,by simp⟩ ?_ ?_
 ·refine Shift.weak ?_
  simp only [wk,go_sem]
 ·rintro i ⟨g1,g2⟩ J hJ
  refine go (N:=30) Tryz.ntmps293 300 ?_
  by_cases hi:i < s.length
  ·have d1:decide ((i:Int) < (s.length:Int))=true:=by simp; omega
   have hx:s.getD i 0=s[i]:=by simp [List.getD,hi]
   simp only [go_sem,d1,hx]
   refine ⟨by omega,by simpa using hi,?_⟩
   refine pcall1 (isCapital_pc _) rfl (N:=30) Tryz.ntmps293 rfl (go (N:=30) Tryz.ntmps293 300 ?_)
   have bad:turnC s[i]=false→isTurnL s=false:=fun h=>by simp only [isTurnL,all_false_at hi h,Bool.false_and]
   have again:turnC s[i]=true→(s.take (i+1)).all turnC=true:=fun h=>all_take_succ hi g2 h
   have e1:(i:Int)+1=((i+1:Nat):Int):=by omega
   unfold turnC at bad again
   cases q1:capI s[i].toNat with
   | true =>
    simp only [go_sem]
    rw [e1]
    repeat refine And.intro (by omega) ?_
    refine ainv (hJ (i+1) ⟨by omega,again (by rw [q1]; rfl)⟩ (by omega)) (Shift.weak ?_)
    simp only [wk,go_sem]
   | false =>
    cases q2:((s[i].toNat:Int) == 32) with
    | true =>
     have q2':((s[i].toNat:Int) != 32)=false:=by rw [bne,q2]; rfl
     simp only [go_sem,q2',hx]
     rw [e1]
     repeat refine And.intro (by omega) ?_
     refine ainv (hJ (i+1) ⟨by omega,again (by rw [q1,q2]; rfl)⟩ (by omega)) (Shift.weak ?_)
     simp only [wk,go_sem]
    | false =>
     have q2':((s[i].toNat:Int) != 32)=true:=by rw [bne,q2]; rfl
     cases q3:((s[i].toNat:Int) == 46) with
     | true =>
      have q3':((s[i].toNat:Int) != 46)=false:=by rw [bne,q3]; rfl
      simp only [go_sem,q2',q3',hx]
      rw [e1]
      repeat refine And.intro (by omega) ?_
      refine ainv (hJ (i+1) ⟨by omega,again (by rw [q1,q2,q3]; rfl)⟩ (by omega)) (Shift.weak ?_)
      simp only [wk,go_sem]
     | false =>
      have q3':((s[i].toNat:Int) != 46)=true:=by rw [bne,q3]; rfl
      simp only [go_sem,q2',q3',hx]
      repeat refine And.intro (by omega) ?_
      exact aret [2] rfl ⟨by rw [bad (by rw [q1,q2,q3]; rfl)]; rfl,rfl⟩
  ·have d1:decide ((i:Int) < (s.length:Int))=false:=by simp; omega
   have:i=s.length:=by omega
   subst this
   simp only [go_sem,d1]
   refine aret [2] rfl ⟨?_,rfl⟩
   rw [List.take_length] at g2
   simp [resV,Av.get,isTurnL,g2]
def nameL (s:List UInt8):Bool:=properL s 30 [39,46,45]
theorem isName_pch {S:Std} (hS:LibOk S) (s:List UInt8) (hs:s.length < 1000000):PcH Tryz.prog S 291 [.str s] (· = .bool (nameL s)):=by
 refine pch_intro (cth_intro Tryz.func291 rfl Tryz.ntmps291 hB291 (by simp) fun h ρ w hg=>go (N:=5) Tryz.ntmps291 300 ?_)
 simp only [go_sem]
 refine pcallH1 hg (proper_pch hS s 30 _ hs) rfl (N:=5) Tryz.ntmps291 rfl (go (N:=5) Tryz.ntmps291 300 ?_)
 simp only [go_sem]
 exact aret [2] rfl ⟨rfl,rfl⟩
def followsL (k l:Int):Bool:=if k == 3 then l == 2 || l == 4 else if k == 4 then l == 2 || (l == 3 || l == 4) else l != 2 && l != 3
theorem follows_pc (k l:Int):Pc Tryz.prog 257 [.int .i64 k,.int .i64 l] (· = .bool (followsL k l)):=by
 refine pc_intro (ct_intro Tryz.func257 rfl Tryz.ntmps257 hB257 (by simp) fun h ρ w=>go (N:=33) Tryz.ntmps257 300 ?_)
 unfold followsL
 cases q3:k == 3 with
 | true =>
  cases q:l == 2 <;>
  ·simp only [go_sem,q3,q]
   exact aret [4] rfl ⟨rfl,rfl⟩
 | false =>
  cases q4:k == 4 with
  | true =>
   cases q:l == 2 <;> cases q':l == 3 <;>
   ·simp only [go_sem,q3,q4,q,q']
    exact aret [4] rfl ⟨rfl,rfl⟩
  | false =>
   cases q:l != 2 <;>
   ·simp only [go_sem,q3,q4,q]
    exact aret [4] rfl ⟨rfl,rfl⟩
structure Pa where
 kind:Int
 text:List UInt8
structure Sc where
 no:List UInt8
 place:Int
 set:List UInt8
 time:Int
 paras:List Pa
structure Sr where
 title:List UInt8
 scenes:List Sc
def paA (p:Pa):AV:=.agg [.int .i64 p.kind,.str p.text]
def scA (x:Sc):AV:=.agg [.str x.no,.int .i64 x.place,.str x.set,.int .i64 x.time,.fz 2 (x.paras.map paA)]
def srA (x:Sr):AV:=.agg [.str x.title,.fz 5 (x.scenes.map scA)]
def paraOk (p:Pa):Bool:=decide (1 ≤ p.kind) && (decide (p.kind ≤ 5) && (p.text != [] && (plainL p.text && (decide (p.text.length ≤ 2000) &&
 ((p.kind != 2 || nameL p.text) && ((p.kind != 3 || (decide (p.text.length ≤ 200) && !Lib.containsAny p.text [40,41])) && (p.kind != 5 || isTurnL p.text)))))))
theorem paraFault_pch {S:Std} (hS:LibOk S) (p:Pa) (h:paraOk p=true):PcH Tryz.prog S 256 [paA p] (· = .int .i64 0):=by
 obtain ⟨k,s⟩:=p
 simp only [paraOk,Bool.and_eq_true,decide_eq_true_eq,bne_iff_ne,ne_eq,Bool.or_eq_true,Bool.not_eq_true'] at h
 obtain ⟨h1,h2,h3,h4,h5,h6,h7,h8⟩:=h
 have e0:(s == [])=false:=by simpa using h3
 have hs:s.length < 1000000:=by omega
 have d2:decide ((s.length:Int) > 2000)=false:=by simp; omega
 have hasc:asciiL s:=ascii_ok (by simp only [plainL,Bool.and_eq_true] at h4; exact h4.1)
 unfold paA
 have hk:k=1∨k=2∨k=3∨k=4∨k=5:=by omega
 refine pch_intro (cth_intro Tryz.func256 rfl Tryz.ntmps256 hB256 (by simp) fun h ρ w hg=>go (N:=66) Tryz.ntmps256 300 ?_)
 rcases hk with rfl | rfl | rfl | rfl | rfl
 ·simp only [go_sem,e0,d2]
  refine pcallH1 hg (plain_pch hS s hs) rfl (N:=66) Tryz.ntmps256 rfl (go (N:=66) Tryz.ntmps256 300 ?_)
  rw [h4]
  simp only [go_sem,e0,d2]
  exact aret [2] rfl ⟨rfl,rfl⟩
 ·simp only [go_sem,e0,d2]
  refine pcallH1 hg (plain_pch hS s hs) rfl (N:=66) Tryz.ntmps256 rfl (go (N:=66) Tryz.ntmps256 300 ?_)
  rw [h4]
  simp only [go_sem,e0,d2]
  refine pcallH1 hg (isName_pch hS s hs) rfl (N:=66) Tryz.ntmps256 rfl (go (N:=66) Tryz.ntmps256 300 ?_)
  rw [h6.resolve_left (by simp)]
  simp only [go_sem]
  exact aret [2] rfl ⟨rfl,rfl⟩
 ·have h7:=h7.resolve_left (by simp)
  have d3:decide ((s.length:Int) > 200)=false:=by simp; omega
  simp only [go_sem,e0,d2,d3]
  refine pcallH1 hg (plain_pch hS s hs) rfl (N:=66) Tryz.ntmps256 rfl (go (N:=66) Tryz.ntmps256 300 ?_)
  rw [h4]
  simp only [go_sem,e0,d2,d3]
  refine pcall1 (containsAny_pc s [40,41] (by omega) (by decide) hasc (ascii_set rfl)) rfl (N:=66) Tryz.ntmps256 rfl (go (N:=66) Tryz.ntmps256 300 ?_)
  rw [h7.2]
  simp only [go_sem]
  exact aret [2] rfl ⟨rfl,rfl⟩
 ·simp only [go_sem,e0,d2]
  refine pcallH1 hg (plain_pch hS s hs) rfl (N:=66) Tryz.ntmps256 rfl (go (N:=66) Tryz.ntmps256 300 ?_)
  rw [h4]
  simp only [go_sem,e0,d2]
  exact aret [2] rfl ⟨rfl,rfl⟩
 ·simp only [go_sem,e0,d2]
  refine pcallH1 hg (plain_pch hS s hs) rfl (N:=66) Tryz.ntmps256 rfl (go (N:=66) Tryz.ntmps256 300 ?_)
  rw [h4]
  simp only [go_sem,e0,d2]
  refine pcall1 (isTurn_pc s hs) rfl (N:=66) Tryz.ntmps256 rfl (go (N:=66) Tryz.ntmps256 300 ?_)
  rw [h8.resolve_left (by simp)]
  simp only [go_sem]
  exact aret [2] rfl ⟨rfl,rfl⟩
def runL:Int→List Pa→Option Int
 | l,[]=>some l
 | l,p :: r=>if paraOk p && followsL p.kind l then runL p.kind r else none
theorem runL_append:∀ (a b:List Pa) (l e:Int),runL l a=some e→runL l (a++b)=runL e b
 | [],b,l,e,h=>by
  simp only [runL,Option.some.injEq] at h
  subst h; rfl
 | p :: a,b,l,e,h=>by
  simp only [runL] at h
  simp only [List.cons_append,runL]
  split at h
  ·rename_i hc
   rw [if_pos hc]
   exact runL_append a b p.kind e h
  ·simp at h
theorem runL_one {a:List Pa} {l e:Int} {p:Pa} (h:runL l a=some e) (h1:paraOk p=true) (h2:followsL p.kind e=true):runL l (a++[p])=some p.kind:=by
 rw [runL_append a _ l e h]
 simp [runL,h1,h2]
def TurnL:List (List UInt8):=[[67,85,84,32,84,79],[70,65,68,69,32,79,85,84,46],[69,78,68],[65,78,78]]
def PreA:List (List UInt8):=[[64],[62,32],[35,32],[92],[40],[35]]
def PreB:List (List UInt8):=[[40],[92],[35],[64]]
structure DrawnP (p:Pa):Prop where
 text:TextOk textC p.text
 kind:1 ≤ p.kind∧p.kind ≤ 5
 name:p.kind=2→p.text ∈ NameL
 turn:p.kind=5→p.text ∈ TurnL
 ok:paraOk p=true
theorem drawn_text {k:Int} {t:List UInt8} (hk:k=1∨k=4) (h:TextOk textC t) (hl:t.length ≤ 2000):DrawnP ⟨k,t⟩:=by
 have hp:=plain_of textC_ok h
 have hn:(t != [])=true:=by simpa using h.ne
 refine ⟨h,by simp only; omega,by simp only; omega,by simp only; omega,?_⟩
 rcases hk with rfl | rfl <;> simp [paraOk,hp,hn,hl]
theorem drawn_aside {t:List UInt8} (h:TextOk wordC t) (hl:t.length ≤ 200):DrawnP ⟨3,t⟩:=by
 have h':=h.weak wordC_text
 have hp:=plain_of textC_ok h'
 have hn:(t != [])=true:=by simpa using h.ne
 have hc:Lib.containsAny t [40,41]=false:=by
  have:Lib.NoAny t [40,41] t.length:=fun j b _ hj=>by
   have:=List.all_eq_true.1 h.all b (List.mem_of_getElem? hj)
   simp only [wordC,Bool.and_eq_true,bne_iff_ne] at this
   simp [this.2.1,this.2.2.1]
  simp [Lib.containsAny,Lib.indexAny_none this]
 refine ⟨h',by simp,by simp,by simp,?_⟩
 have h2:t.length ≤ 2000:=by omega
 simp [paraOk,hp,hn,hl,hc,h2]
theorem name_all:(NameL.all fun t=>textB textC t && paraOk ⟨2,t⟩)=true:=by decide +kernel
theorem turn_all:(TurnL.all fun t=>textB textC t && paraOk ⟨5,t⟩)=true:=by decide +kernel
theorem drawn_name {t:List UInt8} (h:t ∈ NameL):DrawnP ⟨2,t⟩:=by
 have:=List.all_eq_true.1 name_all t h
 simp only [Bool.and_eq_true] at this
 exact ⟨textB_ok this.1,by simp,fun _=>h,by simp,this.2⟩
theorem drawn_turn {t:List UInt8} (h:t ∈ TurnL):DrawnP ⟨5,t⟩:=by
 have:=List.all_eq_true.1 turn_all t h
 simp only [Bool.and_eq_true] at this
 exact ⟨textB_ok this.1,by simp,by simp,fun _=>h,this.2⟩
def preB (a:List UInt8):Bool:=a.all textC && (noDbl a && (a.head? != some 32 && (a != [] && decide (a.length ≤ 2))))
theorem pre_all:(PreA.all preB && PreB.all preB)=true:=by decide +kernel
theorem pre_text {a t:List UInt8} (h:a ∈ PreA∨a ∈ PreB) (y:TextOk wordC t):TextOk textC (a++t)∧a.length ≤ 2:=by
 have hp:preB a=true:=by
  have:=pre_all
  simp only [Bool.and_eq_true] at this
  rcases h with h | h
  ·exact List.all_eq_true.1 this.1 a h
  ·exact List.all_eq_true.1 this.2 a h
 simp only [preB,Bool.and_eq_true,bne_iff_ne,decide_eq_true_eq] at hp
 exact ⟨TextOk.pre wordC_text hp.1 hp.2.1 hp.2.2.1 hp.2.2.2.1 y,hp.2.2.2.2⟩
structure Block (b:List Pa):Prop where
 run:∀ l,l ≠ 2→l ≠ 3→∃ e,runL l b=some e∧e ≠ 2∧e ≠ 3
 len:1 ≤ b.length∧b.length ≤ 5
 all:∀ p ∈ b,DrawnP p
theorem follows_free {k l:Int} (hk:k ≠ 3) (hk':k ≠ 4) (h2:l ≠ 2) (h3:l ≠ 3):followsL k l=true:=by simp [followsL,hk,hk',h2,h3]
theorem block_one {p:Pa} (h:DrawnP p) (hk:p.kind=1∨p.kind=5):Block [p]:=by
 refine ⟨fun l h2 h3=>⟨p.kind,?_,by omega,by omega⟩,by simp,by simpa using h⟩
 simp [runL,h.ok,follows_free (show p.kind ≠ 3 by omega) (show p.kind ≠ 4 by omega) h2 h3]
theorem frozen_paras (ps:List Pa):(flat (ps.map paA)).all Av.frozen=true:=by
 induction ps with
 | nil=>rfl
 | cons y l ih=>simpa [flat,cellsOf,paA,Av.frozen] using ih
end Go.Proofs.YtnfkjpihaficbaaGreatDoor
set_option linter.unusedSectionVars false
namespace Go.Av
open Go Go.RowKit
variable [Tr]
def cellTo (n:Nat) (a a':AV):Prop:=a'=a∨(a=.raw (.slice none 0 0)∧(a'=.sl n 0 0 0∨∃ es,a'=.fz es []))
def toC (n:Nat):List AV→List AV→Prop
 | [],[]=>True
 | a :: r,a' :: r'=>cellTo n a a'∧toC n r r'
 | _,_=>False
theorem cellTo.refl {n:Nat} {a:AV}:cellTo n a a:=.inl rfl
theorem cellTo.sl {n:Nat}:cellTo n (.raw (.slice none 0 0)) (.sl n 0 0 0):=.inr ⟨rfl,.inl rfl⟩
theorem cellTo.fz {n es:Nat}:cellTo n (.raw (.slice none 0 0)) (.fz es []):=.inr ⟨rfl,.inr ⟨es,rfl⟩⟩
section
variable {h:Mem} {ρ:Own} {s:List Blk} {w:World}
theorem toC_RL {n es:Nat} (hn:s[n]? = some (.arr es [])):∀ {l l':List AV} {vs:List Value},toC n l l'→RL h (Lf ρ s) false vs l→RL h (Lf ρ s) false vs l'
 | [],[],_,_,r=>r
 | a :: l,a' :: l',_,t,r=>by
  cases r with
  | cons r1 r2 =>
   refine .cons ?_ (toC_RL hn t.2 r2)
   rcases t.1 with rfl | ⟨rfl,rfl | ⟨e,rfl⟩⟩
   ·exact r1
   ·rw [inv_raw r1]
    exact .leaf ⟨rfl,by simp only [LfC,hn]; exact ⟨by simp,fun _=>.inl ⟨trivial,trivial,none,rfl⟩⟩⟩
   ·rw [inv_raw r1]
    exact .fznil e
 | [],_ :: _,_,t,_=>t.elim
 | _ :: _,[],_,t,_=>t.elim
theorem Mine.recell (m:Mine h ρ s w) {id n es es':Nat} {l l':List AV} (hb:s[id]? = some (.arr es l)) (hlen:l'.length=l.length) (hcl:∀ x ∈ l',(cellsOf x).length=es) (hn:s[n]? = some (.arr es' [])) (ht:toC n (flat l) (flat l')) :
  Mine h ρ (s.set id (.arr es l')) w∧Later h ρ s w h ρ (s.set id (.arr es l')) w:=by
 have hid:=(List.getElem?_eq_some_iff.1 hb).1
 have hk:∀ v a,Lf ρ s v a→Lf ρ (s.set id (.arr es l')) v a:=fun v a x=>⟨x.1,LfC_set (b':=.arr es l') hb (fun _ _=>rfl) (Or.inl ⟨rfl,hlen,rfl⟩) x.2⟩
 refine ⟨⟨m.mem,?_,fun i hi=>m.out i (by simpa using hi),m.inj,m.disj⟩,⟨fun _ _ _ x=>x,fun _ _ a b=>(b a).elim,hk,rfl,rfl,⟨rfl,Tr.same rfl⟩,Nat.le_refl _,fun _ _ _=>rfl,fun i _ t x=>.inl ⟨i,t,x⟩⟩⟩
 intro i blk e
 by_cases hi:i=id
 ·subst hi
  simp [hid] at e
  subst e
  rcases m.own i _ hb with ⟨h1,h2⟩ | ⟨g,tot,cur,t,h1,h2,h3,h4,h5,h6,h7,h8,h9⟩
  ·exact .inl ⟨by subst h1; simpa using hlen,h2⟩
  ·refine .inr ⟨g,tot,cur,t,h1,h2,h3,by omega,h5,h6,hcl,h8,?_⟩
   rw [hlen]
   exact (toC_RL hn ht h9).mono (fun _ _ _ x=>x) hk
 ·rw [List.getElem?_set_ne (Ne.symm hi)] at e
  exact (m.own i blk e).mono (fun _ _ _ x=>x) hk rfl (fun _ _ _=>rfl)
end
variable {c:Cx} {e:Env} {s:List Blk}
theorem Shift.cells (id es':Nat) {es:Nat} {l:List AV} (l':List AV) (hb:s.getD id .dead=.arr es l) (hlen:l'.length=l.length) (hcl:∀ x ∈ l',(cellsOf x).length=es) (ht:toC s.length (flat l) (flat l')) :
  Shift c e s e (List.set (s++[Blk.arr es' []]) id (Blk.arr es l')):=by
 rintro a w ⟨hh,ρ,hm,hlt,he,hdf,hsz,hX⟩
 obtain ⟨m1,l1⟩:=hm.pushNil es'
 have hid:=sto_get hb
 have hlt':id < s.length:=(List.getElem?_eq_some_iff.1 hid).1
 obtain ⟨m2,l2⟩:=m1.recell (id:=id) (n:=s.length) (es':=es') (by rw [List.getElem?_append_left hlt']; exact hid) hlen hcl (by simp) ht
 exact ⟨hh,ρ,m2,hlt.trans (l1.trans l2),fun t=>((he t).mono l1.hle l1.keep).mono l2.hle l2.keep,hdf,hsz,c.hx.later hm (l1.trans l2) hX⟩
end Go.Av
namespace Go.Proofs.YtnfkjpihaficbaaGreatDoor
open Go Go.Av Go.RowKit
theorem frz_str (id e:Nat) (l:List AV) (L:List Int) (k:Int):frz id e l (str L k)=str L k:=rfl
theorem frzC_str (id e:Nat) (l:List AV) (L:List Int) (k:Int):frzC id e l (str L k)=str L k:=rfl
structure DrawnS (x:Sc):Prop where
 no:x.no=[]
 place:1 ≤ x.place∧x.place ≤ 3
 set:x.set ∈ SetL
 time:1 ≤ x.time∧x.time ≤ 5
 run:∃ e,runL 0 x.paras=some e∧e ≠ 2∧e ≠ 3
 len:x.paras.length ≤ 60
 all:∀ p ∈ x.paras,DrawnP p
end Go.Proofs.YtnfkjpihaficbaaGreatDoor
