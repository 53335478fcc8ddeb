/- The library contracts laid at this seat, in the plain words that a tool of the kit has. -/
import Derived.Shelf.Small.Wraps
import Derived.Shelf.Strings.Prefix
import Derived.Shelf.Strings.Split
import Derived.Shelf.Strings.Cut
import Derived.Shelf.Strings.Search3
import Derived.Shelf.Small.Strs
import Derived.Shelf.Strings.Builder1
import Derived.Shelf.Strconv.Atoi
import Derived.Shelf.Strconv.Itoa3
import Derived.Shelf.Strings.Repeat
import Derived.Test.YtnfkjpihaficbaaGreatDoorProg
import Derived.WalkKit
import Derived.Orders
namespace Go.Proofs
open Go.Shelf _root_.Go.Proofs.Tryz
def Tryz.lays99_ren:Go.Shelf.Ren:=⟨fun|99=>125|206=>174|n=>n,fun|9=>9|4=>4|3=>3|n=>n,fun|n=>n⟩
theorem Tryz.lays99:Go.Proofs.Lays.n99 prog Tryz.lays99_ren:={
 mixed:=by kernel_rfl
 f99:=func125.trans (congrArg some (by kernel_rfl))
 f206:=func174.trans (congrArg some (by kernel_rfl))
 t3:=underlying3
 a3:=Tryz.isAgg3
 z3:=Tryz.sizeOf3
 v3:=Tryz.zeroValue3
 t4:=underlying4
 a4:=Tryz.isAgg4
 z4:=Tryz.sizeOf4
 v4:=Tryz.zeroValue4
 t9:=underlying9
 a9:=Tryz.isAgg9
 z9:=Tryz.sizeOf9
 v9:=Tryz.zeroValue9 }
def Tryz.lays100_ren:Go.Shelf.Ren:=⟨fun|100=>146|207=>199|n=>n,fun|9=>9|4=>4|3=>3|n=>n,fun|n=>n⟩
theorem Tryz.lays100:Go.Proofs.Lays.n100 prog Tryz.lays100_ren:={
 mixed:=by kernel_rfl
 f100:=func146.trans (congrArg some (by kernel_rfl))
 f207:=func199.trans (congrArg some (by kernel_rfl))
 t3:=underlying3
 a3:=Tryz.isAgg3
 z3:=Tryz.sizeOf3
 v3:=Tryz.zeroValue3
 t4:=underlying4
 a4:=Tryz.isAgg4
 z4:=Tryz.sizeOf4
 v4:=Tryz.zeroValue4
 t9:=underlying9
 a9:=Tryz.isAgg9
 z9:=Tryz.sizeOf9
 v9:=Tryz.zeroValue9 }
def Tryz.lays146_ren:Go.Shelf.Ren:=⟨fun|146=>99|221=>147|268=>200|138=>201|143=>202|195=>252|197=>238|218=>253|219=>254|260=>276|217=>242|225=>287|224=>288|267=>289|266=>279|314=>302|n=>n,fun|9=>9|31=>71|3=>3|4=>4|0=>0|105=>309|21=>21|5=>5|46=>206|119=>258|139=>369|138=>368|146=>252|51=>251|n=>n,fun|1=>1|3=>6|4=>7|n=>n⟩
theorem Tryz.lays146:Go.Proofs.Lays.n146 prog Tryz.lays146_ren:={
 mixed:=by kernel_rfl
 f138:=func201.trans (congrArg some (by kernel_rfl))
 f143:=func202.trans (congrArg some (by kernel_rfl))
 f146:=func99.trans (congrArg some (by kernel_rfl))
 f195:=func252.trans (congrArg some (by kernel_rfl))
 f197:=func238.trans (congrArg some (by kernel_rfl))
 f217:=func242.trans (congrArg some (by kernel_rfl))
 f218:=func253.trans (congrArg some (by kernel_rfl))
 f219:=func254.trans (congrArg some (by kernel_rfl))
 f221:=func147.trans (congrArg some (by kernel_rfl))
 f224:=func288.trans (congrArg some (by kernel_rfl))
 f225:=func287.trans (congrArg some (by kernel_rfl))
 f260:=func276.trans (congrArg some (by kernel_rfl))
 f266:=func279.trans (congrArg some (by kernel_rfl))
 f267:=func289.trans (congrArg some (by kernel_rfl))
 f268:=func200.trans (congrArg some (by kernel_rfl))
 f314:=func302.trans (congrArg some (by kernel_rfl))
 t0:=underlying0
 a0:=Tryz.isAgg0
 z0:=Tryz.sizeOf0
 v0:=Tryz.zeroValue0
 t3:=underlying3
 a3:=Tryz.isAgg3
 z3:=Tryz.sizeOf3
 v3:=Tryz.zeroValue3
 t4:=underlying4
 a4:=Tryz.isAgg4
 z4:=Tryz.sizeOf4
 v4:=Tryz.zeroValue4
 t5:=underlying5
 a5:=Tryz.isAgg5
 z5:=Tryz.sizeOf5
 v5:=Tryz.zeroValue5
 t9:=underlying9
 a9:=Tryz.isAgg9
 z9:=Tryz.sizeOf9
 v9:=Tryz.zeroValue9
 t21:=underlying21
 a21:=Tryz.isAgg21
 z21:=Tryz.sizeOf21
 v21:=Tryz.zeroValue21
 t31:=underlying71
 a31:=Tryz.isAgg71
 z31:=Tryz.sizeOf71
 v31:=Tryz.zeroValue71
 t46:=underlying206
 a46:=Tryz.isAgg206
 z46:=Tryz.sizeOf206
 v46:=Tryz.zeroValue206
 t51:=underlying251
 a51:=Tryz.isAgg251
 z51:=Tryz.sizeOf251
 v51:=Tryz.zeroValue251
 t105:=underlying309
 a105:=Tryz.isAgg309
 z105:=Tryz.sizeOf309
 v105:=Tryz.zeroValue309
 t119:=underlying258
 a119:=Tryz.isAgg258
 z119:=Tryz.sizeOf258
 t138:=underlying368
 a138:=Tryz.isAgg368
 z138:=Tryz.sizeOf368
 v138:=Tryz.zeroValue368
 t139:=underlying369
 a139:=Tryz.isAgg369
 z139:=Tryz.sizeOf369
 v139:=Tryz.zeroValue369
 t146:=underlying252
 a146:=Tryz.isAgg252
 z146:=Tryz.sizeOf252
 v146:=Tryz.zeroValue252
 g1:=by kernel_rfl
 g3:=by kernel_rfl
 g4:=by kernel_rfl }
def Tryz.lays144_ren:Go.Shelf.Ren:=⟨fun|144=>241|143=>202|219=>254|217=>242|225=>287|224=>288|267=>289|266=>279|314=>302|n=>n,fun|9=>9|4=>4|3=>3|5=>5|46=>206|146=>252|51=>251|n=>n,fun|1=>1|n=>n⟩
theorem Tryz.lays144:Go.Proofs.Lays.n144 prog Tryz.lays144_ren:={
 mixed:=by kernel_rfl
 f143:=func202.trans (congrArg some (by kernel_rfl))
 f144:=func241.trans (congrArg some (by kernel_rfl))
 f217:=func242.trans (congrArg some (by kernel_rfl))
 f219:=func254.trans (congrArg some (by kernel_rfl))
 f224:=func288.trans (congrArg some (by kernel_rfl))
 f225:=func287.trans (congrArg some (by kernel_rfl))
 f266:=func279.trans (congrArg some (by kernel_rfl))
 f267:=func289.trans (congrArg some (by kernel_rfl))
 f314:=func302.trans (congrArg some (by kernel_rfl))
 t3:=underlying3
 a3:=Tryz.isAgg3
 z3:=Tryz.sizeOf3
 v3:=Tryz.zeroValue3
 t4:=underlying4
 a4:=Tryz.isAgg4
 z4:=Tryz.sizeOf4
 v4:=Tryz.zeroValue4
 t5:=underlying5
 a5:=Tryz.isAgg5
 z5:=Tryz.sizeOf5
 v5:=Tryz.zeroValue5
 t9:=underlying9
 a9:=Tryz.isAgg9
 z9:=Tryz.sizeOf9
 v9:=Tryz.zeroValue9
 t46:=underlying206
 a46:=Tryz.isAgg206
 z46:=Tryz.sizeOf206
 v46:=Tryz.zeroValue206
 t51:=underlying251
 a51:=Tryz.isAgg251
 z51:=Tryz.sizeOf251
 v51:=Tryz.zeroValue251
 t146:=underlying252
 a146:=Tryz.isAgg252
 z146:=Tryz.sizeOf252
 v146:=Tryz.zeroValue252
 g1:=by kernel_rfl }
def Tryz.lays137_ren:Go.Shelf.Ren:=⟨fun|137=>188|217=>242|266=>279|n=>n,fun|9=>9|5=>5|3=>3|n=>n,fun|n=>n⟩
theorem Tryz.lays137:Go.Proofs.Lays.n137 prog Tryz.lays137_ren:={
 mixed:=by kernel_rfl
 f137:=func188.trans (congrArg some (by kernel_rfl))
 f217:=func242.trans (congrArg some (by kernel_rfl))
 f266:=func279.trans (congrArg some (by kernel_rfl))
 t3:=underlying3
 a3:=Tryz.isAgg3
 z3:=Tryz.sizeOf3
 v3:=Tryz.zeroValue3
 t5:=underlying5
 a5:=Tryz.isAgg5
 z5:=Tryz.sizeOf5
 v5:=Tryz.zeroValue5
 t9:=underlying9
 a9:=Tryz.isAgg9
 z9:=Tryz.sizeOf9
 v9:=Tryz.zeroValue9 }
def Tryz.lays106_ren:Go.Shelf.Ren:=⟨fun|106=>113|213=>162|265=>223|n=>n,fun|9=>9|3=>3|n=>n,fun|n=>n⟩
theorem Tryz.lays106:Go.Proofs.Lays.n106 prog Tryz.lays106_ren:={
 mixed:=by kernel_rfl
 f106:=func113.trans (congrArg some (by kernel_rfl))
 f213:=func162.trans (congrArg some (by kernel_rfl))
 f265:=func223.trans (congrArg some (by kernel_rfl))
 t3:=underlying3
 a3:=Tryz.isAgg3
 z3:=Tryz.sizeOf3
 v3:=Tryz.zeroValue3
 t9:=underlying9
 a9:=Tryz.isAgg9
 z9:=Tryz.sizeOf9
 v9:=Tryz.zeroValue9 }
def Tryz.lays172_ren:Go.Shelf.Ren:=⟨fun|172=>94|244=>144|245=>145|247=>194|279=>195|280=>196|281=>197|282=>198|287=>249|316=>250|171=>91|205=>251|321=>285|322=>286|243=>140|246=>192|283=>245|284=>246|285=>247|286=>248|129=>222|317=>281|318=>282|319=>283|320=>284|337=>300|338=>301|n=>n,fun|9=>9|3=>3|75=>176|76=>177|4=>4|5=>5|167=>274|37=>210|0=>0|85=>275|2=>2|168=>277|53=>254|175=>318|46=>206|210=>322|127=>257|145=>358|143=>356|21=>21|171=>314|173=>316|212=>353|51=>251|20=>20|213=>354|232=>371|233=>372|80=>103|n=>n,fun|15=>3|16=>4|17=>5|18=>8|19=>9|n=>n⟩
theorem Tryz.lays172:Go.Proofs.Lays.n172 prog Tryz.lays172_ren:={
 mixed:=by kernel_rfl
 f129:=func222.trans (congrArg some (by kernel_rfl))
 f171:=func91.trans (congrArg some (by kernel_rfl))
 f172:=func94.trans (congrArg some (by kernel_rfl))
 f205:=func251.trans (congrArg some (by kernel_rfl))
 f243:=func140.trans (congrArg some (by kernel_rfl))
 f244:=func144.trans (congrArg some (by kernel_rfl))
 f245:=func145.trans (congrArg some (by kernel_rfl))
 f246:=func192.trans (congrArg some (by kernel_rfl))
 f247:=func194.trans (congrArg some (by kernel_rfl))
 f279:=func195.trans (congrArg some (by kernel_rfl))
 f280:=func196.trans (congrArg some (by kernel_rfl))
 f281:=func197.trans (congrArg some (by kernel_rfl))
 f282:=func198.trans (congrArg some (by kernel_rfl))
 f283:=func245.trans (congrArg some (by kernel_rfl))
 f284:=func246.trans (congrArg some (by kernel_rfl))
 f285:=func247.trans (congrArg some (by kernel_rfl))
 f286:=func248.trans (congrArg some (by kernel_rfl))
 f287:=func249.trans (congrArg some (by kernel_rfl))
 f316:=func250.trans (congrArg some (by kernel_rfl))
 f317:=func281.trans (congrArg some (by kernel_rfl))
 f318:=func282.trans (congrArg some (by kernel_rfl))
 f319:=func283.trans (congrArg some (by kernel_rfl))
 f320:=func284.trans (congrArg some (by kernel_rfl))
 f321:=func285.trans (congrArg some (by kernel_rfl))
 f322:=func286.trans (congrArg some (by kernel_rfl))
 f337:=func300.trans (congrArg some (by kernel_rfl))
 f338:=func301.trans (congrArg some (by kernel_rfl))
 t0:=underlying0
 a0:=Tryz.isAgg0
 z0:=Tryz.sizeOf0
 v0:=Tryz.zeroValue0
 t2:=underlying2
 a2:=Tryz.isAgg2
 z2:=Tryz.sizeOf2
 v2:=Tryz.zeroValue2
 t3:=underlying3
 a3:=Tryz.isAgg3
 z3:=Tryz.sizeOf3
 v3:=Tryz.zeroValue3
 t4:=underlying4
 a4:=Tryz.isAgg4
 z4:=Tryz.sizeOf4
 v4:=Tryz.zeroValue4
 t5:=underlying5
 a5:=Tryz.isAgg5
 z5:=Tryz.sizeOf5
 v5:=Tryz.zeroValue5
 t9:=underlying9
 a9:=Tryz.isAgg9
 z9:=Tryz.sizeOf9
 v9:=Tryz.zeroValue9
 t20:=underlying20
 a20:=Tryz.isAgg20
 z20:=Tryz.sizeOf20
 v20:=Tryz.zeroValue20
 t21:=underlying21
 a21:=Tryz.isAgg21
 z21:=Tryz.sizeOf21
 v21:=Tryz.zeroValue21
 t37:=underlying210
 a37:=Tryz.isAgg210
 z37:=Tryz.sizeOf210
 v37:=Tryz.zeroValue210
 t46:=underlying206
 a46:=Tryz.isAgg206
 z46:=Tryz.sizeOf206
 v46:=Tryz.zeroValue206
 t51:=underlying251
 a51:=Tryz.isAgg251
 z51:=Tryz.sizeOf251
 v51:=Tryz.zeroValue251
 t53:=underlying254
 a53:=Tryz.isAgg254
 z53:=Tryz.sizeOf254
 v53:=Tryz.zeroValue254
 t75:=underlying176
 a75:=Tryz.isAgg176
 z75:=Tryz.sizeOf176
 v75:=Tryz.zeroValue176
 t76:=underlying177
 a76:=Tryz.isAgg177
 z76:=Tryz.sizeOf177
 v76:=Tryz.zeroValue177
 t85:=underlying275
 a85:=Tryz.isAgg275
 z85:=Tryz.sizeOf275
 v85:=Tryz.zeroValue275
 t127:=underlying257
 a127:=Tryz.isAgg257
 z127:=Tryz.sizeOf257
 v127:=Tryz.zeroValue257
 t143:=underlying356
 a143:=Tryz.isAgg356
 z143:=Tryz.sizeOf356
 v143:=Tryz.zeroValue356
 t145:=underlying358
 a145:=Tryz.isAgg358
 z145:=Tryz.sizeOf358
 v145:=Tryz.zeroValue358
 t167:=underlying274
 a167:=Tryz.isAgg274
 z167:=Tryz.sizeOf274
 v167:=Tryz.zeroValue274
 t168:=underlying277
 a168:=Tryz.isAgg277
 z168:=Tryz.sizeOf277
 v168:=Tryz.zeroValue277
 t171:=underlying314
 a171:=Tryz.isAgg314
 z171:=Tryz.sizeOf314
 v171:=Tryz.zeroValue314
 t173:=underlying316
 a173:=Tryz.isAgg316
 z173:=Tryz.sizeOf316
 v173:=Tryz.zeroValue316
 t175:=underlying318
 a175:=Tryz.isAgg318
 z175:=Tryz.sizeOf318
 v175:=Tryz.zeroValue318
 t210:=underlying322
 a210:=Tryz.isAgg322
 z210:=Tryz.sizeOf322
 v210:=Tryz.zeroValue322
 t212:=underlying353
 a212:=Tryz.isAgg353
 z212:=Tryz.sizeOf353
 v212:=Tryz.zeroValue353
 t213:=underlying354
 a213:=Tryz.isAgg354
 z213:=Tryz.sizeOf354
 t232:=underlying371
 a232:=Tryz.isAgg371
 z232:=Tryz.sizeOf371
 v232:=Tryz.zeroValue371
 t233:=underlying372
 a233:=Tryz.isAgg372
 z233:=Tryz.sizeOf372
 v233:=Tryz.zeroValue372
 g15:=by kernel_rfl
 g16:=by kernel_rfl
 g17:=by kernel_rfl
 g18:=by kernel_rfl
 g19:=by kernel_rfl }
def Tryz.laysM171_ren:Go.Shelf.Ren:=⟨fun|171=>91|243=>140|246=>192|283=>245|284=>246|285=>247|286=>248|129=>222|317=>281|318=>282|319=>283|320=>284|337=>300|338=>301|n=>n,fun|3=>3|9=>9|2=>2|4=>4|171=>314|0=>0|53=>254|37=>210|5=>5|173=>316|212=>353|51=>251|20=>20|213=>354|46=>206|232=>371|233=>372|n=>n,fun|17=>5|18=>8|19=>9|n=>n⟩
theorem Tryz.laysM171:Go.Proofs.LaysM.n171 prog Tryz.laysM171_ren:={
 mixed:=by kernel_rfl
 f129:=func222.trans (congrArg some (by kernel_rfl))
 f171:=func91.trans (congrArg some (by kernel_rfl))
 f243:=func140.trans (congrArg some (by kernel_rfl))
 f246:=func192.trans (congrArg some (by kernel_rfl))
 f283:=func245.trans (congrArg some (by kernel_rfl))
 f284:=func246.trans (congrArg some (by kernel_rfl))
 f285:=func247.trans (congrArg some (by kernel_rfl))
 f286:=func248.trans (congrArg some (by kernel_rfl))
 f317:=func281.trans (congrArg some (by kernel_rfl))
 f318:=func282.trans (congrArg some (by kernel_rfl))
 f319:=func283.trans (congrArg some (by kernel_rfl))
 f320:=func284.trans (congrArg some (by kernel_rfl))
 f337:=func300.trans (congrArg some (by kernel_rfl))
 f338:=func301.trans (congrArg some (by kernel_rfl))
 t0:=underlying0
 a0:=Tryz.isAgg0
 z0:=Tryz.sizeOf0
 v0:=Tryz.zeroValue0
 t2:=underlying2
 a2:=Tryz.isAgg2
 z2:=Tryz.sizeOf2
 v2:=Tryz.zeroValue2
 t3:=underlying3
 a3:=Tryz.isAgg3
 z3:=Tryz.sizeOf3
 v3:=Tryz.zeroValue3
 t4:=underlying4
 a4:=Tryz.isAgg4
 z4:=Tryz.sizeOf4
 v4:=Tryz.zeroValue4
 t5:=underlying5
 a5:=Tryz.isAgg5
 z5:=Tryz.sizeOf5
 v5:=Tryz.zeroValue5
 t9:=underlying9
 a9:=Tryz.isAgg9
 z9:=Tryz.sizeOf9
 v9:=Tryz.zeroValue9
 t20:=underlying20
 a20:=Tryz.isAgg20
 z20:=Tryz.sizeOf20
 v20:=Tryz.zeroValue20
 t37:=underlying210
 a37:=Tryz.isAgg210
 z37:=Tryz.sizeOf210
 v37:=Tryz.zeroValue210
 t46:=underlying206
 a46:=Tryz.isAgg206
 z46:=Tryz.sizeOf206
 v46:=Tryz.zeroValue206
 t51:=underlying251
 a51:=Tryz.isAgg251
 z51:=Tryz.sizeOf251
 v51:=Tryz.zeroValue251
 t53:=underlying254
 a53:=Tryz.isAgg254
 z53:=Tryz.sizeOf254
 v53:=Tryz.zeroValue254
 t171:=underlying314
 a171:=Tryz.isAgg314
 z171:=Tryz.sizeOf314
 v171:=Tryz.zeroValue314
 t173:=underlying316
 a173:=Tryz.isAgg316
 z173:=Tryz.sizeOf316
 v173:=Tryz.zeroValue316
 t212:=underlying353
 a212:=Tryz.isAgg353
 z212:=Tryz.sizeOf353
 v212:=Tryz.zeroValue353
 t213:=underlying354
 a213:=Tryz.isAgg354
 z213:=Tryz.sizeOf354
 t232:=underlying371
 a232:=Tryz.isAgg371
 z232:=Tryz.sizeOf371
 v232:=Tryz.zeroValue371
 t233:=underlying372
 a233:=Tryz.isAgg372
 z233:=Tryz.sizeOf372
 v233:=Tryz.zeroValue372
 g17:=by kernel_rfl
 g18:=by kernel_rfl
 g19:=by kernel_rfl
 i0:=by kernel_rfl
 i2:=by kernel_rfl
 i3:=by kernel_rfl
 i4:=by kernel_rfl
 i5:=by kernel_rfl
 i9:=by kernel_rfl
 i20:=by kernel_rfl
 i37:=by kernel_rfl
 i46:=by kernel_rfl
 i51:=by kernel_rfl
 i53:=by kernel_rfl
 i171:=by kernel_rfl
 i173:=by kernel_rfl
 i212:=by kernel_rfl
 i232:=by kernel_rfl
 i233:=by kernel_rfl
 m17:=by kernel_rfl
 m18:=by kernel_rfl
 m19:=by kernel_rfl }
def Tryz.lays105_ren:Go.Shelf.Ren:=⟨fun|105=>72|212=>124|99=>125|165=>126|166=>127|170=>128|169=>129|263=>172|264=>173|206=>174|240=>175|241=>176|276=>234|277=>235|n=>n,fun|9=>9|3=>3|4=>4|20=>20|0=>0|46=>206|109=>207|5=>5|72=>212|76=>177|51=>251|146=>252|53=>254|148=>255|70=>209|37=>210|75=>176|127=>257|164=>301|80=>103|n=>n,fun|n=>n⟩
theorem Tryz.lays105:Go.Proofs.Lays.n105 prog Tryz.lays105_ren:={
 mixed:=by kernel_rfl
 f99:=func125.trans (congrArg some (by kernel_rfl))
 f105:=func72.trans (congrArg some (by kernel_rfl))
 f165:=func126.trans (congrArg some (by kernel_rfl))
 f166:=func127.trans (congrArg some (by kernel_rfl))
 f169:=func129.trans (congrArg some (by kernel_rfl))
 f170:=func128.trans (congrArg some (by kernel_rfl))
 f206:=func174.trans (congrArg some (by kernel_rfl))
 f212:=func124.trans (congrArg some (by kernel_rfl))
 f240:=func175.trans (congrArg some (by kernel_rfl))
 f241:=func176.trans (congrArg some (by kernel_rfl))
 f263:=func172.trans (congrArg some (by kernel_rfl))
 f264:=func173.trans (congrArg some (by kernel_rfl))
 f276:=func234.trans (congrArg some (by kernel_rfl))
 f277:=func235.trans (congrArg some (by kernel_rfl))
 t0:=underlying0
 a0:=Tryz.isAgg0
 z0:=Tryz.sizeOf0
 v0:=Tryz.zeroValue0
 t3:=underlying3
 a3:=Tryz.isAgg3
 z3:=Tryz.sizeOf3
 v3:=Tryz.zeroValue3
 t4:=underlying4
 a4:=Tryz.isAgg4
 z4:=Tryz.sizeOf4
 v4:=Tryz.zeroValue4
 t5:=underlying5
 a5:=Tryz.isAgg5
 z5:=Tryz.sizeOf5
 v5:=Tryz.zeroValue5
 t9:=underlying9
 a9:=Tryz.isAgg9
 z9:=Tryz.sizeOf9
 v9:=Tryz.zeroValue9
 t20:=underlying20
 a20:=Tryz.isAgg20
 z20:=Tryz.sizeOf20
 v20:=Tryz.zeroValue20
 t37:=underlying210
 a37:=Tryz.isAgg210
 z37:=Tryz.sizeOf210
 v37:=Tryz.zeroValue210
 t46:=underlying206
 a46:=Tryz.isAgg206
 z46:=Tryz.sizeOf206
 v46:=Tryz.zeroValue206
 t51:=underlying251
 a51:=Tryz.isAgg251
 z51:=Tryz.sizeOf251
 v51:=Tryz.zeroValue251
 t53:=underlying254
 a53:=Tryz.isAgg254
 z53:=Tryz.sizeOf254
 v53:=Tryz.zeroValue254
 t70:=underlying209
 a70:=Tryz.isAgg209
 z70:=Tryz.sizeOf209
 v70:=Tryz.zeroValue209
 t72:=underlying212
 a72:=Tryz.isAgg212
 z72:=Tryz.sizeOf212
 v72:=Tryz.zeroValue212
 t75:=underlying176
 a75:=Tryz.isAgg176
 z75:=Tryz.sizeOf176
 v75:=Tryz.zeroValue176
 t76:=underlying177
 a76:=Tryz.isAgg177
 z76:=Tryz.sizeOf177
 v76:=Tryz.zeroValue177
 t109:=underlying207
 a109:=Tryz.isAgg207
 z109:=Tryz.sizeOf207
 v109:=Tryz.zeroValue207
 t127:=underlying257
 a127:=Tryz.isAgg257
 z127:=Tryz.sizeOf257
 v127:=Tryz.zeroValue257
 t146:=underlying252
 a146:=Tryz.isAgg252
 z146:=Tryz.sizeOf252
 v146:=Tryz.zeroValue252
 t148:=underlying255
 a148:=Tryz.isAgg255
 z148:=Tryz.sizeOf255
 v148:=Tryz.zeroValue255
 t164:=underlying301
 a164:=Tryz.isAgg301
 z164:=Tryz.sizeOf301
 v164:=Tryz.zeroValue301 }
end Go.Proofs
set_option linter.unusedSimpArgs false
set_option linter.unusedVariables false
set_option linter.unusedSectionVars false
namespace Go.Av
open Go Go.RowKit
inductive AV where
 | int (k:IntKind) (n:Int)
 | bool (b:Bool)
 | str (s:List UInt8)
 | fz (esz:Nat) (l:List AV)
 | agg (l:List AV)
 | tup (l:List AV)
 | sl (id off len cap:Nat)
 | ptr (id n i off:Nat)
 | pin (esz:Nat) (l:List AV) (i off:Nat)
 | mp (id:Nat)
 | fn (f:Fn) (cap:List AV)
 | raw (v:Value)
 | any
def cellsOf:AV->List AV
 | .agg l=>l
 | v=>[v]
def flat:List AV->List AV
 | []=>[]
 | x::r=>cellsOf x++flat r
abbrev Mem:=Nat->Nat->Option Value
mutual
inductive RV (h:Mem)(Lf:Value->AV->Prop):Bool->Value->AV->Prop
 | leaf {v a}:Lf v a->RV h Lf false v a
 | int {fl} (k n):RV h Lf fl (.int k n) (.int k n)
 | bool {fl} (b):RV h Lf fl (.bool b) (.bool b)
 | str {fl} (s:List UInt8):RV h Lf fl (.string ⟨s.toArray⟩) (.str s)
 | raw {fl} (v):RV h Lf fl v (.raw v)
 | any {fl} (v):RV h Lf fl v .any
 | fznil {fl} (esz):RV h Lf fl (.slice none 0 0) (.fz esz [])
 | fz {fl} (b o c esz:Nat) (l:List AV) (vs:List Value):RL h Lf true vs (flat l)->(∀ x∈l,(cellsOf x).length=esz) ->
   (∀ k v,vs[k]? = some v->h b (o+k)=some v)->l.length<=c->RV h Lf fl (.slice (some ⟨b,o,none⟩) l.length c) (.fz esz l)
 | pin {fl} (b o esz:Nat) (l:List AV) (vs:List Value) (i off:Nat):RL h Lf true vs (flat l)->(∀ x∈l,(cellsOf x).length=esz) ->
   (∀ k v,vs[k]? = some v->h b (o+k)=some v)->i<l.length->RV h Lf fl (.pointer (some ⟨b,o+(i*esz+off),none⟩)) (.pin esz l i off)
 | agg {fl} (vs:List Value) (l:List AV):RL h Lf fl vs l->RV h Lf fl (.agg vs.toArray) (.agg l)
 | tup {fl} (vs:List Value) (l:List AV):RL h Lf fl vs l->RV h Lf fl (.tuple vs.toArray) (.tup l)
 | fn {fl} (f:Fn) (vs:List Value) (l:List AV):RL h Lf fl vs l->RV h Lf fl (.func f #[] vs.toArray) (.fn f l)
inductive RL (h:Mem)(Lf:Value->AV->Prop):Bool->List Value->List AV->Prop
 | nil {fl}:RL h Lf fl [] []
 | cons {fl v a vs l}:RV h Lf fl v a->RL h Lf fl vs l->RL h Lf fl (v::vs) (a::l)
end
section
variable {h h':Mem}{Lf Lf':Value->AV->Prop}
theorem RV.mono(hh:∀ b o v,h b o=some v->h' b o=some v)(hl:∀ v a,Lf v a->Lf' v a) {fl v a}(r:RV h Lf fl v a):RV h' Lf' fl v a:=by
 induction r using RV.rec (motive_2:=fun fl vs l _=>RL h' Lf' fl vs l)with
 | leaf p=>exact .leaf (hl _ _ p)
 | int k n=>exact .int k n
 | bool b=>exact .bool b
 | str s=>exact .str s
 | raw v=>exact .raw v
 | any v=>exact .any v
 | fznil e=>exact .fznil e
 | fz b o c esz l vs _ h1 h2 h3 ih=>exact .fz b o c esz l vs ih h1 (fun k v hk=>hh _ _ _ (h2 k v hk)) h3
 | pin b o esz l vs i off _ h1 h2 h3 ih=>exact .pin b o esz l vs i off ih h1 (fun k v hk=>hh _ _ _ (h2 k v hk)) h3
 | agg vs l _ ih=>exact .agg vs l ih
 | tup vs l _ ih=>exact .tup vs l ih
 | fn f vs l _ ih=>exact .fn f vs l ih
 | nil=>exact .nil
 | cons _ _ ih1 ih2=>exact .cons ih1 ih2
theorem RL.mono(hh:∀ b o v,h b o=some v->h' b o=some v)(hl:∀ v a,Lf v a->Lf' v a) {fl vs l}(r:RL h Lf fl vs l):RL h' Lf' fl vs l:=by
 induction l generalizing vs with
 | nil=>cases r; exact .nil
 | cons a l ih=>cases r with|cons h1 h2=>exact .cons (h1.mono hh hl) (ih h2)
theorem RV.thaw(hh:∀ b o v,h b o=some v->h' b o=some v) {fl v a}(r:RV h Lf true v a):RV h' Lf' fl v a:=by
 suffices H:∀ {f v a} (_:RV h Lf f v a),f=true->∀ fl,RV h' Lf' fl v a from H r rfl fl
 intro f v a r
 induction r using RV.rec (motive_2:=fun f vs l _=>f=true->∀ fl,RL h' Lf' fl vs l)with
 | leaf p=>intro e; cases e
 | int k n=>intro _ fl; exact .int k n
 | bool b=>intro _ fl; exact .bool b
 | str s=>intro _ fl; exact .str s
 | raw v=>intro _ fl; exact .raw v
 | any v=>intro _ fl; exact .any v
 | fznil e=>intro _ fl; exact .fznil e
 | fz b o c esz l vs _ h1 h2 h3 ih=>intro _ fl; exact .fz b o c esz l vs (ih rfl true) h1 (fun k v hk=>hh _ _ _ (h2 k v hk)) h3
 | pin b o esz l vs i off _ h1 h2 h3 ih=>intro _ fl; exact .pin b o esz l vs i off (ih rfl true) h1 (fun k v hk=>hh _ _ _ (h2 k v hk)) h3
 | agg vs l _ ih=>intro e fl; exact .agg vs l (ih e fl)
 | tup vs l _ ih=>intro e fl; exact .tup vs l (ih e fl)
 | fn f vs l _ ih=>intro e fl; exact .fn f vs l (ih e fl)
 | nil=>exact .nil
 | cons _ _ ih1 ih2=>exact .cons (ih1 (by assumption) _) (ih2 (by assumption) _)
theorem RL.thaw(hh:∀ b o v,h b o=some v->h' b o=some v) {fl vs l}(r:RL h Lf true vs l):RL h' Lf' fl vs l:=by
 induction l generalizing vs with
 | nil=>cases r; exact .nil
 | cons a l ih=>cases r with|cons h1 h2=>exact .cons (h1.thaw hh) (ih h2)
theorem RL.length{fl vs l}(r:RL h Lf fl vs l):vs.length=l.length:=by
 induction l generalizing vs with
 | nil=>cases r; rfl
 | cons a l ih=>cases r with|cons h1 h2=>simp[ih h2]
theorem RL.get{fl vs l}(r:RL h Lf fl vs l){k:Nat}{a:AV}(hk:l[k]? = some a):∃ v,vs[k]? = some v/\RV h Lf fl v a:=by
 induction l generalizing vs k with
 | nil=>simp at hk
 | cons b l ih =>
  cases r with
  | cons h1 h2 =>
   cases k with
   | zero=>simp at hk; subst hk; exact⟨_,rfl,h1⟩
   | succ k=>simpa using ih h2 (by simpa using hk)
theorem RL.getD{fl vs l}(r:RL h Lf fl vs l)(k:Nat)(v0:Value):RV h Lf fl (vs.getD k v0) (l.getD k .any):=by
 cases hk:l[k]? with
 | none=>simp[List.getD,hk]; exact .any _
 | some a =>
  obtain⟨v,h1,h2⟩:=r.get hk
  simpa[List.getD,hk,h1]using h2
theorem RL.append{fl vs l vs' l'}(r:RL h Lf fl vs l)(r':RL h Lf fl vs' l'):RL h Lf fl (vs++vs') (l++l'):=by
 induction l generalizing vs with
 | nil=>cases r; exact r'
 | cons a l ih=>cases r with|cons h1 h2=>exact .cons h1 (ih h2)
theorem RL.take{fl vs l}(r:RL h Lf fl vs l)(n:Nat):RL h Lf fl (vs.take n) (l.take n):=by
 induction l generalizing vs n with
 | nil=>cases r; simp; exact .nil
 | cons a l ih =>
  cases r with
  | cons h1 h2 =>
   cases n with
   | zero=>simp; exact .nil
   | succ n=>simp; exact .cons h1 (ih h2 n)
theorem RL.drop{fl vs l}(r:RL h Lf fl vs l)(n:Nat):RL h Lf fl (vs.drop n) (l.drop n):=by
 induction l generalizing vs n with
 | nil=>cases r; simp; exact .nil
 | cons a l ih =>
  cases r with
  | cons h1 h2 =>
   cases n with
   | zero=>simp; exact .cons h1 h2
   | succ n=>simp; exact ih h2 n
theorem RL.set{fl vs l}(r:RL h Lf fl vs l)(k:Nat){v:Value}{a:AV}(rv:RV h Lf fl v a):RL h Lf fl (vs.set k v) (l.set k a):=by
 induction l generalizing vs k with
 | nil=>cases r; simp; exact .nil
 | cons b l ih =>
  cases r with
  | cons h1 h2 =>
   cases k with
   | zero=>simp; exact .cons rv h2
   | succ k=>simp; exact .cons h1 (ih h2 k)
theorem RL.of_get{fl:Bool}:∀ {vs:List Value}{l:List AV},vs.length=l.length->(∀ (k:Nat)(v:Value)(a:AV),vs[k]? = some v->l[k]? = some a->RV h Lf fl v a)->RL h Lf fl vs l
 | [],[],_,_=>.nil
 | [],_::_,e,_=>by simp at e
 | _::_,[],e,_=>by simp at e
 | v::vs,a::l,e,H=>.cons (H 0 v a rfl rfl) (RL.of_get (by simpa using e) fun k v a h1 h2=>H (k+1) v a (by simpa using h1) (by simpa using h2))
end
theorem flat_append(l m:List AV):flat (l++m)=flat l++flat m:=by
 induction l with
 | nil=>rfl
 | cons x l ih=>simp[flat,ih]
theorem AaK{l:List AV}{esz:Nat}(h:∀ x∈l,(cellsOf x).length=esz):(flat l).length=l.length*esz:=by
 induction l with
 | nil=>simp[flat]
 | cons x l ih =>
  simp only[flat,List.length_append,List.length_cons,Nat.succ_mul];rw[h x (by simp),ih (fun y hy=>h y (by simp[hy]))];omega
theorem AbB{esz:Nat}:∀ {l:List AV}(_:∀ x∈l,(cellsOf x).length=esz)(i:Nat),(flat l).drop (i*esz)=flat (l.drop i)
 | [],_,i=>by simp[flat]
 | x::l,h,0=>by simp
 | x::l,h,i+1=>by
  have hx:=h x (by simp);rw[Nat.succ_mul,Nat.add_comm,<- List.drop_drop];simp only[flat,List.drop_succ_cons];rw[List.drop_append,hx]
  simp[<- hx]
  rw[hx];exact AbB (fun y hy=>h y (by simp[hy])) i
theorem AbP{esz:Nat}:∀ {l:List AV}(_:∀ x∈l,(cellsOf x).length=esz)(i:Nat),(flat l).take (i*esz)=flat (l.take i)
 | [],_,i=>by simp[flat]
 | x::l,h,0=>by simp[flat]
 | x::l,h,i+1=>by
  have hx:=h x (by simp);rw[Nat.succ_mul,Nat.add_comm];simp only[flat,List.take_succ_cons];rw[<- hx,List.take_length_add_append,hx,AbP (fun y hy=>h y (by simp[hy])) i]
theorem BaO{l:List AV}{esz:Nat}(h:∀ x∈l,(cellsOf x).length=esz){i j:Nat}{x:AV}(hi:l[i]? = some x)(hj:j<esz):(flat l)[i*esz+j]? = (cellsOf x)[j]?:=by
 have h1:=AbB h i;have:l.drop i=x::l.drop (i+1):=by
  rw[List.drop_eq_getElem?_toList_append,hi]; rfl
 rw[this]at h1;simp only[flat]at h1;have hx:=h x (List.mem_of_getElem? hi);rw[<- List.getElem?_drop,h1,List.getElem?_append_left (by omega)]
theorem ah{a b:Prop}(k:b)(h:a:=by first|rfl|decide|exact .inl rfl|exact .inl trivial):a/\b:=⟨h,k⟩
theorem ai{a b:Prop}(k:b)(h:a:=by first|omega|rfl|kernel_rfl|exact .inl rfl|exact .inl trivial|(simp; done)|(simp; omega)):a/\b:=⟨h,k⟩
theorem aj{a b:Prop}(k:b)(h:a:=by first|omega|rfl|(simp; done)|(simp; omega)):a/\b:=⟨h,k⟩
theorem ak{a b:Prop}(k:b)(h:a:=by first|omega|rfl|kernel_rfl|(simp; done)|(simp; omega)):a/\b:=⟨h,k⟩
theorem al{a b:Prop}(k:b)(h:a:=by first|omega|exact .inl trivial|(simp; done)|(simp; omega)):a/\b:=⟨h,k⟩
theorem ao{a b:Prop}(k:b)(h:a:=by omega):a/\b:=⟨h,k⟩
theorem aqa{a b:Prop}(k:b)(h:a:=by first|omega|rfl|(simp; omega)):a/\b:=⟨h,k⟩
theorem aqb{a b:Prop}(k:b)(h:a:=by first|omega|rfl):a/\b:=⟨h,k⟩
theorem aqc{a b:Prop}(k:b)(h:a:=by first|omega|(simp; done)|(simp; omega)):a/\b:=⟨h,k⟩
theorem aqd{a b:Prop}(k:b)(h:a:=by first|omega|(simp; done)|(simp; omega)|kernel_rfl):a/\b:=⟨h,k⟩
theorem aqe{a b:Prop}(k:b)(h:a:=by first|omega|(simp; done)|(simp; omega)|kernel_rfl|exact .inl rfl|exact .inl trivial):a/\b:=⟨h,k⟩
theorem aqf{a b:Prop}(k:b)(h:a:=by first|kernel_rfl|rfl):a/\b:=⟨h,k⟩
theorem aqg{a b:Prop}(k:b)(h:a:=by first|omega|trivial|exact .inl trivial):a/\b:=⟨h,k⟩
theorem aqh{a b:Prop}(k:b)(h:a:=by first|rfl|decide):a/\b:=⟨h,k⟩
theorem aqi{a b:Prop}(k:b)(h:a:=by first|exact .inl trivial|exact .inl rfl|omega|rfl|(simp; done)):a/\b:=⟨h,k⟩
theorem aqj{a b:Prop}(k:b)(h:a:=by first|omega|rfl|decide):a/\b:=⟨h,k⟩
theorem aqk{a b:Prop}(k:b)(h:a:=by first|omega|rfl|decide|(simp; omega)):a/\b:=⟨h,k⟩
theorem aql{a b:Prop}(k:b)(h:a:=by first|rfl|decide|omega|(simp; done)|(simp; omega)):a/\b:=⟨h,k⟩
theorem aqm{a b:Prop}(k:b)(h:a:=by first|omega|kernel_rfl|rfl|(simp; done)|(simp; omega)):a/\b:=⟨h,k⟩
theorem aqn{a b:Prop}(k:b)(h:a:=by first|omega|rfl|exact .inl rfl|exact .inl trivial|(simp; done)|(simp; omega)):a/\b:=⟨h,k⟩
theorem aqo{a b:Prop}(k:b)(h:a:=by first|omega|rfl|kernel_rfl|exact .inl rfl|exact .inl trivial|(simp; done)):a/\b:=⟨h,k⟩
theorem ic(i:Nat):(i:Int)+1=((i+1:Nat):Int):=by omega
