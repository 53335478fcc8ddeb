/- The library contracts laid at this seat, in the plain words that a tool of the kit has. -/
import Derived.Shelf.Small.Wraps
import Derived.Shelf.Strings.Prefix
import Derived.Shelf.Strings.LastIndexAll
import Derived.Shelf.Strings.Split
import Derived.Shelf.Strings.Cut
import Derived.Shelf.Strings.Search3
import Derived.Shelf.Small.Strs
import Derived.Shelf.Strings.Builder1
import Derived.Shelf.Strconv.Atoi
import Derived.Shelf.Strconv.Itoa3
import Derived.Shelf.Strings.Repeat
import Derived.Test.YtlldmgboedknfaaGreatDoorProg
import Derived.WalkKit
import Derived.Orders
namespace Go.Proofs
open Go.Shelf _root_.Go.Proofs.Tryz
def Tryz.lays99_ren:Go.Shelf.Ren:=⟨fun|99=>38|206=>95|n=>n,fun|9=>9|4=>4|3=>3|n=>n,fun|n=>n⟩
theorem Tryz.lays99:Go.Proofs.Lays.n99 prog Tryz.lays99_ren:={
 mixed:=by kernel_rfl
 f99:=func38.trans (congrArg some (by kernel_rfl))
 f206:=func95.trans (congrArg some (by kernel_rfl))
 t3:=underlying3
 a3:=Tryz.isAgg3
 z3:=Tryz.sizeOf3
 v3:=Tryz.zeroValue3
 t4:=underlying4
 a4:=Tryz.isAgg4
 z4:=Tryz.sizeOf4
 v4:=Tryz.zeroValue4
 t9:=underlying9
 a9:=Tryz.isAgg9
 z9:=Tryz.sizeOf9
 v9:=Tryz.zeroValue9 }
def Tryz.lays103_ren:Go.Shelf.Ren:=⟨fun|103=>88|210=>143|206=>95|n=>n,fun|9=>9|4=>4|24=>66|3=>3|n=>n,fun|n=>n⟩
theorem Tryz.lays103:Go.Proofs.Lays.n103 prog Tryz.lays103_ren:={
 mixed:=by kernel_rfl
 f103:=func88.trans (congrArg some (by kernel_rfl))
 f206:=func95.trans (congrArg some (by kernel_rfl))
 f210:=func143.trans (congrArg some (by kernel_rfl))
 t3:=underlying3
 a3:=Tryz.isAgg3
 z3:=Tryz.sizeOf3
 v3:=Tryz.zeroValue3
 t4:=underlying4
 a4:=Tryz.isAgg4
 z4:=Tryz.sizeOf4
 v4:=Tryz.zeroValue4
 t9:=underlying9
 a9:=Tryz.isAgg9
 z9:=Tryz.sizeOf9
 v9:=Tryz.zeroValue9
 t24:=underlying66
 a24:=Tryz.isAgg66
 z24:=Tryz.sizeOf66
 v24:=Tryz.zeroValue66 }
def Tryz.lays100_ren:Go.Shelf.Ren:=⟨fun|100=>35|207=>85|n=>n,fun|9=>9|4=>4|3=>3|n=>n,fun|n=>n⟩
theorem Tryz.lays100:Go.Proofs.Lays.n100 prog Tryz.lays100_ren:={
 mixed:=by kernel_rfl
 f100:=func35.trans (congrArg some (by kernel_rfl))
 f207:=func85.trans (congrArg some (by kernel_rfl))
 t3:=underlying3
 a3:=Tryz.isAgg3
 z3:=Tryz.sizeOf3
 v3:=Tryz.zeroValue3
 t4:=underlying4
 a4:=Tryz.isAgg4
 z4:=Tryz.sizeOf4
 v4:=Tryz.zeroValue4
 t9:=underlying9
 a9:=Tryz.isAgg9
 z9:=Tryz.sizeOf9
 v9:=Tryz.zeroValue9 }
def Tryz.lays148_ren:Go.Shelf.Ren:=⟨fun|148=>225|222=>241|223=>242|269=>246|n=>n,fun|9=>9|3=>3|4=>4|5=>5|146=>179|51=>178|46=>140|n=>n,fun|n=>n⟩
theorem Tryz.lays148:Go.Proofs.Lays.n148 prog Tryz.lays148_ren:={
 mixed:=by kernel_rfl
 f148:=func225.trans (congrArg some (by kernel_rfl))
 f222:=func241.trans (congrArg some (by kernel_rfl))
 f223:=func242.trans (congrArg some (by kernel_rfl))
 f269:=func246.trans (congrArg some (by kernel_rfl))
 t3:=underlying3
 a3:=Tryz.isAgg3
 z3:=Tryz.sizeOf3
 v3:=Tryz.zeroValue3
 t4:=underlying4
 a4:=Tryz.isAgg4
 z4:=Tryz.sizeOf4
 v4:=Tryz.zeroValue4
 t5:=underlying5
 a5:=Tryz.isAgg5
 z5:=Tryz.sizeOf5
 v5:=Tryz.zeroValue5
 t9:=underlying9
 a9:=Tryz.isAgg9
 z9:=Tryz.sizeOf9
 v9:=Tryz.zeroValue9
 t46:=underlying140
 a46:=Tryz.isAgg140
 z46:=Tryz.sizeOf140
 v46:=Tryz.zeroValue140
 t51:=underlying178
 a51:=Tryz.isAgg178
 z51:=Tryz.sizeOf178
 v51:=Tryz.zeroValue178
 t146:=underlying179
 a146:=Tryz.isAgg179
 z146:=Tryz.sizeOf179
 v146:=Tryz.zeroValue179 }
def Tryz.lays146_ren:Go.Shelf.Ren:=⟨fun|146=>86|221=>140|268=>192|138=>193|143=>152|195=>222|197=>214|218=>223|219=>201|260=>236|217=>224|225=>227|224=>228|267=>229|266=>240|314=>243|n=>n,fun|9=>9|31=>29|3=>3|4=>4|0=>0|105=>239|21=>21|5=>5|46=>140|119=>261|139=>264|138=>263|146=>179|51=>178|n=>n,fun|1=>0|3=>6|4=>7|n=>n⟩
theorem Tryz.lays146:Go.Proofs.Lays.n146 prog Tryz.lays146_ren:={
 mixed:=by kernel_rfl
 f138:=func193.trans (congrArg some (by kernel_rfl))
 f143:=func152.trans (congrArg some (by kernel_rfl))
 f146:=func86.trans (congrArg some (by kernel_rfl))
 f195:=func222.trans (congrArg some (by kernel_rfl))
 f197:=func214.trans (congrArg some (by kernel_rfl))
 f217:=func224.trans (congrArg some (by kernel_rfl))
 f218:=func223.trans (congrArg some (by kernel_rfl))
 f219:=func201.trans (congrArg some (by kernel_rfl))
 f221:=func140.trans (congrArg some (by kernel_rfl))
 f224:=func228.trans (congrArg some (by kernel_rfl))
 f225:=func227.trans (congrArg some (by kernel_rfl))
 f260:=func236.trans (congrArg some (by kernel_rfl))
 f266:=func240.trans (congrArg some (by kernel_rfl))
 f267:=func229.trans (congrArg some (by kernel_rfl))
 f268:=func192.trans (congrArg some (by kernel_rfl))
 f314:=func243.trans (congrArg some (by kernel_rfl))
 t0:=underlying0
 a0:=Tryz.isAgg0
 z0:=Tryz.sizeOf0
 v0:=Tryz.zeroValue0
 t3:=underlying3
 a3:=Tryz.isAgg3
 z3:=Tryz.sizeOf3
 v3:=Tryz.zeroValue3
 t4:=underlying4
 a4:=Tryz.isAgg4
 z4:=Tryz.sizeOf4
 v4:=Tryz.zeroValue4
 t5:=underlying5
 a5:=Tryz.isAgg5
 z5:=Tryz.sizeOf5
 v5:=Tryz.zeroValue5
 t9:=underlying9
 a9:=Tryz.isAgg9
 z9:=Tryz.sizeOf9
 v9:=Tryz.zeroValue9
 t21:=underlying21
 a21:=Tryz.isAgg21
 z21:=Tryz.sizeOf21
 v21:=Tryz.zeroValue21
 t31:=underlying29
 a31:=Tryz.isAgg29
 z31:=Tryz.sizeOf29
 v31:=Tryz.zeroValue29
 t46:=underlying140
 a46:=Tryz.isAgg140
 z46:=Tryz.sizeOf140
 v46:=Tryz.zeroValue140
 t51:=underlying178
 a51:=Tryz.isAgg178
 z51:=Tryz.sizeOf178
 v51:=Tryz.zeroValue178
 t105:=underlying239
 a105:=Tryz.isAgg239
 z105:=Tryz.sizeOf239
 v105:=Tryz.zeroValue239
 t119:=underlying261
 a119:=Tryz.isAgg261
 z119:=Tryz.sizeOf261
 t138:=underlying263
 a138:=Tryz.isAgg263
 z138:=Tryz.sizeOf263
 v138:=Tryz.zeroValue263
 t139:=underlying264
 a139:=Tryz.isAgg264
 z139:=Tryz.sizeOf264
 v139:=Tryz.zeroValue264
 t146:=underlying179
 a146:=Tryz.isAgg179
 z146:=Tryz.sizeOf179
 v146:=Tryz.zeroValue179
 g1:=by kernel_rfl
 g3:=by kernel_rfl
 g4:=by kernel_rfl }
def Tryz.lays145_ren:Go.Shelf.Ren:=⟨fun|145=>100|220=>151|219=>201|217=>224|225=>227|224=>228|267=>229|266=>240|314=>243|n=>n,fun|9=>9|4=>4|59=>152|3=>3|5=>5|46=>140|146=>179|51=>178|n=>n,fun|1=>0|n=>n⟩
theorem Tryz.lays145:Go.Proofs.Lays.n145 prog Tryz.lays145_ren:={
 mixed:=by kernel_rfl
 f145:=func100.trans (congrArg some (by kernel_rfl))
 f217:=func224.trans (congrArg some (by kernel_rfl))
 f219:=func201.trans (congrArg some (by kernel_rfl))
 f220:=func151.trans (congrArg some (by kernel_rfl))
 f224:=func228.trans (congrArg some (by kernel_rfl))
 f225:=func227.trans (congrArg some (by kernel_rfl))
 f266:=func240.trans (congrArg some (by kernel_rfl))
 f267:=func229.trans (congrArg some (by kernel_rfl))
 f314:=func243.trans (congrArg some (by kernel_rfl))
 t3:=underlying3
 a3:=Tryz.isAgg3
 z3:=Tryz.sizeOf3
 v3:=Tryz.zeroValue3
 t4:=underlying4
 a4:=Tryz.isAgg4
 z4:=Tryz.sizeOf4
 v4:=Tryz.zeroValue4
 t5:=underlying5
 a5:=Tryz.isAgg5
 z5:=Tryz.sizeOf5
 v5:=Tryz.zeroValue5
 t9:=underlying9
 a9:=Tryz.isAgg9
 z9:=Tryz.sizeOf9
 v9:=Tryz.zeroValue9
 t46:=underlying140
 a46:=Tryz.isAgg140
 z46:=Tryz.sizeOf140
 v46:=Tryz.zeroValue140
 t51:=underlying178
 a51:=Tryz.isAgg178
 z51:=Tryz.sizeOf178
 v51:=Tryz.zeroValue178
 t59:=underlying152
 a59:=Tryz.isAgg152
 z59:=Tryz.sizeOf152
 v59:=Tryz.zeroValue152
 t146:=underlying179
 a146:=Tryz.isAgg179
 z146:=Tryz.sizeOf179
 v146:=Tryz.zeroValue179
 g1:=by kernel_rfl }
def Tryz.lays144_ren:Go.Shelf.Ren:=⟨fun|144=>105|143=>152|219=>201|217=>224|225=>227|224=>228|267=>229|266=>240|314=>243|n=>n,fun|9=>9|4=>4|3=>3|5=>5|46=>140|146=>179|51=>178|n=>n,fun|1=>0|n=>n⟩
theorem Tryz.lays144:Go.Proofs.Lays.n144 prog Tryz.lays144_ren:={
 mixed:=by kernel_rfl
 f143:=func152.trans (congrArg some (by kernel_rfl))
 f144:=func105.trans (congrArg some (by kernel_rfl))
 f217:=func224.trans (congrArg some (by kernel_rfl))
 f219:=func201.trans (congrArg some (by kernel_rfl))
 f224:=func228.trans (congrArg some (by kernel_rfl))
 f225:=func227.trans (congrArg some (by kernel_rfl))
 f266:=func240.trans (congrArg some (by kernel_rfl))
 f267:=func229.trans (congrArg some (by kernel_rfl))
 f314:=func243.trans (congrArg some (by kernel_rfl))
 t3:=underlying3
 a3:=Tryz.isAgg3
 z3:=Tryz.sizeOf3
 v3:=Tryz.zeroValue3
 t4:=underlying4
 a4:=Tryz.isAgg4
 z4:=Tryz.sizeOf4
 v4:=Tryz.zeroValue4
 t5:=underlying5
 a5:=Tryz.isAgg5
 z5:=Tryz.sizeOf5
 v5:=Tryz.zeroValue5
 t9:=underlying9
 a9:=Tryz.isAgg9
 z9:=Tryz.sizeOf9
 v9:=Tryz.zeroValue9
 t46:=underlying140
 a46:=Tryz.isAgg140
 z46:=Tryz.sizeOf140
 v46:=Tryz.zeroValue140
 t51:=underlying178
 a51:=Tryz.isAgg178
 z51:=Tryz.sizeOf178
 v51:=Tryz.zeroValue178
 t146:=underlying179
 a146:=Tryz.isAgg179
 z146:=Tryz.sizeOf179
 v146:=Tryz.zeroValue179
 g1:=by kernel_rfl }
def Tryz.lays137_ren:Go.Shelf.Ren:=⟨fun|137=>195|217=>224|266=>240|n=>n,fun|9=>9|5=>5|3=>3|n=>n,fun|n=>n⟩
theorem Tryz.lays137:Go.Proofs.Lays.n137 prog Tryz.lays137_ren:={
 mixed:=by kernel_rfl
 f137:=func195.trans (congrArg some (by kernel_rfl))
 f217:=func224.trans (congrArg some (by kernel_rfl))
 f266:=func240.trans (congrArg some (by kernel_rfl))
 t3:=underlying3
 a3:=Tryz.isAgg3
 z3:=Tryz.sizeOf3
 v3:=Tryz.zeroValue3
 t5:=underlying5
 a5:=Tryz.isAgg5
 z5:=Tryz.sizeOf5
 v5:=Tryz.zeroValue5
 t9:=underlying9
 a9:=Tryz.isAgg9
 z9:=Tryz.sizeOf9
 v9:=Tryz.zeroValue9 }
def Tryz.lays169_ren:Go.Shelf.Ren:=⟨fun|169=>94|n=>n,fun|70=>143|9=>9|0=>0|72=>146|37=>144|127=>184|3=>3|5=>5|n=>n,fun|n=>n⟩
theorem Tryz.lays169:Go.Proofs.Lays.n169 prog Tryz.lays169_ren:={
 mixed:=by kernel_rfl
 f169:=func94.trans (congrArg some (by kernel_rfl))
 t0:=underlying0
 a0:=Tryz.isAgg0
 z0:=Tryz.sizeOf0
 v0:=Tryz.zeroValue0
 t3:=underlying3
 a3:=Tryz.isAgg3
 z3:=Tryz.sizeOf3
 v3:=Tryz.zeroValue3
 t9:=underlying9
 a9:=Tryz.isAgg9
 z9:=Tryz.sizeOf9
 v9:=Tryz.zeroValue9
 t37:=underlying144
 a37:=Tryz.isAgg144
 z37:=Tryz.sizeOf144
 v37:=Tryz.zeroValue144
 t70:=underlying143
 a70:=Tryz.isAgg143
 z70:=Tryz.sizeOf143
 v70:=Tryz.zeroValue143
 t72:=underlying146
 a72:=Tryz.isAgg146
 z72:=Tryz.sizeOf146
 v72:=Tryz.zeroValue146
 t127:=underlying184
 a127:=Tryz.isAgg184
 z127:=Tryz.sizeOf184
 v127:=Tryz.zeroValue184 }
def Tryz.lays106_ren:Go.Shelf.Ren:=⟨fun|106=>81|213=>138|265=>190|n=>n,fun|9=>9|3=>3|n=>n,fun|n=>n⟩
theorem Tryz.lays106:Go.Proofs.Lays.n106 prog Tryz.lays106_ren:={
 mixed:=by kernel_rfl
 f106:=func81.trans (congrArg some (by kernel_rfl))
 f213:=func138.trans (congrArg some (by kernel_rfl))
 f265:=func190.trans (congrArg some (by kernel_rfl))
 t3:=underlying3
 a3:=Tryz.isAgg3
 z3:=Tryz.sizeOf3
 v3:=Tryz.zeroValue3
 t9:=underlying9
 a9:=Tryz.isAgg9
 z9:=Tryz.sizeOf9
 v9:=Tryz.zeroValue9 }
def Tryz.lays172_ren:Go.Shelf.Ren:=⟨fun|172=>65|244=>130|245=>131|247=>182|279=>183|280=>184|281=>185|282=>186|287=>216|316=>217|171=>22|205=>218|321=>237|322=>238|243=>62|246=>128|283=>174|284=>175|285=>176|286=>177|129=>173|317=>209|318=>210|319=>211|320=>212|337=>234|338=>235|n=>n,fun|9=>9|3=>3|75=>116|76=>117|4=>4|5=>5|167=>215|37=>144|0=>0|85=>216|2=>2|168=>218|53=>181|175=>242|46=>140|210=>246|127=>184|145=>256|143=>254|21=>21|171=>204|173=>206|212=>237|51=>178|20=>20|213=>238|232=>259|233=>260|80=>149|n=>n,fun|15=>2|16=>3|17=>1|18=>4|19=>5|n=>n⟩
theorem Tryz.lays172:Go.Proofs.Lays.n172 prog Tryz.lays172_ren:={
 mixed:=by kernel_rfl
 f129:=func173.trans (congrArg some (by kernel_rfl))
 f171:=func22.trans (congrArg some (by kernel_rfl))
 f172:=func65.trans (congrArg some (by kernel_rfl))
 f205:=func218.trans (congrArg some (by kernel_rfl))
 f243:=func62.trans (congrArg some (by kernel_rfl))
 f244:=func130.trans (congrArg some (by kernel_rfl))
 f245:=func131.trans (congrArg some (by kernel_rfl))
 f246:=func128.trans (congrArg some (by kernel_rfl))
 f247:=func182.trans (congrArg some (by kernel_rfl))
 f279:=func183.trans (congrArg some (by kernel_rfl))
 f280:=func184.trans (congrArg some (by kernel_rfl))
 f281:=func185.trans (congrArg some (by kernel_rfl))
 f282:=func186.trans (congrArg some (by kernel_rfl))
 f283:=func174.trans (congrArg some (by kernel_rfl))
 f284:=func175.trans (congrArg some (by kernel_rfl))
 f285:=func176.trans (congrArg some (by kernel_rfl))
 f286:=func177.trans (congrArg some (by kernel_rfl))
 f287:=func216.trans (congrArg some (by kernel_rfl))
 f316:=func217.trans (congrArg some (by kernel_rfl))
 f317:=func209.trans (congrArg some (by kernel_rfl))
 f318:=func210.trans (congrArg some (by kernel_rfl))
 f319:=func211.trans (congrArg some (by kernel_rfl))
 f320:=func212.trans (congrArg some (by kernel_rfl))
 f321:=func237.trans (congrArg some (by kernel_rfl))
 f322:=func238.trans (congrArg some (by kernel_rfl))
 f337:=func234.trans (congrArg some (by kernel_rfl))
 f338:=func235.trans (congrArg some (by kernel_rfl))
 t0:=underlying0
 a0:=Tryz.isAgg0
 z0:=Tryz.sizeOf0
 v0:=Tryz.zeroValue0
 t2:=underlying2
 a2:=Tryz.isAgg2
 z2:=Tryz.sizeOf2
 v2:=Tryz.zeroValue2
 t3:=underlying3
 a3:=Tryz.isAgg3
 z3:=Tryz.sizeOf3
 v3:=Tryz.zeroValue3
 t4:=underlying4
 a4:=Tryz.isAgg4
 z4:=Tryz.sizeOf4
 v4:=Tryz.zeroValue4
 t5:=underlying5
 a5:=Tryz.isAgg5
 z5:=Tryz.sizeOf5
 v5:=Tryz.zeroValue5
 t9:=underlying9
 a9:=Tryz.isAgg9
 z9:=Tryz.sizeOf9
 v9:=Tryz.zeroValue9
 t20:=underlying20
 a20:=Tryz.isAgg20
 z20:=Tryz.sizeOf20
 v20:=Tryz.zeroValue20
 t21:=underlying21
 a21:=Tryz.isAgg21
 z21:=Tryz.sizeOf21
 v21:=Tryz.zeroValue21
 t37:=underlying144
 a37:=Tryz.isAgg144
 z37:=Tryz.sizeOf144
 v37:=Tryz.zeroValue144
 t46:=underlying140
 a46:=Tryz.isAgg140
 z46:=Tryz.sizeOf140
 v46:=Tryz.zeroValue140
 t51:=underlying178
 a51:=Tryz.isAgg178
 z51:=Tryz.sizeOf178
 v51:=Tryz.zeroValue178
 t53:=underlying181
 a53:=Tryz.isAgg181
 z53:=Tryz.sizeOf181
 v53:=Tryz.zeroValue181
 t75:=underlying116
 a75:=Tryz.isAgg116
 z75:=Tryz.sizeOf116
 v75:=Tryz.zeroValue116
 t76:=underlying117
 a76:=Tryz.isAgg117
 z76:=Tryz.sizeOf117
 v76:=Tryz.zeroValue117
 t85:=underlying216
 a85:=Tryz.isAgg216
 z85:=Tryz.sizeOf216
 v85:=Tryz.zeroValue216
 t127:=underlying184
 a127:=Tryz.isAgg184
 z127:=Tryz.sizeOf184
 v127:=Tryz.zeroValue184
 t143:=underlying254
 a143:=Tryz.isAgg254
 z143:=Tryz.sizeOf254
 v143:=Tryz.zeroValue254
 t145:=underlying256
 a145:=Tryz.isAgg256
 z145:=Tryz.sizeOf256
 v145:=Tryz.zeroValue256
 t167:=underlying215
 a167:=Tryz.isAgg215
 z167:=Tryz.sizeOf215
 v167:=Tryz.zeroValue215
 t168:=underlying218
 a168:=Tryz.isAgg218
 z168:=Tryz.sizeOf218
 v168:=Tryz.zeroValue218
 t171:=underlying204
 a171:=Tryz.isAgg204
 z171:=Tryz.sizeOf204
 v171:=Tryz.zeroValue204
 t173:=underlying206
 a173:=Tryz.isAgg206
 z173:=Tryz.sizeOf206
 v173:=Tryz.zeroValue206
 t175:=underlying242
 a175:=Tryz.isAgg242
 z175:=Tryz.sizeOf242
 v175:=Tryz.zeroValue242
 t210:=underlying246
 a210:=Tryz.isAgg246
 z210:=Tryz.sizeOf246
 v210:=Tryz.zeroValue246
 t212:=underlying237
 a212:=Tryz.isAgg237
 z212:=Tryz.sizeOf237
 v212:=Tryz.zeroValue237
 t213:=underlying238
 a213:=Tryz.isAgg238
 z213:=Tryz.sizeOf238
 t232:=underlying259
 a232:=Tryz.isAgg259
 z232:=Tryz.sizeOf259
 v232:=Tryz.zeroValue259
 t233:=underlying260
 a233:=Tryz.isAgg260
 z233:=Tryz.sizeOf260
 v233:=Tryz.zeroValue260
 g15:=by kernel_rfl
 g16:=by kernel_rfl
 g17:=by kernel_rfl
 g18:=by kernel_rfl
 g19:=by kernel_rfl }
def Tryz.laysM171_ren:Go.Shelf.Ren:=⟨fun|171=>22|243=>62|246=>128|283=>174|284=>175|285=>176|286=>177|129=>173|317=>209|318=>210|319=>211|320=>212|337=>234|338=>235|n=>n,fun|3=>3|9=>9|2=>2|4=>4|171=>204|0=>0|53=>181|37=>144|5=>5|173=>206|212=>237|51=>178|20=>20|213=>238|46=>140|232=>259|233=>260|n=>n,fun|17=>1|18=>4|19=>5|n=>n⟩
theorem Tryz.laysM171:Go.Proofs.LaysM.n171 prog Tryz.laysM171_ren:={
 mixed:=by kernel_rfl
 f129:=func173.trans (congrArg some (by kernel_rfl))
 f171:=func22.trans (congrArg some (by kernel_rfl))
 f243:=func62.trans (congrArg some (by kernel_rfl))
 f246:=func128.trans (congrArg some (by kernel_rfl))
 f283:=func174.trans (congrArg some (by kernel_rfl))
 f284:=func175.trans (congrArg some (by kernel_rfl))
 f285:=func176.trans (congrArg some (by kernel_rfl))
 f286:=func177.trans (congrArg some (by kernel_rfl))
 f317:=func209.trans (congrArg some (by kernel_rfl))
 f318:=func210.trans (congrArg some (by kernel_rfl))
 f319:=func211.trans (congrArg some (by kernel_rfl))
 f320:=func212.trans (congrArg some (by kernel_rfl))
 f337:=func234.trans (congrArg some (by kernel_rfl))
 f338:=func235.trans (congrArg some (by kernel_rfl))
 t0:=underlying0
 a0:=Tryz.isAgg0
 z0:=Tryz.sizeOf0
 v0:=Tryz.zeroValue0
 t2:=underlying2
 a2:=Tryz.isAgg2
 z2:=Tryz.sizeOf2
 v2:=Tryz.zeroValue2
 t3:=underlying3
 a3:=Tryz.isAgg3
 z3:=Tryz.sizeOf3
 v3:=Tryz.zeroValue3
 t4:=underlying4
 a4:=Tryz.isAgg4
 z4:=Tryz.sizeOf4
 v4:=Tryz.zeroValue4
 t5:=underlying5
 a5:=Tryz.isAgg5
 z5:=Tryz.sizeOf5
 v5:=Tryz.zeroValue5
 t9:=underlying9
 a9:=Tryz.isAgg9
 z9:=Tryz.sizeOf9
 v9:=Tryz.zeroValue9
 t20:=underlying20
 a20:=Tryz.isAgg20
 z20:=Tryz.sizeOf20
 v20:=Tryz.zeroValue20
 t37:=underlying144
 a37:=Tryz.isAgg144
 z37:=Tryz.sizeOf144
 v37:=Tryz.zeroValue144
 t46:=underlying140
 a46:=Tryz.isAgg140
 z46:=Tryz.sizeOf140
 v46:=Tryz.zeroValue140
 t51:=underlying178
 a51:=Tryz.isAgg178
 z51:=Tryz.sizeOf178
 v51:=Tryz.zeroValue178
 t53:=underlying181
 a53:=Tryz.isAgg181
 z53:=Tryz.sizeOf181
 v53:=Tryz.zeroValue181
 t171:=underlying204
 a171:=Tryz.isAgg204
 z171:=Tryz.sizeOf204
 v171:=Tryz.zeroValue204
 t173:=underlying206
 a173:=Tryz.isAgg206
 z173:=Tryz.sizeOf206
 v173:=Tryz.zeroValue206
 t212:=underlying237
 a212:=Tryz.isAgg237
 z212:=Tryz.sizeOf237
 v212:=Tryz.zeroValue237
 t213:=underlying238
 a213:=Tryz.isAgg238
 z213:=Tryz.sizeOf238
 t232:=underlying259
 a232:=Tryz.isAgg259
 z232:=Tryz.sizeOf259
 v232:=Tryz.zeroValue259
 t233:=underlying260
 a233:=Tryz.isAgg260
 z233:=Tryz.sizeOf260
 v233:=Tryz.zeroValue260
 g17:=by kernel_rfl
 g18:=by kernel_rfl
 g19:=by kernel_rfl
 i0:=by kernel_rfl
 i2:=by kernel_rfl
 i3:=by kernel_rfl
 i4:=by kernel_rfl
 i5:=by kernel_rfl
 i9:=by kernel_rfl
 i20:=by kernel_rfl
 i37:=by kernel_rfl
 i46:=by kernel_rfl
 i51:=by kernel_rfl
 i53:=by kernel_rfl
 i171:=by kernel_rfl
 i173:=by kernel_rfl
 i212:=by kernel_rfl
 i232:=by kernel_rfl
 i233:=by kernel_rfl
 m17:=by kernel_rfl
 m18:=by kernel_rfl
 m19:=by kernel_rfl }
def Tryz.lays105_ren:Go.Shelf.Ren:=⟨fun|105=>37|212=>90|99=>38|165=>91|166=>92|170=>93|169=>94|263=>145|264=>146|206=>95|240=>147|241=>148|276=>198|277=>199|n=>n,fun|9=>9|3=>3|4=>4|20=>20|0=>0|46=>140|109=>141|5=>5|72=>146|76=>117|51=>178|146=>179|53=>181|148=>182|70=>143|37=>144|75=>116|127=>184|164=>226|80=>149|n=>n,fun|n=>n⟩
theorem Tryz.lays105:Go.Proofs.Lays.n105 prog Tryz.lays105_ren:={
 mixed:=by kernel_rfl
 f99:=func38.trans (congrArg some (by kernel_rfl))
 f105:=func37.trans (congrArg some (by kernel_rfl))
 f165:=func91.trans (congrArg some (by kernel_rfl))
 f166:=func92.trans (congrArg some (by kernel_rfl))
 f169:=func94.trans (congrArg some (by kernel_rfl))
 f170:=func93.trans (congrArg some (by kernel_rfl))
 f206:=func95.trans (congrArg some (by kernel_rfl))
 f212:=func90.trans (congrArg some (by kernel_rfl))
 f240:=func147.trans (congrArg some (by kernel_rfl))
 f241:=func148.trans (congrArg some (by kernel_rfl))
 f263:=func145.trans (congrArg some (by kernel_rfl))
 f264:=func146.trans (congrArg some (by kernel_rfl))
 f276:=func198.trans (congrArg some (by kernel_rfl))
 f277:=func199.trans (congrArg some (by kernel_rfl))
 t0:=underlying0
 a0:=Tryz.isAgg0
 z0:=Tryz.sizeOf0
 v0:=Tryz.zeroValue0
 t3:=underlying3
 a3:=Tryz.isAgg3
 z3:=Tryz.sizeOf3
 v3:=Tryz.zeroValue3
 t4:=underlying4
 a4:=Tryz.isAgg4
 z4:=Tryz.sizeOf4
 v4:=Tryz.zeroValue4
 t5:=underlying5
 a5:=Tryz.isAgg5
 z5:=Tryz.sizeOf5
 v5:=Tryz.zeroValue5
 t9:=underlying9
 a9:=Tryz.isAgg9
 z9:=Tryz.sizeOf9
 v9:=Tryz.zeroValue9
 t20:=underlying20
 a20:=Tryz.isAgg20
 z20:=Tryz.sizeOf20
 v20:=Tryz.zeroValue20
 t37:=underlying144
 a37:=Tryz.isAgg144
 z37:=Tryz.sizeOf144
 v37:=Tryz.zeroValue144
 t46:=underlying140
 a46:=Tryz.isAgg140
 z46:=Tryz.sizeOf140
 v46:=Tryz.zeroValue140
 t51:=underlying178
 a51:=Tryz.isAgg178
 z51:=Tryz.sizeOf178
 v51:=Tryz.zeroValue178
 t53:=underlying181
 a53:=Tryz.isAgg181
 z53:=Tryz.sizeOf181
 v53:=Tryz.zeroValue181
 t70:=underlying143
 a70:=Tryz.isAgg143
 z70:=Tryz.sizeOf143
 v70:=Tryz.zeroValue143
 t72:=underlying146
 a72:=Tryz.isAgg146
 z72:=Tryz.sizeOf146
 v72:=Tryz.zeroValue146
 t75:=underlying116
 a75:=Tryz.isAgg116
 z75:=Tryz.sizeOf116
 v75:=Tryz.zeroValue116
 t76:=underlying117
 a76:=Tryz.isAgg117
 z76:=Tryz.sizeOf117
 v76:=Tryz.zeroValue117
 t109:=underlying141
 a109:=Tryz.isAgg141
 z109:=Tryz.sizeOf141
 v109:=Tryz.zeroValue141
 t127:=underlying184
 a127:=Tryz.isAgg184
 z127:=Tryz.sizeOf184
 v127:=Tryz.zeroValue184
 t146:=underlying179
 a146:=Tryz.isAgg179
 z146:=Tryz.sizeOf179
 v146:=Tryz.zeroValue179
 t148:=underlying182
 a148:=Tryz.isAgg182
 z148:=Tryz.sizeOf182
 v148:=Tryz.zeroValue182
 t164:=underlying226
 a164:=Tryz.isAgg226
 z164:=Tryz.sizeOf226
 v164:=Tryz.zeroValue226 }
end Go.Proofs
set_option linter.unusedSimpArgs false
set_option linter.unusedVariables false
set_option linter.unusedSectionVars false
namespace Go.Av
open Go Go.RowKit
inductive AV where
 | int (k:IntKind) (n:Int)
 | bool (b:Bool)
 | str (s:List UInt8)
 | fz (esz:Nat) (l:List AV)
 | agg (l:List AV)
 | tup (l:List AV)
 | sl (id off len cap:Nat)
 | ptr (id n i off:Nat)
 | pin (esz:Nat) (l:List AV) (i off:Nat)
 | mp (id:Nat)
 | fn (f:Fn) (cap:List AV)
 | raw (v:Value)
 | any
def cellsOf:AV->List AV
 | .agg l=>l
 | v=>[v]
def flat:List AV->List AV
 | []=>[]
 | x::r=>cellsOf x++flat r
abbrev Mem:=Nat->Nat->Option Value
mutual
inductive RV (h:Mem)(Lf:Value->AV->Prop):Bool->Value->AV->Prop
 | leaf {v a}:Lf v a->RV h Lf false v a
 | int {fl} (k n):RV h Lf fl (.int k n) (.int k n)
 | bool {fl} (b):RV h Lf fl (.bool b) (.bool b)
 | str {fl} (s:List UInt8):RV h Lf fl (.string ⟨s.toArray⟩) (.str s)
 | raw {fl} (v):RV h Lf fl v (.raw v)
 | any {fl} (v):RV h Lf fl v .any
 | fznil {fl} (esz):RV h Lf fl (.slice none 0 0) (.fz esz [])
 | fz {fl} (b o c esz:Nat) (l:List AV) (vs:List Value):RL h Lf true vs (flat l)->(∀ x∈l,(cellsOf x).length=esz) ->
   (∀ k v,vs[k]? = some v->h b (o+k)=some v)->l.length<=c->RV h Lf fl (.slice (some ⟨b,o,none⟩) l.length c) (.fz esz l)
 | pin {fl} (b o esz:Nat) (l:List AV) (vs:List Value) (i off:Nat):RL h Lf true vs (flat l)->(∀ x∈l,(cellsOf x).length=esz) ->
   (∀ k v,vs[k]? = some v->h b (o+k)=some v)->i<l.length->RV h Lf fl (.pointer (some ⟨b,o+(i*esz+off),none⟩)) (.pin esz l i off)
 | agg {fl} (vs:List Value) (l:List AV):RL h Lf fl vs l->RV h Lf fl (.agg vs.toArray) (.agg l)
 | tup {fl} (vs:List Value) (l:List AV):RL h Lf fl vs l->RV h Lf fl (.tuple vs.toArray) (.tup l)
 | fn {fl} (f:Fn) (vs:List Value) (l:List AV):RL h Lf fl vs l->RV h Lf fl (.func f #[] vs.toArray) (.fn f l)
inductive RL (h:Mem)(Lf:Value->AV->Prop):Bool->List Value->List AV->Prop
 | nil {fl}:RL h Lf fl [] []
 | cons {fl v a vs l}:RV h Lf fl v a->RL h Lf fl vs l->RL h Lf fl (v::vs) (a::l)
end
section
variable {h h':Mem}{Lf Lf':Value->AV->Prop}
theorem RV.mono(hh:∀ b o v,h b o=some v->h' b o=some v)(hl:∀ v a,Lf v a->Lf' v a) {fl v a}(r:RV h Lf fl v a):RV h' Lf' fl v a:=by
 induction r using RV.rec (motive_2:=fun fl vs l _=>RL h' Lf' fl vs l)with
 | leaf p=>exact .leaf (hl _ _ p)
 | int k n=>exact .int k n
 | bool b=>exact .bool b
 | str s=>exact .str s
 | raw v=>exact .raw v
 | any v=>exact .any v
 | fznil e=>exact .fznil e
 | fz b o c esz l vs _ h1 h2 h3 ih=>exact .fz b o c esz l vs ih h1 (fun k v hk=>hh _ _ _ (h2 k v hk)) h3
 | pin b o esz l vs i off _ h1 h2 h3 ih=>exact .pin b o esz l vs i off ih h1 (fun k v hk=>hh _ _ _ (h2 k v hk)) h3
 | agg vs l _ ih=>exact .agg vs l ih
 | tup vs l _ ih=>exact .tup vs l ih
 | fn f vs l _ ih=>exact .fn f vs l ih
 | nil=>exact .nil
 | cons _ _ ih1 ih2=>exact .cons ih1 ih2
theorem RL.mono(hh:∀ b o v,h b o=some v->h' b o=some v)(hl:∀ v a,Lf v a->Lf' v a) {fl vs l}(r:RL h Lf fl vs l):RL h' Lf' fl vs l:=by
 induction l generalizing vs with
 | nil=>cases r; exact .nil
 | cons a l ih=>cases r with|cons h1 h2=>exact .cons (h1.mono hh hl) (ih h2)
theorem RV.thaw(hh:∀ b o v,h b o=some v->h' b o=some v) {fl v a}(r:RV h Lf true v a):RV h' Lf' fl v a:=by
 suffices H:∀ {f v a} (_:RV h Lf f v a),f=true->∀ fl,RV h' Lf' fl v a from H r rfl fl
 intro f v a r
 induction r using RV.rec (motive_2:=fun f vs l _=>f=true->∀ fl,RL h' Lf' fl vs l)with
 | leaf p=>intro e; cases e
 | int k n=>intro _ fl; exact .int k n
 | bool b=>intro _ fl; exact .bool b
 | str s=>intro _ fl; exact .str s
 | raw v=>intro _ fl; exact .raw v
 | any v=>intro _ fl; exact .any v
 | fznil e=>intro _ fl; exact .fznil e
 | fz b o c esz l vs _ h1 h2 h3 ih=>intro _ fl; exact .fz b o c esz l vs (ih rfl true) h1 (fun k v hk=>hh _ _ _ (h2 k v hk)) h3
 | pin b o esz l vs i off _ h1 h2 h3 ih=>intro _ fl; exact .pin b o esz l vs i off (ih rfl true) h1 (fun k v hk=>hh _ _ _ (h2 k v hk)) h3
 | agg vs l _ ih=>intro e fl; exact .agg vs l (ih e fl)
 | tup vs l _ ih=>intro e fl; exact .tup vs l (ih e fl)
 | fn f vs l _ ih=>intro e fl; exact .fn f vs l (ih e fl)
 | nil=>exact .nil
 | cons _ _ ih1 ih2=>exact .cons (ih1 (by assumption) _) (ih2 (by assumption) _)
theorem RL.thaw(hh:∀ b o v,h b o=some v->h' b o=some v) {fl vs l}(r:RL h Lf true vs l):RL h' Lf' fl vs l:=by
 induction l generalizing vs with
 | nil=>cases r; exact .nil
 | cons a l ih=>cases r with|cons h1 h2=>exact .cons (h1.thaw hh) (ih h2)
theorem RL.length{fl vs l}(r:RL h Lf fl vs l):vs.length=l.length:=by
 induction l generalizing vs with
 | nil=>cases r; rfl
 | cons a l ih=>cases r with|cons h1 h2=>simp[ih h2]
theorem RL.get{fl vs l}(r:RL h Lf fl vs l){k:Nat}{a:AV}(hk:l[k]? = some a):∃ v,vs[k]? = some v/\RV h Lf fl v a:=by
 induction l generalizing vs k with
 | nil=>simp at hk
 | cons b l ih =>
  cases r with
  | cons h1 h2 =>
   cases k with
   | zero=>simp at hk; subst hk; exact⟨_,rfl,h1⟩
   | succ k=>simpa using ih h2 (by simpa using hk)
theorem RL.getD{fl vs l}(r:RL h Lf fl vs l)(k:Nat)(v0:Value):RV h Lf fl (vs.getD k v0) (l.getD k .any):=by
 cases hk:l[k]? with
 | none=>simp[List.getD,hk]; exact .any _
 | some a =>
  obtain⟨v,h1,h2⟩:=r.get hk
  simpa[List.getD,hk,h1]using h2
theorem RL.append{fl vs l vs' l'}(r:RL h Lf fl vs l)(r':RL h Lf fl vs' l'):RL h Lf fl (vs++vs') (l++l'):=by
 induction l generalizing vs with
 | nil=>cases r; exact r'
 | cons a l ih=>cases r with|cons h1 h2=>exact .cons h1 (ih h2)
theorem RL.take{fl vs l}(r:RL h Lf fl vs l)(n:Nat):RL h Lf fl (vs.take n) (l.take n):=by
 induction l generalizing vs n with
 | nil=>cases r; simp; exact .nil
 | cons a l ih =>
  cases r with
  | cons h1 h2 =>
   cases n with
   | zero=>simp; exact .nil
   | succ n=>simp; exact .cons h1 (ih h2 n)
theorem RL.drop{fl vs l}(r:RL h Lf fl vs l)(n:Nat):RL h Lf fl (vs.drop n) (l.drop n):=by
 induction l generalizing vs n with
 | nil=>cases r; simp; exact .nil
 | cons a l ih =>
  cases r with
  | cons h1 h2 =>
   cases n with
   | zero=>simp; exact .cons h1 h2
   | succ n=>simp; exact ih h2 n
theorem RL.set{fl vs l}(r:RL h Lf fl vs l)(k:Nat){v:Value}{a:AV}(rv:RV h Lf fl v a):RL h Lf fl (vs.set k v) (l.set k a):=by
 induction l generalizing vs k with
 | nil=>cases r; simp; exact .nil
 | cons b l ih =>
  cases r with
  | cons h1 h2 =>
   cases k with
   | zero=>simp; exact .cons rv h2
   | succ k=>simp; exact .cons h1 (ih h2 k)
theorem RL.of_get{fl:Bool}:∀ {vs:List Value}{l:List AV},vs.length=l.length->(∀ (k:Nat)(v:Value)(a:AV),vs[k]? = some v->l[k]? = some a->RV h Lf fl v a)->RL h Lf fl vs l
 | [],[],_,_=>.nil
 | [],_::_,e,_=>by simp at e
 | _::_,[],e,_=>by simp at e
 | v::vs,a::l,e,H=>.cons (H 0 v a rfl rfl) (RL.of_get (by simpa using e) fun k v a h1 h2=>H (k+1) v a (by simpa using h1) (by simpa using h2))
end
theorem flat_append(l m:List AV):flat (l++m)=flat l++flat m:=by
 induction l with
 | nil=>rfl
 | cons x l ih=>simp[flat,ih]
theorem AaL{l:List AV}{esz:Nat}(h:∀ x∈l,(cellsOf x).length=esz):(flat l).length=l.length*esz:=by
 induction l with
 | nil=>simp[flat]
 | cons x l ih =>
  simp only[flat,List.length_append,List.length_cons,Nat.succ_mul];rw[h x (by simp),ih (fun y hy=>h y (by simp[hy]))];omega
theorem AbC{esz:Nat}:∀ {l:List AV}(_:∀ x∈l,(cellsOf x).length=esz)(i:Nat),(flat l).drop (i*esz)=flat (l.drop i)
 | [],_,i=>by simp[flat]
 | x::l,h,0=>by simp
 | x::l,h,i+1=>by
  have hx:=h x (by simp);rw[Nat.succ_mul,Nat.add_comm,<- List.drop_drop];simp only[flat,List.drop_succ_cons];rw[List.drop_append,hx]
  simp[<- hx]
  rw[hx];exact AbC (fun y hy=>h y (by simp[hy])) i
theorem AbX{esz:Nat}:∀ {l:List AV}(_:∀ x∈l,(cellsOf x).length=esz)(i:Nat),(flat l).take (i*esz)=flat (l.take i)
 | [],_,i=>by simp[flat]
 | x::l,h,0=>by simp[flat]
 | x::l,h,i+1=>by
  have hx:=h x (by simp);rw[Nat.succ_mul,Nat.add_comm];simp only[flat,List.take_succ_cons];rw[<- hx,List.take_length_add_append,hx,AbX (fun y hy=>h y (by simp[hy])) i]
theorem BgR{l:List AV}{esz:Nat}(h:∀ x∈l,(cellsOf x).length=esz){i j:Nat}{x:AV}(hi:l[i]? = some x)(hj:j<esz):(flat l)[i*esz+j]? = (cellsOf x)[j]?:=by
 have h1:=AbC h i;have:l.drop i=x::l.drop (i+1):=by
  rw[List.drop_eq_getElem?_toList_append,hi]; rfl
 rw[this]at h1;simp only[flat]at h1;have hx:=h x (List.mem_of_getElem? hi);rw[<- List.getElem?_drop,h1,List.getElem?_append_left (by omega)]
theorem aj{a b:Prop}(k:b)(h:a:=by first|omega|rfl|(simp; done)|(simp; omega)):a/\b:=⟨h,k⟩
theorem ak{a b:Prop}(k:b)(h:a:=by first|omega|rfl|kernel_rfl|(simp; done)|(simp; omega)):a/\b:=⟨h,k⟩
theorem al{a b:Prop}(k:b)(h:a:=by first|omega|exact .inl trivial|(simp; done)|(simp; omega)):a/\b:=⟨h,k⟩
theorem ao{a b:Prop}(k:b)(h:a:=by omega):a/\b:=⟨h,k⟩
theorem aqa{a b:Prop}(k:b)(h:a:=by first|omega|exact .inl trivial|rfl|(simp; done)|(simp; omega)):a/\b:=⟨h,k⟩
theorem aqb{a b:Prop}(k:b)(h:a:=by first|omega|(simp; omega)):a/\b:=⟨h,k⟩
theorem aqc{a b:Prop}(k:b)(h:a:=by first|omega|exact .inl trivial|rfl|(simp; done)):a/\b:=⟨h,k⟩
theorem aqd{a b:Prop}(k:b)(h:a:=by first|omega|rfl|(simp; omega)):a/\b:=⟨h,k⟩
theorem aqe{a b:Prop}(k:b)(h:a:=by first|omega|rfl):a/\b:=⟨h,k⟩
theorem ic(i:Nat):(i:Int)+1=((i+1:Nat):Int):=by omega
