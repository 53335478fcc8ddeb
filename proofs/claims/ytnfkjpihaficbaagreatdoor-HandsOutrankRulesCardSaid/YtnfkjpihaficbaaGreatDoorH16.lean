/- Closed facts of this seat's program, written by a program of this seat: which functions have a body; cells, bytes and zero values of types. -/
import Derived.Test.YtnfkjpihaficbaaGreatDoorH15
set_option maxRecDepth 100000
set_option linter.unusedVariables false
namespace Go.Proofs.YtnfkjpihaficbaaGreatDoor
open Go Go.Av Go.RowKit
theorem mixed:Tryz.prog.follows .mixedOrders=true:=by kernel_rfl
theorem hB2:hasBody Tryz.prog 2=true:=by kernel_rfl
theorem hB3:hasBody Tryz.prog 3=true:=by kernel_rfl
theorem hB4:hasBody Tryz.prog 4=true:=by kernel_rfl
theorem hB8:hasBody Tryz.prog 8=true:=by kernel_rfl
theorem hB9:hasBody Tryz.prog 9=true:=by kernel_rfl
theorem hB10:hasBody Tryz.prog 10=true:=by kernel_rfl
theorem hB11:hasBody Tryz.prog 11=true:=by kernel_rfl
theorem hB12:hasBody Tryz.prog 12=true:=by kernel_rfl
theorem hB13:hasBody Tryz.prog 13=true:=by kernel_rfl
theorem hB14:hasBody Tryz.prog 14=true:=by kernel_rfl
theorem hB15:hasBody Tryz.prog 15=true:=by kernel_rfl
theorem hB16:hasBody Tryz.prog 16=true:=by kernel_rfl
theorem hB17:hasBody Tryz.prog 17=true:=by kernel_rfl
theorem hB18:hasBody Tryz.prog 18=true:=by kernel_rfl
theorem hB23:hasBody Tryz.prog 23=true:=by kernel_rfl
theorem hB27:hasBody Tryz.prog 27=true:=by kernel_rfl
theorem hB40:hasBody Tryz.prog 40=true:=by kernel_rfl
theorem hB41:hasBody Tryz.prog 41=true:=by kernel_rfl
theorem hB42:hasBody Tryz.prog 42=true:=by kernel_rfl
theorem hB43:hasBody Tryz.prog 43=true:=by kernel_rfl
theorem hB44:hasBody Tryz.prog 44=true:=by kernel_rfl
theorem hB45:hasBody Tryz.prog 45=true:=by kernel_rfl
theorem hB46:hasBody Tryz.prog 46=true:=by kernel_rfl
theorem hB47:hasBody Tryz.prog 47=true:=by kernel_rfl
theorem hB48:hasBody Tryz.prog 48=true:=by kernel_rfl
theorem hB49:hasBody Tryz.prog 49=true:=by kernel_rfl
theorem hB50:hasBody Tryz.prog 50=true:=by kernel_rfl
theorem hB51:hasBody Tryz.prog 51=true:=by kernel_rfl
theorem hB52:hasBody Tryz.prog 52=true:=by kernel_rfl
theorem hB53:hasBody Tryz.prog 53=true:=by kernel_rfl
theorem hB54:hasBody Tryz.prog 54=true:=by kernel_rfl
theorem hB55:hasBody Tryz.prog 55=true:=by kernel_rfl
theorem hB56:hasBody Tryz.prog 56=true:=by kernel_rfl
theorem hB57:hasBody Tryz.prog 57=true:=by kernel_rfl
theorem hB58:hasBody Tryz.prog 58=true:=by kernel_rfl
theorem hB59:hasBody Tryz.prog 59=true:=by kernel_rfl
theorem hB68:hasBody Tryz.prog 68=true:=by kernel_rfl
theorem hB71:hasBody Tryz.prog 71=true:=by kernel_rfl
theorem hB72:hasBody Tryz.prog 72=true:=by kernel_rfl
theorem hB73:hasBody Tryz.prog 73=true:=by kernel_rfl
theorem hB75:hasBody Tryz.prog 75=true:=by kernel_rfl
theorem hB77:hasBody Tryz.prog 77=true:=by kernel_rfl
theorem hB78:hasBody Tryz.prog 78=true:=by kernel_rfl
theorem hB90:hasBody Tryz.prog 90=true:=by kernel_rfl
theorem hB91:hasBody Tryz.prog 91=true:=by kernel_rfl
theorem hB92:hasBody Tryz.prog 92=true:=by kernel_rfl
theorem hB93:hasBody Tryz.prog 93=true:=by kernel_rfl
theorem hB94:hasBody Tryz.prog 94=true:=by kernel_rfl
theorem hB96:hasBody Tryz.prog 96=true:=by kernel_rfl
theorem hB97:hasBody Tryz.prog 97=true:=by kernel_rfl
theorem hB98:hasBody Tryz.prog 98=true:=by kernel_rfl
theorem hB99:hasBody Tryz.prog 99=true:=by kernel_rfl
theorem hB100:hasBody Tryz.prog 100=true:=by kernel_rfl
theorem hB101:hasBody Tryz.prog 101=true:=by kernel_rfl
theorem hB102:hasBody Tryz.prog 102=true:=by kernel_rfl
theorem hB103:hasBody Tryz.prog 103=true:=by kernel_rfl
theorem hB104:hasBody Tryz.prog 104=true:=by kernel_rfl
theorem hB105:hasBody Tryz.prog 105=true:=by kernel_rfl
theorem hB106:hasBody Tryz.prog 106=true:=by kernel_rfl
theorem hB107:hasBody Tryz.prog 107=true:=by kernel_rfl
theorem hB108:hasBody Tryz.prog 108=true:=by kernel_rfl
theorem hB109:hasBody Tryz.prog 109=true:=by kernel_rfl
theorem hB110:hasBody Tryz.prog 110=true:=by kernel_rfl
theorem hB111:hasBody Tryz.prog 111=true:=by kernel_rfl
theorem hB112:hasBody Tryz.prog 112=true:=by kernel_rfl
theorem hB113:hasBody Tryz.prog 113=true:=by kernel_rfl
theorem hB125:hasBody Tryz.prog 125=true:=by kernel_rfl
theorem hB131:hasBody Tryz.prog 131=true:=by kernel_rfl
theorem hB132:hasBody Tryz.prog 132=true:=by kernel_rfl
theorem hB133:hasBody Tryz.prog 133=true:=by kernel_rfl
theorem hB141:hasBody Tryz.prog 141=true:=by kernel_rfl
theorem hB142:hasBody Tryz.prog 142=true:=by kernel_rfl
theorem hB143:hasBody Tryz.prog 143=true:=by kernel_rfl
theorem hB146:hasBody Tryz.prog 146=true:=by kernel_rfl
theorem hB148:hasBody Tryz.prog 148=true:=by kernel_rfl
theorem hB149:hasBody Tryz.prog 149=true:=by kernel_rfl
theorem hB150:hasBody Tryz.prog 150=true:=by kernel_rfl
theorem hB151:hasBody Tryz.prog 151=true:=by kernel_rfl
theorem hB152:hasBody Tryz.prog 152=true:=by kernel_rfl
theorem hB153:hasBody Tryz.prog 153=true:=by kernel_rfl
theorem hB154:hasBody Tryz.prog 154=true:=by kernel_rfl
theorem hB155:hasBody Tryz.prog 155=true:=by kernel_rfl
theorem hB156:hasBody Tryz.prog 156=true:=by kernel_rfl
theorem hB157:hasBody Tryz.prog 157=true:=by kernel_rfl
theorem hB158:hasBody Tryz.prog 158=true:=by kernel_rfl
theorem hB159:hasBody Tryz.prog 159=true:=by kernel_rfl
theorem hB160:hasBody Tryz.prog 160=true:=by kernel_rfl
theorem hB161:hasBody Tryz.prog 161=true:=by kernel_rfl
theorem hB186:hasBody Tryz.prog 186=true:=by kernel_rfl
theorem hB187:hasBody Tryz.prog 187=true:=by kernel_rfl
theorem hB188:hasBody Tryz.prog 188=true:=by kernel_rfl
theorem hB189:hasBody Tryz.prog 189=true:=by kernel_rfl
theorem hB193:hasBody Tryz.prog 193=true:=by kernel_rfl
theorem hB199:hasBody Tryz.prog 199=true:=by kernel_rfl
theorem hB202:hasBody Tryz.prog 202=true:=by kernel_rfl
theorem hB203:hasBody Tryz.prog 203=true:=by kernel_rfl
theorem hB204:hasBody Tryz.prog 204=true:=by kernel_rfl
theorem hB205:hasBody Tryz.prog 205=true:=by kernel_rfl
theorem hB206:hasBody Tryz.prog 206=true:=by kernel_rfl
theorem hB207:hasBody Tryz.prog 207=true:=by kernel_rfl
theorem hB208:hasBody Tryz.prog 208=true:=by kernel_rfl
theorem hB209:hasBody Tryz.prog 209=true:=by kernel_rfl
theorem hB210:hasBody Tryz.prog 210=true:=by kernel_rfl
theorem hB211:hasBody Tryz.prog 211=true:=by kernel_rfl
theorem hB212:hasBody Tryz.prog 212=true:=by kernel_rfl
theorem hB213:hasBody Tryz.prog 213=true:=by kernel_rfl
theorem hB222:hasBody Tryz.prog 222=true:=by kernel_rfl
theorem hB241:hasBody Tryz.prog 241=true:=by kernel_rfl
theorem hB255:hasBody Tryz.prog 255=true:=by kernel_rfl
theorem hB256:hasBody Tryz.prog 256=true:=by kernel_rfl
theorem hB257:hasBody Tryz.prog 257=true:=by kernel_rfl
theorem hB258:hasBody Tryz.prog 258=true:=by kernel_rfl
theorem hB259:hasBody Tryz.prog 259=true:=by kernel_rfl
theorem hB260:hasBody Tryz.prog 260=true:=by kernel_rfl
theorem hB261:hasBody Tryz.prog 261=true:=by kernel_rfl
theorem hB262:hasBody Tryz.prog 262=true:=by kernel_rfl
theorem hB290:hasBody Tryz.prog 290=true:=by kernel_rfl
theorem hB291:hasBody Tryz.prog 291=true:=by kernel_rfl
theorem hB292:hasBody Tryz.prog 292=true:=by kernel_rfl
theorem hB293:hasBody Tryz.prog 293=true:=by kernel_rfl
theorem hB294:hasBody Tryz.prog 294=true:=by kernel_rfl
theorem hB304:hasBody Tryz.prog 304=true:=by kernel_rfl
theorem hB305:hasBody Tryz.prog 305=true:=by kernel_rfl
theorem ts2:tsize Tryz.prog 2=1:=by kernel_rfl
theorem tb2:tbytes Tryz.prog 2=8:=by kernel_rfl
theorem zv2:zval Tryz.prog 2=.int .i64 0:=by kernel_rfl
theorem zk2:zok Tryz.prog 2=true:=by kernel_rfl
theorem za2:zav Tryz.prog 2=[.int .i64 0]:=by kernel_rfl
theorem ts3:tsize Tryz.prog 3=1:=by kernel_rfl
theorem tb3:tbytes Tryz.prog 3=8:=by kernel_rfl
theorem zv3:zval Tryz.prog 3=.int .i64 0:=by kernel_rfl
theorem zk3:zok Tryz.prog 3=true:=by kernel_rfl
theorem za3:zav Tryz.prog 3=[.int .i64 0]:=by kernel_rfl
theorem ts4:tsize Tryz.prog 4=1:=by kernel_rfl
theorem tb4:tbytes Tryz.prog 4=1:=by kernel_rfl
theorem zv4:zval Tryz.prog 4=.bool false:=by kernel_rfl
theorem zk4:zok Tryz.prog 4=true:=by kernel_rfl
theorem za4:zav Tryz.prog 4=[.bool false]:=by kernel_rfl
theorem ts5:tsize Tryz.prog 5=1:=by kernel_rfl
theorem tb5:tbytes Tryz.prog 5=1:=by kernel_rfl
theorem zv5:zval Tryz.prog 5=.int .u8 0:=by kernel_rfl
theorem zk5:zok Tryz.prog 5=true:=by kernel_rfl
theorem za5:zav Tryz.prog 5=[.int .u8 0]:=by kernel_rfl
theorem fl7:Go.Av.flatT Tryz.prog 7=true:=by kernel_rfl
theorem fl8:Go.Av.flatT Tryz.prog 8=true:=by kernel_rfl
theorem ts9:tsize Tryz.prog 9=1:=by kernel_rfl
theorem tb9:tbytes Tryz.prog 9=16:=by kernel_rfl
theorem zv9:zval Tryz.prog 9=.str []:=by kernel_rfl
theorem zk9:zok Tryz.prog 9=true:=by kernel_rfl
theorem za9:zav Tryz.prog 9=[.str []]:=by kernel_rfl
theorem ts12:tsize Tryz.prog 12=1:=by kernel_rfl
theorem tb12:tbytes Tryz.prog 12=8:=by kernel_rfl
theorem zv12:zval Tryz.prog 12=.int .u64 0:=by kernel_rfl
theorem zk12:zok Tryz.prog 12=true:=by kernel_rfl
theorem za12:zav Tryz.prog 12=[.int .u64 0]:=by kernel_rfl
theorem fl13:Go.Av.flatT Tryz.prog 13=true:=by kernel_rfl
theorem fl14:Go.Av.flatT Tryz.prog 14=true:=by kernel_rfl
theorem fl18:Go.Av.flatT Tryz.prog 18=true:=by kernel_rfl
theorem fl19:Go.Av.flatT Tryz.prog 19=true:=by kernel_rfl
theorem ts21:tsize Tryz.prog 21=1:=by kernel_rfl
theorem tb21:tbytes Tryz.prog 21=4:=by kernel_rfl
theorem zv21:zval Tryz.prog 21=.int .i32 0:=by kernel_rfl
theorem zk21:zok Tryz.prog 21=true:=by kernel_rfl
theorem za21:zav Tryz.prog 21=[.int .i32 0]:=by kernel_rfl
theorem ts22:tsize Tryz.prog 22=1:=by kernel_rfl
theorem tb22:tbytes Tryz.prog 22=24:=by kernel_rfl
theorem zv22:zval Tryz.prog 22=.raw (.slice none 0 0):=by kernel_rfl
theorem zk22:zok Tryz.prog 22=true:=by kernel_rfl
theorem za22:zav Tryz.prog 22=[.raw (.slice none 0 0)]:=by kernel_rfl
theorem ts24:tsize Tryz.prog 24=2:=by kernel_rfl
theorem tb24:tbytes Tryz.prog 24=32:=by kernel_rfl
theorem zv24:zval Tryz.prog 24=.agg [.raw (.slice none 0 0),.int .i64 0]:=by kernel_rfl
theorem zk24:zok Tryz.prog 24=true:=by kernel_rfl
theorem za24:zav Tryz.prog 24=[.raw (.slice none 0 0),.int .i64 0]:=by kernel_rfl
theorem fl24:Go.Av.flatT Tryz.prog 24=true:=by kernel_rfl
theorem ts25:tsize Tryz.prog 25=2:=by kernel_rfl
theorem tb25:tbytes Tryz.prog 25=32:=by kernel_rfl
theorem zv25:zval Tryz.prog 25=.agg [.raw (.slice none 0 0),.int .i64 0]:=by kernel_rfl
theorem zk25:zok Tryz.prog 25=true:=by kernel_rfl
theorem za25:zav Tryz.prog 25=[.raw (.slice none 0 0),.int .i64 0]:=by kernel_rfl
theorem fl25:Go.Av.flatT Tryz.prog 25=true:=by kernel_rfl
theorem ts26:tsize Tryz.prog 26=1:=by kernel_rfl
theorem tb26:tbytes Tryz.prog 26=24:=by kernel_rfl
theorem zv26:zval Tryz.prog 26=.raw (.slice none 0 0):=by kernel_rfl
theorem zk26:zok Tryz.prog 26=true:=by kernel_rfl
theorem za26:zav Tryz.prog 26=[.raw (.slice none 0 0)]:=by kernel_rfl
theorem ts27:tsize Tryz.prog 27=2:=by kernel_rfl
theorem tb27:tbytes Tryz.prog 27=40:=by kernel_rfl
theorem zv27:zval Tryz.prog 27=.agg [.str [],.raw (.slice none 0 0)]:=by kernel_rfl
theorem zk27:zok Tryz.prog 27=true:=by kernel_rfl
theorem za27:zav Tryz.prog 27=[.str [],.raw (.slice none 0 0)]:=by kernel_rfl
theorem fl27:Go.Av.flatT Tryz.prog 27=true:=by kernel_rfl
theorem ts28:tsize Tryz.prog 28=2:=by kernel_rfl
theorem tb28:tbytes Tryz.prog 28=40:=by kernel_rfl
theorem zv28:zval Tryz.prog 28=.agg [.str [],.raw (.slice none 0 0)]:=by kernel_rfl
theorem zk28:zok Tryz.prog 28=true:=by kernel_rfl
theorem za28:zav Tryz.prog 28=[.str [],.raw (.slice none 0 0)]:=by kernel_rfl
theorem fl28:Go.Av.flatT Tryz.prog 28=true:=by kernel_rfl
theorem ts30:tsize Tryz.prog 30=1:=by kernel_rfl
theorem tb30:tbytes Tryz.prog 30=24:=by kernel_rfl
theorem zv30:zval Tryz.prog 30=.raw (.slice none 0 0):=by kernel_rfl
theorem zk30:zok Tryz.prog 30=true:=by kernel_rfl
theorem za30:zav Tryz.prog 30=[.raw (.slice none 0 0)]:=by kernel_rfl
theorem ts32:tsize Tryz.prog 32=1:=by kernel_rfl
theorem tb32:tbytes Tryz.prog 32=24:=by kernel_rfl
theorem zv32:zval Tryz.prog 32=.raw (.slice none 0 0):=by kernel_rfl
theorem zk32:zok Tryz.prog 32=true:=by kernel_rfl
theorem za32:zav Tryz.prog 32=[.raw (.slice none 0 0)]:=by kernel_rfl
theorem ts34:tsize Tryz.prog 34=1:=by kernel_rfl
theorem tb34:tbytes Tryz.prog 34=24:=by kernel_rfl
theorem zv34:zval Tryz.prog 34=.raw (.slice none 0 0):=by kernel_rfl
theorem zk34:zok Tryz.prog 34=true:=by kernel_rfl
theorem za34:zav Tryz.prog 34=[.raw (.slice none 0 0)]:=by kernel_rfl
theorem ts35:tsize Tryz.prog 35=1:=by kernel_rfl
theorem tb35:tbytes Tryz.prog 35=8:=by kernel_rfl
theorem zv35:zval Tryz.prog 35=.int .i64 0:=by kernel_rfl
theorem zk35:zok Tryz.prog 35=true:=by kernel_rfl
theorem za35:zav Tryz.prog 35=[.int .i64 0]:=by kernel_rfl
theorem ts39:tsize Tryz.prog 39=1:=by kernel_rfl
theorem tb39:tbytes Tryz.prog 39=24:=by kernel_rfl
theorem zv39:zval Tryz.prog 39=.raw (.slice none 0 0):=by kernel_rfl
theorem zk39:zok Tryz.prog 39=true:=by kernel_rfl
theorem za39:zav Tryz.prog 39=[.raw (.slice none 0 0)]:=by kernel_rfl
theorem ts40:tsize Tryz.prog 40=2:=by kernel_rfl
theorem tb40:tbytes Tryz.prog 40=40:=by kernel_rfl
theorem zv40:zval Tryz.prog 40=.agg [.str [],.raw (.slice none 0 0)]:=by kernel_rfl
theorem zk40:zok Tryz.prog 40=true:=by kernel_rfl
theorem za40:zav Tryz.prog 40=[.str [],.raw (.slice none 0 0)]:=by kernel_rfl
theorem fl40:Go.Av.flatT Tryz.prog 40=true:=by kernel_rfl
theorem ts41:tsize Tryz.prog 41=2:=by kernel_rfl
theorem tb41:tbytes Tryz.prog 41=40:=by kernel_rfl
theorem zv41:zval Tryz.prog 41=.agg [.str [],.raw (.slice none 0 0)]:=by kernel_rfl
theorem zk41:zok Tryz.prog 41=true:=by kernel_rfl
theorem za41:zav Tryz.prog 41=[.str [],.raw (.slice none 0 0)]:=by kernel_rfl
theorem fl41:Go.Av.flatT Tryz.prog 41=true:=by kernel_rfl
theorem ts43:tsize Tryz.prog 43=2:=by kernel_rfl
theorem tb43:tbytes Tryz.prog 43=24:=by kernel_rfl
theorem zv43:zval Tryz.prog 43=.agg [.int .i64 0,.str []]:=by kernel_rfl
theorem zk43:zok Tryz.prog 43=true:=by kernel_rfl
theorem za43:zav Tryz.prog 43=[.int .i64 0,.str []]:=by kernel_rfl
theorem fl43:Go.Av.flatT Tryz.prog 43=true:=by kernel_rfl
theorem ts44:tsize Tryz.prog 44=2:=by kernel_rfl
theorem tb44:tbytes Tryz.prog 44=24:=by kernel_rfl
theorem zv44:zval Tryz.prog 44=.agg [.int .i64 0,.str []]:=by kernel_rfl
theorem zk44:zok Tryz.prog 44=true:=by kernel_rfl
theorem za44:zav Tryz.prog 44=[.int .i64 0,.str []]:=by kernel_rfl
theorem fl44:Go.Av.flatT Tryz.prog 44=true:=by kernel_rfl
theorem ts45:tsize Tryz.prog 45=4:=by kernel_rfl
theorem tb45:tbytes Tryz.prog 45=40:=by kernel_rfl
theorem zv45:zval Tryz.prog 45=.agg [.int .i64 0,.str [],.int .i64 0,.bool false]:=by kernel_rfl
theorem zk45:zok Tryz.prog 45=true:=by kernel_rfl
theorem za45:zav Tryz.prog 45=[.int .i64 0,.str [],.int .i64 0,.bool false]:=by kernel_rfl
theorem fl45:Go.Av.flatT Tryz.prog 45=false:=by kernel_rfl
theorem lf45:Go.Av.leafTs Tryz.prog 4 45=[3,9,3,4]:=by kernel_rfl
theorem ts46:tsize Tryz.prog 46=4:=by kernel_rfl
theorem tb46:tbytes Tryz.prog 46=40:=by kernel_rfl
theorem zv46:zval Tryz.prog 46=.agg [.int .i64 0,.str [],.int .i64 0,.bool false]:=by kernel_rfl
theorem zk46:zok Tryz.prog 46=true:=by kernel_rfl
theorem za46:zav Tryz.prog 46=[.int .i64 0,.str [],.int .i64 0,.bool false]:=by kernel_rfl
theorem fl46:Go.Av.flatT Tryz.prog 46=false:=by kernel_rfl
theorem lf46:Go.Av.leafTs Tryz.prog 4 46=[3,9,3,4]:=by kernel_rfl
theorem ts48:tsize Tryz.prog 48=4:=by kernel_rfl
theorem tb48:tbytes Tryz.prog 48=48:=by kernel_rfl
theorem zv48:zval Tryz.prog 48=.agg [.str [],.int .i64 0,.str [],.int .i64 0]:=by kernel_rfl
theorem zk48:zok Tryz.prog 48=true:=by kernel_rfl
theorem za48:zav Tryz.prog 48=[.str [],.int .i64 0,.str [],.int .i64 0]:=by kernel_rfl
theorem fl48:Go.Av.flatT Tryz.prog 48=false:=by kernel_rfl
theorem lf48:Go.Av.leafTs Tryz.prog 4 48=[9,3,9,3]:=by kernel_rfl
theorem ts49:tsize Tryz.prog 49=4:=by kernel_rfl
theorem tb49:tbytes Tryz.prog 49=48:=by kernel_rfl
theorem zv49:zval Tryz.prog 49=.agg [.str [],.int .i64 0,.str [],.int .i64 0]:=by kernel_rfl
theorem zk49:zok Tryz.prog 49=true:=by kernel_rfl
theorem za49:zav Tryz.prog 49=[.str [],.int .i64 0,.str [],.int .i64 0]:=by kernel_rfl
theorem fl49:Go.Av.flatT Tryz.prog 49=false:=by kernel_rfl
theorem lf49:Go.Av.leafTs Tryz.prog 4 49=[9,3,9,3]:=by kernel_rfl
theorem ts56:tsize Tryz.prog 56=1:=by kernel_rfl
theorem tb56:tbytes Tryz.prog 56=24:=by kernel_rfl
theorem zv56:zval Tryz.prog 56=.raw (.slice none 0 0):=by kernel_rfl
theorem zk56:zok Tryz.prog 56=true:=by kernel_rfl
theorem za56:zav Tryz.prog 56=[.raw (.slice none 0 0)]:=by kernel_rfl
theorem ts60:tsize Tryz.prog 60=5:=by kernel_rfl
theorem tb60:tbytes Tryz.prog 60=72:=by kernel_rfl
theorem zv60:zval Tryz.prog 60=.agg [.str [],.int .i64 0,.str [],.str [],.str []]:=by kernel_rfl
theorem zk60:zok Tryz.prog 60=true:=by kernel_rfl
theorem za60:zav Tryz.prog 60=[.str [],.int .i64 0,.str [],.str [],.str []]:=by kernel_rfl
theorem fl60:Go.Av.flatT Tryz.prog 60=false:=by kernel_rfl
theorem lf60:Go.Av.leafTs Tryz.prog 4 60=[9,3,9,9,9]:=by kernel_rfl
theorem ts61:tsize Tryz.prog 61=5:=by kernel_rfl
theorem tb61:tbytes Tryz.prog 61=72:=by kernel_rfl
theorem zv61:zval Tryz.prog 61=.agg [.str [],.int .i64 0,.str [],.str [],.str []]:=by kernel_rfl
theorem zk61:zok Tryz.prog 61=true:=by kernel_rfl
theorem za61:zav Tryz.prog 61=[.str [],.int .i64 0,.str [],.str [],.str []]:=by kernel_rfl
theorem fl61:Go.Av.flatT Tryz.prog 61=false:=by kernel_rfl
theorem lf61:Go.Av.leafTs Tryz.prog 4 61=[9,3,9,9,9]:=by kernel_rfl
theorem ts62:tsize Tryz.prog 62=1:=by kernel_rfl
theorem tb62:tbytes Tryz.prog 62=24:=by kernel_rfl
theorem zv62:zval Tryz.prog 62=.raw (.slice none 0 0):=by kernel_rfl
theorem zk62:zok Tryz.prog 62=true:=by kernel_rfl
theorem za62:zav Tryz.prog 62=[.raw (.slice none 0 0)]:=by kernel_rfl
theorem ts63:tsize Tryz.prog 63=5:=by kernel_rfl
theorem tb63:tbytes Tryz.prog 63=72:=by kernel_rfl
theorem zv63:zval Tryz.prog 63=.agg [.str [],.int .i64 0,.str [],.int .i64 0,.raw (.slice none 0 0)]:=by kernel_rfl
theorem zk63:zok Tryz.prog 63=true:=by kernel_rfl
theorem za63:zav Tryz.prog 63=[.str [],.int .i64 0,.str [],.int .i64 0,.raw (.slice none 0 0)]:=by kernel_rfl
theorem fl63:Go.Av.flatT Tryz.prog 63=true:=by kernel_rfl
theorem ts64:tsize Tryz.prog 64=5:=by kernel_rfl
theorem tb64:tbytes Tryz.prog 64=72:=by kernel_rfl
theorem zv64:zval Tryz.prog 64=.agg [.str [],.int .i64 0,.str [],.int .i64 0,.raw (.slice none 0 0)]:=by kernel_rfl
theorem zk64:zok Tryz.prog 64=true:=by kernel_rfl
theorem za64:zav Tryz.prog 64=[.str [],.int .i64 0,.str [],.int .i64 0,.raw (.slice none 0 0)]:=by kernel_rfl
theorem fl64:Go.Av.flatT Tryz.prog 64=true:=by kernel_rfl
theorem ts65:tsize Tryz.prog 65=1:=by kernel_rfl
theorem tb65:tbytes Tryz.prog 65=24:=by kernel_rfl
theorem zv65:zval Tryz.prog 65=.raw (.slice none 0 0):=by kernel_rfl
theorem zk65:zok Tryz.prog 65=true:=by kernel_rfl
theorem za65:zav Tryz.prog 65=[.raw (.slice none 0 0)]:=by kernel_rfl
theorem ts69:tsize Tryz.prog 69=4:=by kernel_rfl
theorem tb69:tbytes Tryz.prog 69=56:=by kernel_rfl
theorem zv69:zval Tryz.prog 69=.agg [.int .i64 0,.str [],.str [],.str []]:=by kernel_rfl
theorem zk69:zok Tryz.prog 69=true:=by kernel_rfl
theorem za69:zav Tryz.prog 69=[.int .i64 0,.str [],.str [],.str []]:=by kernel_rfl
theorem fl69:Go.Av.flatT Tryz.prog 69=false:=by kernel_rfl
theorem lf69:Go.Av.leafTs Tryz.prog 4 69=[3,9,9,9]:=by kernel_rfl
theorem ts70:tsize Tryz.prog 70=4:=by kernel_rfl
theorem tb70:tbytes Tryz.prog 70=56:=by kernel_rfl
theorem zv70:zval Tryz.prog 70=.agg [.int .i64 0,.str [],.str [],.str []]:=by kernel_rfl
theorem zk70:zok Tryz.prog 70=true:=by kernel_rfl
theorem za70:zav Tryz.prog 70=[.int .i64 0,.str [],.str [],.str []]:=by kernel_rfl
theorem fl70:Go.Av.flatT Tryz.prog 70=false:=by kernel_rfl
theorem lf70:Go.Av.leafTs Tryz.prog 4 70=[3,9,9,9]:=by kernel_rfl
theorem ts71:tsize Tryz.prog 71=1:=by kernel_rfl
theorem tb71:tbytes Tryz.prog 71=24:=by kernel_rfl
theorem zv71:zval Tryz.prog 71=.raw (.slice none 0 0):=by kernel_rfl
theorem zk71:zok Tryz.prog 71=true:=by kernel_rfl
theorem za71:zav Tryz.prog 71=[.raw (.slice none 0 0)]:=by kernel_rfl
theorem fl83:Go.Av.flatT Tryz.prog 83=true:=by kernel_rfl
theorem fl84:Go.Av.flatT Tryz.prog 84=true:=by kernel_rfl
theorem ts89:tsize Tryz.prog 89=5:=by kernel_rfl
theorem tb89:tbytes Tryz.prog 89=80:=by kernel_rfl
theorem zv89:zval Tryz.prog 89=.agg [.int .i64 0,.str [],.str [],.raw (.slice none 0 0),.str []]:=by kernel_rfl
theorem zk89:zok Tryz.prog 89=true:=by kernel_rfl
theorem za89:zav Tryz.prog 89=[.int .i64 0,.str [],.str [],.raw (.slice none 0 0),.str []]:=by kernel_rfl
theorem fl89:Go.Av.flatT Tryz.prog 89=false:=by kernel_rfl
theorem lf89:Go.Av.leafTs Tryz.prog 4 89=[3,9,9,22,9]:=by kernel_rfl
theorem ts90:tsize Tryz.prog 90=5:=by kernel_rfl
theorem tb90:tbytes Tryz.prog 90=80:=by kernel_rfl
theorem zv90:zval Tryz.prog 90=.agg [.int .i64 0,.str [],.str [],.raw (.slice none 0 0),.str []]:=by kernel_rfl
theorem zk90:zok Tryz.prog 90=true:=by kernel_rfl
theorem za90:zav Tryz.prog 90=[.int .i64 0,.str [],.str [],.raw (.slice none 0 0),.str []]:=by kernel_rfl
theorem fl90:Go.Av.flatT Tryz.prog 90=false:=by kernel_rfl
theorem lf90:Go.Av.leafTs Tryz.prog 4 90=[3,9,9,22,9]:=by kernel_rfl
theorem fl95:Go.Av.flatT Tryz.prog 95=true:=by kernel_rfl
theorem fl96:Go.Av.flatT Tryz.prog 96=true:=by kernel_rfl
theorem ts105:tsize Tryz.prog 105=1:=by kernel_rfl
theorem tb105:tbytes Tryz.prog 105=24:=by kernel_rfl
theorem zv105:zval Tryz.prog 105=.raw (.slice none 0 0):=by kernel_rfl
theorem zk105:zok Tryz.prog 105=true:=by kernel_rfl
theorem za105:zav Tryz.prog 105=[.raw (.slice none 0 0)]:=by kernel_rfl
theorem ts108:tsize Tryz.prog 108=1:=by kernel_rfl
theorem tb108:tbytes Tryz.prog 108=24:=by kernel_rfl
theorem zv108:zval Tryz.prog 108=.raw (.slice none 0 0):=by kernel_rfl
theorem zk108:zok Tryz.prog 108=true:=by kernel_rfl
theorem za108:zav Tryz.prog 108=[.raw (.slice none 0 0)]:=by kernel_rfl
theorem ts112:tsize Tryz.prog 112=1:=by kernel_rfl
theorem tb112:tbytes Tryz.prog 112=24:=by kernel_rfl
theorem zv112:zval Tryz.prog 112=.raw (.slice none 0 0):=by kernel_rfl
theorem zk112:zok Tryz.prog 112=true:=by kernel_rfl
theorem za112:zav Tryz.prog 112=[.raw (.slice none 0 0)]:=by kernel_rfl
theorem ts113:tsize Tryz.prog 113=1:=by kernel_rfl
theorem tb113:tbytes Tryz.prog 113=8:=by kernel_rfl
theorem zv113:zval Tryz.prog 113=.raw (.map none):=by kernel_rfl
theorem zk113:zok Tryz.prog 113=true:=by kernel_rfl
theorem za113:zav Tryz.prog 113=[.raw (.map none)]:=by kernel_rfl
theorem ts114:tsize Tryz.prog 114=2:=by kernel_rfl
theorem tb114:tbytes Tryz.prog 114=24:=by kernel_rfl
theorem zv114:zval Tryz.prog 114=.agg [.int .i64 0,.str []]:=by kernel_rfl
theorem zk114:zok Tryz.prog 114=true:=by kernel_rfl
theorem za114:zav Tryz.prog 114=[.int .i64 0,.str []]:=by kernel_rfl
theorem fl114:Go.Av.flatT Tryz.prog 114=true:=by kernel_rfl
theorem ts115:tsize Tryz.prog 115=2:=by kernel_rfl
theorem tb115:tbytes Tryz.prog 115=24:=by kernel_rfl
theorem zv115:zval Tryz.prog 115=.agg [.int .i64 0,.str []]:=by kernel_rfl
theorem zk115:zok Tryz.prog 115=true:=by kernel_rfl
theorem za115:zav Tryz.prog 115=[.int .i64 0,.str []]:=by kernel_rfl
theorem fl115:Go.Av.flatT Tryz.prog 115=true:=by kernel_rfl
theorem ts116:tsize Tryz.prog 116=6:=by kernel_rfl
theorem tb116:tbytes Tryz.prog 116=48:=by kernel_rfl
theorem zv116:zval Tryz.prog 116=.agg [.int .i64 0,.int .i64 0,.int .i64 0,.int .i64 0,.int .i64 0,.int .i64 0]:=by kernel_rfl
theorem zk116:zok Tryz.prog 116=true:=by kernel_rfl
theorem za116:zav Tryz.prog 116=[.int .i64 0,.int .i64 0,.int .i64 0,.int .i64 0,.int .i64 0,.int .i64 0]:=by kernel_rfl
theorem fl116:Go.Av.flatT Tryz.prog 116=true:=by kernel_rfl
theorem ts117:tsize Tryz.prog 117=6:=by kernel_rfl
theorem tb117:tbytes Tryz.prog 117=48:=by kernel_rfl
theorem zv117:zval Tryz.prog 117=.agg [.int .i64 0,.int .i64 0,.int .i64 0,.int .i64 0,.int .i64 0,.int .i64 0]:=by kernel_rfl
theorem zk117:zok Tryz.prog 117=true:=by kernel_rfl
theorem za117:zav Tryz.prog 117=[.int .i64 0,.int .i64 0,.int .i64 0,.int .i64 0,.int .i64 0,.int .i64 0]:=by kernel_rfl
theorem fl117:Go.Av.flatT Tryz.prog 117=true:=by kernel_rfl
theorem ts118:tsize Tryz.prog 118=1:=by kernel_rfl
theorem tb118:tbytes Tryz.prog 118=8:=by kernel_rfl
theorem zv118:zval Tryz.prog 118=.raw (.map none):=by kernel_rfl
theorem zk118:zok Tryz.prog 118=true:=by kernel_rfl
theorem za118:zav Tryz.prog 118=[.raw (.map none)]:=by kernel_rfl
theorem ts122:tsize Tryz.prog 122=1:=by kernel_rfl
theorem tb122:tbytes Tryz.prog 122=8:=by kernel_rfl
theorem zv122:zval Tryz.prog 122=.raw .nilFunc:=by kernel_rfl
theorem zk122:zok Tryz.prog 122=true:=by kernel_rfl
theorem za122:zav Tryz.prog 122=[.raw .nilFunc]:=by kernel_rfl
theorem ts126:tsize Tryz.prog 126=1:=by kernel_rfl
theorem tb126:tbytes Tryz.prog 126=24:=by kernel_rfl
theorem zv126:zval Tryz.prog 126=.raw (.slice none 0 0):=by kernel_rfl
theorem zk126:zok Tryz.prog 126=true:=by kernel_rfl
theorem za126:zav Tryz.prog 126=[.raw (.slice none 0 0)]:=by kernel_rfl
theorem ts129:tsize Tryz.prog 129=3:=by kernel_rfl
theorem tb129:tbytes Tryz.prog 129=24:=by kernel_rfl
theorem zv129:zval Tryz.prog 129=.agg [.int .i64 0,.int .i64 0,.int .i64 0]:=by kernel_rfl
theorem zk129:zok Tryz.prog 129=true:=by kernel_rfl
theorem za129:zav Tryz.prog 129=[.int .i64 0,.int .i64 0,.int .i64 0]:=by kernel_rfl
theorem fl129:Go.Av.flatT Tryz.prog 129=true:=by kernel_rfl
theorem ts130:tsize Tryz.prog 130=3:=by kernel_rfl
theorem tb130:tbytes Tryz.prog 130=24:=by kernel_rfl
theorem zv130:zval Tryz.prog 130=.agg [.int .i64 0,.int .i64 0,.int .i64 0]:=by kernel_rfl
theorem zk130:zok Tryz.prog 130=true:=by kernel_rfl
theorem za130:zav Tryz.prog 130=[.int .i64 0,.int .i64 0,.int .i64 0]:=by kernel_rfl
theorem fl130:Go.Av.flatT Tryz.prog 130=true:=by kernel_rfl
theorem ts131:tsize Tryz.prog 131=1:=by kernel_rfl
theorem tb131:tbytes Tryz.prog 131=24:=by kernel_rfl
theorem zv131:zval Tryz.prog 131=.raw (.slice none 0 0):=by kernel_rfl
theorem zk131:zok Tryz.prog 131=true:=by kernel_rfl
theorem za131:zav Tryz.prog 131=[.raw (.slice none 0 0)]:=by kernel_rfl
theorem fl140:Go.Av.flatT Tryz.prog 140=true:=by kernel_rfl
theorem fl141:Go.Av.flatT Tryz.prog 141=true:=by kernel_rfl
theorem fl159:Go.Av.flatT Tryz.prog 159=false:=by kernel_rfl
theorem lf159:Go.Av.leafTs Tryz.prog 4 159=[3,9,9]:=by kernel_rfl
theorem fl160:Go.Av.flatT Tryz.prog 160=false:=by kernel_rfl
theorem lf160:Go.Av.leafTs Tryz.prog 4 160=[3,9,9]:=by kernel_rfl
theorem ts176:tsize Tryz.prog 176=1:=by kernel_rfl
theorem tb176:tbytes Tryz.prog 176=16:=by kernel_rfl
theorem zv176:zval Tryz.prog 176=.raw .nilIface:=by kernel_rfl
theorem zk176:zok Tryz.prog 176=true:=by kernel_rfl
theorem za176:zav Tryz.prog 176=[.raw .nilIface]:=by kernel_rfl
theorem ts187:tsize Tryz.prog 187=1:=by kernel_rfl
theorem tb187:tbytes Tryz.prog 187=24:=by kernel_rfl
theorem zv187:zval Tryz.prog 187=.raw (.slice none 0 0):=by kernel_rfl
theorem zk187:zok Tryz.prog 187=true:=by kernel_rfl
theorem za187:zav Tryz.prog 187=[.raw (.slice none 0 0)]:=by kernel_rfl
theorem ts188:tsize Tryz.prog 188=1:=by kernel_rfl
theorem tb188:tbytes Tryz.prog 188=24:=by kernel_rfl
theorem zv188:zval Tryz.prog 188=.raw (.slice none 0 0):=by kernel_rfl
theorem zk188:zok Tryz.prog 188=true:=by kernel_rfl
theorem za188:zav Tryz.prog 188=[.raw (.slice none 0 0)]:=by kernel_rfl
theorem ts194:tsize Tryz.prog 194=1:=by kernel_rfl
theorem tb194:tbytes Tryz.prog 194=8:=by kernel_rfl
theorem zv194:zval Tryz.prog 194=.raw (.map none):=by kernel_rfl
theorem zk194:zok Tryz.prog 194=true:=by kernel_rfl
theorem za194:zav Tryz.prog 194=[.raw (.map none)]:=by kernel_rfl
theorem ts195:tsize Tryz.prog 195=3:=by kernel_rfl
theorem tb195:tbytes Tryz.prog 195=40:=by kernel_rfl
theorem zv195:zval Tryz.prog 195=.agg [.str [],.int .i64 0,.str []]:=by kernel_rfl
theorem zk195:zok Tryz.prog 195=true:=by kernel_rfl
theorem za195:zav Tryz.prog 195=[.str [],.int .i64 0,.str []]:=by kernel_rfl
theorem fl195:Go.Av.flatT Tryz.prog 195=false:=by kernel_rfl
theorem lf195:Go.Av.leafTs Tryz.prog 4 195=[9,3,9]:=by kernel_rfl
theorem ts196:tsize Tryz.prog 196=3:=by kernel_rfl
theorem tb196:tbytes Tryz.prog 196=40:=by kernel_rfl
theorem zv196:zval Tryz.prog 196=.agg [.str [],.int .i64 0,.str []]:=by kernel_rfl
theorem zk196:zok Tryz.prog 196=true:=by kernel_rfl
theorem za196:zav Tryz.prog 196=[.str [],.int .i64 0,.str []]:=by kernel_rfl
theorem fl196:Go.Av.flatT Tryz.prog 196=false:=by kernel_rfl
theorem lf196:Go.Av.leafTs Tryz.prog 4 196=[9,3,9]:=by kernel_rfl
theorem ts206:tsize Tryz.prog 206=1:=by kernel_rfl
theorem tb206:tbytes Tryz.prog 206=8:=by kernel_rfl
theorem zv206:zval Tryz.prog 206=.int .u64 0:=by kernel_rfl
theorem zk206:zok Tryz.prog 206=true:=by kernel_rfl
theorem za206:zav Tryz.prog 206=[.int .u64 0]:=by kernel_rfl
theorem ts210:tsize Tryz.prog 210=1:=by kernel_rfl
theorem tb210:tbytes Tryz.prog 210=24:=by kernel_rfl
theorem zv210:zval Tryz.prog 210=.raw (.slice none 0 0):=by kernel_rfl
theorem zk210:zok Tryz.prog 210=true:=by kernel_rfl
theorem za210:zav Tryz.prog 210=[.raw (.slice none 0 0)]:=by kernel_rfl
theorem ts211:tsize Tryz.prog 211=2:=by kernel_rfl
theorem tb211:tbytes Tryz.prog 211=32:=by kernel_rfl
theorem zv211:zval Tryz.prog 211=.agg [.raw (.pointer none),.raw (.slice none 0 0)]:=by kernel_rfl
theorem zk211:zok Tryz.prog 211=true:=by kernel_rfl
theorem za211:zav Tryz.prog 211=[.raw (.pointer none),.raw (.slice none 0 0)]:=by kernel_rfl
theorem fl211:Go.Av.flatT Tryz.prog 211=true:=by kernel_rfl
theorem ts212:tsize Tryz.prog 212=2:=by kernel_rfl
theorem tb212:tbytes Tryz.prog 212=32:=by kernel_rfl
theorem zv212:zval Tryz.prog 212=.agg [.raw (.pointer none),.raw (.slice none 0 0)]:=by kernel_rfl
theorem zk212:zok Tryz.prog 212=true:=by kernel_rfl
theorem za212:zav Tryz.prog 212=[.raw (.pointer none),.raw (.slice none 0 0)]:=by kernel_rfl
theorem fl212:Go.Av.flatT Tryz.prog 212=true:=by kernel_rfl
theorem fl218:Go.Av.flatT Tryz.prog 218=true:=by kernel_rfl
theorem fl219:Go.Av.flatT Tryz.prog 219=true:=by kernel_rfl
theorem ts230:tsize Tryz.prog 230=1:=by kernel_rfl
theorem tb230:tbytes Tryz.prog 230=8:=by kernel_rfl
theorem zv230:zval Tryz.prog 230=.raw .nilFunc:=by kernel_rfl
theorem zk230:zok Tryz.prog 230=true:=by kernel_rfl
theorem za230:zav Tryz.prog 230=[.raw .nilFunc]:=by kernel_rfl
theorem ts232:tsize Tryz.prog 232=4:=by kernel_rfl
theorem tb232:tbytes Tryz.prog 232=32:=by kernel_rfl
theorem zv232:zval Tryz.prog 232=.agg [.bool false,.bool false,.bool false,.raw (.slice none 0 0)]:=by kernel_rfl
theorem zk232:zok Tryz.prog 232=true:=by kernel_rfl
theorem za232:zav Tryz.prog 232=[.bool false,.bool false,.bool false,.raw (.slice none 0 0)]:=by kernel_rfl
theorem fl232:Go.Av.flatT Tryz.prog 232=true:=by kernel_rfl
theorem ts233:tsize Tryz.prog 233=4:=by kernel_rfl
theorem tb233:tbytes Tryz.prog 233=32:=by kernel_rfl
theorem zv233:zval Tryz.prog 233=.agg [.bool false,.bool false,.bool false,.raw (.slice none 0 0)]:=by kernel_rfl
theorem zk233:zok Tryz.prog 233=true:=by kernel_rfl
theorem za233:zav Tryz.prog 233=[.bool false,.bool false,.bool false,.raw (.slice none 0 0)]:=by kernel_rfl
theorem fl233:Go.Av.flatT Tryz.prog 233=true:=by kernel_rfl
theorem fl248:Go.Av.flatT Tryz.prog 248=false:=by kernel_rfl
theorem lf248:Go.Av.leafTs Tryz.prog 4 248=[9,3,9,9]:=by kernel_rfl
theorem fl249:Go.Av.flatT Tryz.prog 249=false:=by kernel_rfl
theorem lf249:Go.Av.leafTs Tryz.prog 4 249=[9,3,9,9]:=by kernel_rfl
theorem ts251:tsize Tryz.prog 251=1:=by kernel_rfl
theorem tb251:tbytes Tryz.prog 251=4:=by kernel_rfl
theorem zv251:zval Tryz.prog 251=.int .u32 0:=by kernel_rfl
theorem zk251:zok Tryz.prog 251=true:=by kernel_rfl
theorem za251:zav Tryz.prog 251=[.int .u32 0]:=by kernel_rfl
theorem ts254:tsize Tryz.prog 254=1:=by kernel_rfl
theorem tb254:tbytes Tryz.prog 254=8:=by kernel_rfl
theorem zv254:zval Tryz.prog 254=.int .u64 0:=by kernel_rfl
theorem zk254:zok Tryz.prog 254=true:=by kernel_rfl
theorem za254:zav Tryz.prog 254=[.int .u64 0]:=by kernel_rfl
theorem ts257:tsize Tryz.prog 257=1:=by kernel_rfl
theorem tb257:tbytes Tryz.prog 257=8:=by kernel_rfl
theorem zv257:zval Tryz.prog 257=.raw (.pointer none):=by kernel_rfl
theorem zk257:zok Tryz.prog 257=true:=by kernel_rfl
theorem za257:zav Tryz.prog 257=[.raw (.pointer none)]:=by kernel_rfl
theorem ts274:tsize Tryz.prog 274=1:=by kernel_rfl
theorem tb274:tbytes Tryz.prog 274=8:=by kernel_rfl
theorem zv274:zval Tryz.prog 274=.int .i64 0:=by kernel_rfl
theorem zk274:zok Tryz.prog 274=true:=by kernel_rfl
theorem za274:zav Tryz.prog 274=[.int .i64 0]:=by kernel_rfl
theorem ts281:tsize Tryz.prog 281=1:=by kernel_rfl
theorem tb281:tbytes Tryz.prog 281=8:=by kernel_rfl
theorem zv281:zval Tryz.prog 281=.raw (.map none):=by kernel_rfl
theorem zk281:zok Tryz.prog 281=true:=by kernel_rfl
theorem za281:zav Tryz.prog 281=[.raw (.map none)]:=by kernel_rfl
theorem ts287:tsize Tryz.prog 287=1:=by kernel_rfl
theorem tb287:tbytes Tryz.prog 287=8:=by kernel_rfl
theorem zv287:zval Tryz.prog 287=.int .i64 0:=by kernel_rfl
theorem zk287:zok Tryz.prog 287=true:=by kernel_rfl
theorem za287:zav Tryz.prog 287=[.int .i64 0]:=by kernel_rfl
theorem ts301:tsize Tryz.prog 301=1:=by kernel_rfl
theorem tb301:tbytes Tryz.prog 301=8:=by kernel_rfl
theorem zv301:zval Tryz.prog 301=.raw (.pointer none):=by kernel_rfl
theorem zk301:zok Tryz.prog 301=true:=by kernel_rfl
theorem za301:zav Tryz.prog 301=[.raw (.pointer none)]:=by kernel_rfl
theorem fl305:Go.Av.flatT Tryz.prog 305=true:=by kernel_rfl
theorem fl306:Go.Av.flatT Tryz.prog 306=true:=by kernel_rfl
theorem ts314:tsize Tryz.prog 314=24:=by kernel_rfl
theorem tb314:tbytes Tryz.prog 314=24:=by kernel_rfl
theorem ts321:tsize Tryz.prog 321=3:=by kernel_rfl
theorem tb321:tbytes Tryz.prog 321=48:=by kernel_rfl
theorem zv321:zval Tryz.prog 321=.agg [.str [],.str [],.raw .nilIface]:=by kernel_rfl
theorem zk321:zok Tryz.prog 321=true:=by kernel_rfl
theorem za321:zav Tryz.prog 321=[.str [],.str [],.raw .nilIface]:=by kernel_rfl
theorem fl321:Go.Av.flatT Tryz.prog 321=true:=by kernel_rfl
theorem ts322:tsize Tryz.prog 322=3:=by kernel_rfl
theorem tb322:tbytes Tryz.prog 322=48:=by kernel_rfl
theorem zv322:zval Tryz.prog 322=.agg [.str [],.str [],.raw .nilIface]:=by kernel_rfl
theorem zk322:zok Tryz.prog 322=true:=by kernel_rfl
theorem za322:zav Tryz.prog 322=[.str [],.str [],.raw .nilIface]:=by kernel_rfl
theorem fl322:Go.Av.flatT Tryz.prog 322=true:=by kernel_rfl
theorem ts329:tsize Tryz.prog 329=12:=by kernel_rfl
theorem tb329:tbytes Tryz.prog 329=192:=by kernel_rfl
theorem zv329:zval Tryz.prog 329=.agg [.str [],.str [],.str [],.str [],.str [],.str [],.str [],.str [],.str [],.str [],.str [],.str []]:=by kernel_rfl
theorem zk329:zok Tryz.prog 329=true:=by kernel_rfl
theorem za329:zav Tryz.prog 329=[.str [],.str [],.str [],.str [],.str [],.str [],.str [],.str [],.str [],.str [],.str [],.str []]:=by kernel_rfl
theorem fl342:Go.Av.flatT Tryz.prog 342=true:=by kernel_rfl
theorem fl343:Go.Av.flatT Tryz.prog 343=true:=by kernel_rfl
theorem fl345:Go.Av.flatT Tryz.prog 345=true:=by kernel_rfl
theorem fl346:Go.Av.flatT Tryz.prog 346=true:=by kernel_rfl
theorem fl348:Go.Av.flatT Tryz.prog 348=true:=by kernel_rfl
theorem fl349:Go.Av.flatT Tryz.prog 349=true:=by kernel_rfl
theorem ts353:tsize Tryz.prog 353=20:=by kernel_rfl
theorem tb353:tbytes Tryz.prog 353=160:=by kernel_rfl
theorem ts357:tsize Tryz.prog 357=1:=by kernel_rfl
theorem tb357:tbytes Tryz.prog 357=16:=by kernel_rfl
theorem zv357:zval Tryz.prog 357=.agg [.str []]:=by kernel_rfl
theorem zk357:zok Tryz.prog 357=true:=by kernel_rfl
theorem za357:zav Tryz.prog 357=[.str []]:=by kernel_rfl
theorem fl357:Go.Av.flatT Tryz.prog 357=true:=by kernel_rfl
theorem ts358:tsize Tryz.prog 358=1:=by kernel_rfl
theorem tb358:tbytes Tryz.prog 358=16:=by kernel_rfl
theorem zv358:zval Tryz.prog 358=.agg [.str []]:=by kernel_rfl
theorem zk358:zok Tryz.prog 358=true:=by kernel_rfl
theorem za358:zav Tryz.prog 358=[.str []]:=by kernel_rfl
theorem fl358:Go.Av.flatT Tryz.prog 358=true:=by kernel_rfl
theorem ts367:tsize Tryz.prog 367=2:=by kernel_rfl
theorem tb367:tbytes Tryz.prog 367=2:=by kernel_rfl
theorem zv367:zval Tryz.prog 367=.agg [.int .u8 0,.int .u8 0]:=by kernel_rfl
theorem zk367:zok Tryz.prog 367=true:=by kernel_rfl
theorem za367:zav Tryz.prog 367=[.int .u8 0,.int .u8 0]:=by kernel_rfl
theorem fl367:Go.Av.flatT Tryz.prog 367=true:=by kernel_rfl
theorem ts368:tsize Tryz.prog 368=2:=by kernel_rfl
theorem tb368:tbytes Tryz.prog 368=2:=by kernel_rfl
theorem zv368:zval Tryz.prog 368=.agg [.int .u8 0,.int .u8 0]:=by kernel_rfl
theorem zk368:zok Tryz.prog 368=true:=by kernel_rfl
theorem za368:zav Tryz.prog 368=[.int .u8 0,.int .u8 0]:=by kernel_rfl
theorem fl368:Go.Av.flatT Tryz.prog 368=true:=by kernel_rfl
theorem ts369:tsize Tryz.prog 369=32:=by kernel_rfl
theorem tb369:tbytes Tryz.prog 369=32:=by kernel_rfl
theorem ts371:tsize Tryz.prog 371=32:=by kernel_rfl
theorem tb371:tbytes Tryz.prog 371=32:=by kernel_rfl
theorem ts372:tsize Tryz.prog 372=64:=by kernel_rfl
theorem tb372:tbytes Tryz.prog 372=64:=by kernel_rfl
theorem fl373:Go.Av.flatT Tryz.prog 373=true:=by kernel_rfl
theorem fl374:Go.Av.flatT Tryz.prog 374=true:=by kernel_rfl
theorem fl383:Go.Av.flatT Tryz.prog 383=true:=by kernel_rfl
theorem fl384:Go.Av.flatT Tryz.prog 384=true:=by kernel_rfl
end Go.Proofs.YtnfkjpihaficbaaGreatDoor
