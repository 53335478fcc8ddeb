/- Closed facts of this seat's program, written by a program of this seat: which functions. -/
import Derived.Test.YtmhjbljckkgeoaaGreatDoorC10
set_option maxRecDepth 100000
set_option linter.all false
open Go Go.Av Go.RowKit
namespace Go.Av
variable[Tr]
section
variable{c:Cx}{k:List It}{e:Env}{s:LB}{f:FuncId}{args:LY}{d:Option Tmp}{all os:List Oper}
theorem zgB(h:run true true c.fn.ntmps c 300 k e s):AWp c k e s:=goB rfl 300 h
theorem zpB{r:AV}(hc:Pc c.P f args (·=r))(h:run true true c.fn.ntmps c 300 (.ops all os::k) (put e d r) s)(ha:args.all nr1=true:=by rfl)(hd:dOk c.fn.ntmps d=true:=by rfl):AdX c f args d all os k e s:=AaL hc ha rfl hd (zgB h)
theorem zqB{g:Std}(hg:Le g c.w c.ρ){r:AV}(hc:PcH c.P g f args (·=r))(h:run true true c.fn.ntmps c 300 (.ops all os::k) (put e d r) s)(ha:args.all nr1=true:=by rfl)(hd:dOk c.fn.ntmps d=true:=by rfl):AdX c f args d all os k e s:=AmY hg hc ha rfl hd (zgB h)
theorem zgF(h:run false true c.fn.ntmps c 300 k e s):AWp c k e s:=goF rfl 300 h
theorem zpF{r:AV}(hc:Pc c.P f args (·=r))(h:run false true c.fn.ntmps c 300 (.ops all os::k) (put e d r) s)(ha:args.all nr1=true:=by rfl)(hd:dOk c.fn.ntmps d=true:=by rfl):AdX c f args d all os k e s:=AaL hc ha rfl hd (zgF h)
theorem zqF{g:Std}(hg:Le g c.w c.ρ){r:AV}(hc:PcH c.P g f args (·=r))(h:run false true c.fn.ntmps c 300 (.ops all os::k) (put e d r) s)(ha:args.all nr1=true:=by rfl)(hd:dOk c.fn.ntmps d=true:=by rfl):AdX c f args d all os k e s:=AmY hg hc ha rfl hd (zgF h)
theorem zgN(h:run false false c.fn.ntmps c 300 k e s):AWp c k e s:=go rfl 300 h
theorem zpN{r:AV}(hc:Pc c.P f args (·=r))(h:run false false c.fn.ntmps c 300 (.ops all os::k) (put e d r) s)(ha:args.all nr1=true:=by rfl)(hd:dOk c.fn.ntmps d=true:=by rfl):AdX c f args d all os k e s:=AaL hc ha rfl hd (zgN h)
theorem zqN{g:Std}(hg:Le g c.w c.ρ){r:AV}(hc:PcH c.P g f args (·=r))(h:run false false c.fn.ntmps c 300 (.ops all os::k) (put e d r) s)(ha:args.all nr1=true:=by rfl)(hd:dOk c.fn.ntmps d=true:=by rfl):AdX c f args d all os k e s:=AmY hg hc ha rfl hd (zgN h)
theorem zgW(h:run true false c.fn.ntmps c 300 k e s):AWp c k e s:=goW rfl 300 h
theorem za{post:AV->LB->Prop}(hc:Ct c.P f args s post)(hk:∀ r s',post r s'->AWp c (.ops all os::k) (put e d r) s')(hd:dOk c.fn.ntmps d=true:=by rfl):AdX c f args d all os k e s:=A0H hc rfl hd hk
theorem zaH{g:Std}(hg:Le g c.w c.ρ){post:AV->LB->Prop}(hc:CtH c.P g f args s post)(hk:∀ r s',post r s'->AWp c (.ops all os::k) (put e d r) s')(hd:dOk c.fn.ntmps d=true:=by rfl):AdX c f args d all os k e s:=A3T hg hc rfl hd hk
theorem zeH{g:Std}(hg:Le g c.w c.ρ){post:AV->Prop}(hc:PcH c.P g f args post)(hk:∀ r,post r->AWp c (.ops all os::k) (put e d r) s)(ha:args.all nr1=true:=by rfl)(hd:dOk c.fn.ntmps d=true:=by rfl):AdX c f args d all os k e s:=AeK hg hc ha rfl hd hk
theorem zm(id:Nat){es:Nat}{agg:AV}{post:AV->AV->Prop}(hc:Mc c.P f es agg args post)(hk:∀ r agg',post r agg'->AWp c (.ops all os::k) (put e d r) (s.set id (.arr es [agg'])))(ha:args.all nr1=true:=by rfl)(hg:nr1 agg=true:=by rfl)(hid:s[id]?=some (.arr es [agg]):=by rfl)(hd:dOk c.fn.ntmps d=true:=by rfl):AdX c f (.ptr id 1 0 0::args) d all os k e s:=mcall hc ha hg hid rfl hd hk
theorem zmH(id:Nat){g:Std}(hle:Le g c.w c.ρ){es:Nat}{agg:AV}{post:AV->AV->Prop}(hc:McH c.P g f es agg args post)(hk:∀ r agg',post r agg'->AWp c (.ops all os::k) (put e d r) (s.set id (.arr es [agg'])))(ha:args.all nr1=true:=by rfl)(hg:nr1 agg=true:=by rfl)(hid:s[id]?=some (.arr es [agg]):=by rfl)(hd:dOk c.fn.ntmps d=true:=by rfl):AdX c f (.ptr id 1 0 0::args) d all os k e s:=BvP hle hc ha hg hid rfl hd hk
theorem zr(cs:LY){id:Nat}{ops:List Oper}(hm:c.P.follows .mixedOrders=true)(h:dx c ops k 100 ops cs e s)(hok:A3S ops=true:=by decide)(hdst:ops.all (fun o=>dOk c.fn.ntmps o.dst)=true:=by rfl):AWp c (.code (.region id ops.toArray true)::k) e s:=BqW cs hm hok rfl hdst 100 h
end
theorem zcIB{P:Program}{f:FuncId}{fn:Func}{body:Code}{args:LY}{sto:LB}{post:AV->LB->Prop}(hf:P.funcs[f]?=some fn)(hb:fn.body=some body)(h:∀ h ρ w,run true true fn.ntmps ⟨P,fn,h,ρ,sto,w,post,X0,stb0⟩ 300 [.code body] (args0 0 args) sto)(ha:Nat.ble args.length fn.ntmps=true:=by rfl)(hx:AaA P f=true:=by kernel_rfl):Ct P f args sto post:=AaI hf hb rfl hx (Nat.le_of_ble_eq_true ha) fun a b c=>zgB (h a b c)
theorem zdIB{P:Program}{g:Std}{f:FuncId}{fn:Func}{body:Code}{args:LY}{sto:LB}{post:AV->LB->Prop}(hf:P.funcs[f]?=some fn)(hb:fn.body=some body)(h:∀ h ρ w,Le g w ρ->run true true fn.ntmps ⟨P,fn,h,ρ,sto,w,post,X0,stb0⟩ 300 [.code body] (args0 0 args) sto)(ha:Nat.ble args.length fn.ntmps=true:=by rfl)(hx:AaA P f=true:=by kernel_rfl):CtH P g f args sto post:=AcP hf hb rfl hx (Nat.le_of_ble_eq_true ha) fun a b c d=>zgB (h a b c d)
theorem zpIB{P:Program}{f:FuncId}{fn:Func}{body:Code}{args:LY}{post:AV->Prop}(hf:P.funcs[f]?=some fn)(hb:fn.body=some body)(h:∀ h ρ w,run true true fn.ntmps ⟨P,fn,h,ρ,[],w,fun r _=>post r/\nr2 r=true,X0,stb0⟩ 300 [.code body] (args0 0 args) [])(ha:Nat.ble args.length fn.ntmps=true:=by rfl)(hx:AaA P f=true:=by kernel_rfl):Pc P f args post:=AaJ (zcIB hf hb h ha hx)
theorem zqIB{P:Program}{g:Std}{f:FuncId}{fn:Func}{body:Code}{args:LY}{post:AV->Prop}(hf:P.funcs[f]?=some fn)(hb:fn.body=some body)(h:∀ h ρ w,Le g w ρ->run true true fn.ntmps ⟨P,fn,h,ρ,[],w,fun r _=>post r/\nr2 r=true,X0,stb0⟩ 300 [.code body] (args0 0 args) [])(ha:Nat.ble args.length fn.ntmps=true:=by rfl)(hx:AaA P f=true:=by kernel_rfl):PcH P g f args post:=AcF (zdIB hf hb h ha hx)
theorem zcIF{P:Program}{f:FuncId}{fn:Func}{body:Code}{args:LY}{sto:LB}{post:AV->LB->Prop}(hf:P.funcs[f]?=some fn)(hb:fn.body=some body)(h:∀ h ρ w,run false true fn.ntmps ⟨P,fn,h,ρ,sto,w,post,X0,stb0⟩ 300 [.code body] (args0 0 args) sto)(ha:Nat.ble args.length fn.ntmps=true:=by rfl)(hx:AaA P f=true:=by kernel_rfl):Ct P f args sto post:=AaI hf hb rfl hx (Nat.le_of_ble_eq_true ha) fun a b c=>zgF (h a b c)
theorem zdIF{P:Program}{g:Std}{f:FuncId}{fn:Func}{body:Code}{args:LY}{sto:LB}{post:AV->LB->Prop}(hf:P.funcs[f]?=some fn)(hb:fn.body=some body)(h:∀ h ρ w,Le g w ρ->run false true fn.ntmps ⟨P,fn,h,ρ,sto,w,post,X0,stb0⟩ 300 [.code body] (args0 0 args) sto)(ha:Nat.ble args.length fn.ntmps=true:=by rfl)(hx:AaA P f=true:=by kernel_rfl):CtH P g f args sto post:=AcP hf hb rfl hx (Nat.le_of_ble_eq_true ha) fun a b c d=>zgF (h a b c d)
theorem zpIF{P:Program}{f:FuncId}{fn:Func}{body:Code}{args:LY}{post:AV->Prop}(hf:P.funcs[f]?=some fn)(hb:fn.body=some body)(h:∀ h ρ w,run false true fn.ntmps ⟨P,fn,h,ρ,[],w,fun r _=>post r/\nr2 r=true,X0,stb0⟩ 300 [.code body] (args0 0 args) [])(ha:Nat.ble args.length fn.ntmps=true:=by rfl)(hx:AaA P f=true:=by kernel_rfl):Pc P f args post:=AaJ (zcIF hf hb h ha hx)
theorem zqIF{P:Program}{g:Std}{f:FuncId}{fn:Func}{body:Code}{args:LY}{post:AV->Prop}(hf:P.funcs[f]?=some fn)(hb:fn.body=some body)(h:∀ h ρ w,Le g w ρ->run false true fn.ntmps ⟨P,fn,h,ρ,[],w,fun r _=>post r/\nr2 r=true,X0,stb0⟩ 300 [.code body] (args0 0 args) [])(ha:Nat.ble args.length fn.ntmps=true:=by rfl)(hx:AaA P f=true:=by kernel_rfl):PcH P g f args post:=AcF (zdIF hf hb h ha hx)
theorem zcIN{P:Program}{f:FuncId}{fn:Func}{body:Code}{args:LY}{sto:LB}{post:AV->LB->Prop}(hf:P.funcs[f]?=some fn)(hb:fn.body=some body)(h:∀ h ρ w,run false false fn.ntmps ⟨P,fn,h,ρ,sto,w,post,X0,stb0⟩ 300 [.code body] (args0 0 args) sto)(ha:Nat.ble args.length fn.ntmps=true:=by rfl)(hx:AaA P f=true:=by kernel_rfl):Ct P f args sto post:=AaI hf hb rfl hx (Nat.le_of_ble_eq_true ha) fun a b c=>zgN (h a b c)
theorem zdIN{P:Program}{g:Std}{f:FuncId}{fn:Func}{body:Code}{args:LY}{sto:LB}{post:AV->LB->Prop}(hf:P.funcs[f]?=some fn)(hb:fn.body=some body)(h:∀ h ρ w,Le g w ρ->run false false fn.ntmps ⟨P,fn,h,ρ,sto,w,post,X0,stb0⟩ 300 [.code body] (args0 0 args) sto)(ha:Nat.ble args.length fn.ntmps=true:=by rfl)(hx:AaA P f=true:=by kernel_rfl):CtH P g f args sto post:=AcP hf hb rfl hx (Nat.le_of_ble_eq_true ha) fun a b c d=>zgN (h a b c d)
theorem zpIN{P:Program}{f:FuncId}{fn:Func}{body:Code}{args:LY}{post:AV->Prop}(hf:P.funcs[f]?=some fn)(hb:fn.body=some body)(h:∀ h ρ w,run false false fn.ntmps ⟨P,fn,h,ρ,[],w,fun r _=>post r/\nr2 r=true,X0,stb0⟩ 300 [.code body] (args0 0 args) [])(ha:Nat.ble args.length fn.ntmps=true:=by rfl)(hx:AaA P f=true:=by kernel_rfl):Pc P f args post:=AaJ (zcIN hf hb h ha hx)
theorem zqIN{P:Program}{g:Std}{f:FuncId}{fn:Func}{body:Code}{args:LY}{post:AV->Prop}(hf:P.funcs[f]?=some fn)(hb:fn.body=some body)(h:∀ h ρ w,Le g w ρ->run false false fn.ntmps ⟨P,fn,h,ρ,[],w,fun r _=>post r/\nr2 r=true,X0,stb0⟩ 300 [.code body] (args0 0 args) [])(ha:Nat.ble args.length fn.ntmps=true:=by rfl)(hx:AaA P f=true:=by kernel_rfl):PcH P g f args post:=AcF (zdIN hf hb h ha hx)
theorem zcIW{P:Program}{f:FuncId}{fn:Func}{body:Code}{args:LY}{sto:LB}{post:AV->LB->Prop}(hf:P.funcs[f]?=some fn)(hb:fn.body=some body)(h:∀ h ρ w,run true false fn.ntmps ⟨P,fn,h,ρ,sto,w,post,X0,stb0⟩ 300 [.code body] (args0 0 args) sto)(ha:Nat.ble args.length fn.ntmps=true:=by rfl)(hx:AaA P f=true:=by kernel_rfl):Ct P f args sto post:=AaI hf hb rfl hx (Nat.le_of_ble_eq_true ha) fun a b c=>zgW (h a b c)
theorem zt{c:Cx}{e:Env}{s:LB}(ts:List Tmp)(hr:c.fn.results=(ts.map ResultVar.tmp).toArray:=by rfl)(hp:c.post (resV e ts) s:=by exact⟨rfl,rfl⟩):ARet c e s:=aret ts hr hp
end Go.Av
namespace Go.Proofs.YtmhjbljckkgeoaaGreatDoor
open Av RowKit Proofs.Tryz
theorem AaF:prog.follows .mixedOrders=true:=by kernel_rfl
theorem hB21:AaA prog 21=true:=by kernel_rfl
theorem hB31:AaA prog 31=true:=by kernel_rfl
theorem hB33:AaA prog 33=true:=by kernel_rfl
theorem hB40:AaA prog 40=true:=by kernel_rfl
theorem hB45:AaA prog 45=true:=by kernel_rfl
theorem hB46:AaA prog 46=true:=by kernel_rfl
theorem hB62:AaA prog 62=true:=by kernel_rfl
theorem hB63:AaA prog 63=true:=by kernel_rfl
theorem hB64:AaA prog 64=true:=by kernel_rfl
theorem hB65:AaA prog 65=true:=by kernel_rfl
theorem hB66:AaA prog 66=true:=by kernel_rfl
theorem hB74:AaA prog 74=true:=by kernel_rfl
theorem hB75:AaA prog 75=true:=by kernel_rfl
theorem hB78:AaA prog 78=true:=by kernel_rfl
theorem hB79:AaA prog 79=true:=by kernel_rfl
theorem hB80:AaA prog 80=true:=by kernel_rfl
theorem hB81:AaA prog 81=true:=by kernel_rfl
theorem hB85:AaA prog 85=true:=by kernel_rfl
theorem hB86:AaA prog 86=true:=by kernel_rfl
theorem hB88:AaA prog 88=true:=by kernel_rfl
theorem hB89:AaA prog 89=true:=by kernel_rfl
theorem hB92:AaA prog 92=true:=by kernel_rfl
theorem hB99:AaA prog 99=true:=by kernel_rfl
theorem hB106:AaA prog 106=true:=by kernel_rfl
theorem hB115:AaA prog 115=true:=by kernel_rfl
theorem hB116:AaA prog 116=true:=by kernel_rfl
theorem hB117:AaA prog 117=true:=by kernel_rfl
theorem hB118:AaA prog 118=true:=by kernel_rfl
theorem hB120:AaA prog 120=true:=by kernel_rfl
theorem hB121:AaA prog 121=true:=by kernel_rfl
theorem hB122:AaA prog 122=true:=by kernel_rfl
theorem hB127:AaA prog 127=true:=by kernel_rfl
theorem hB128:AaA prog 128=true:=by kernel_rfl
theorem hB131:AaA prog 131=true:=by kernel_rfl
theorem hB134:AaA prog 134=true:=by kernel_rfl
theorem hB139:AaA prog 139=true:=by kernel_rfl
theorem hB140:AaA prog 140=true:=by kernel_rfl
theorem hB141:AaA prog 141=true:=by kernel_rfl
theorem hB142:AaA prog 142=true:=by kernel_rfl
theorem hB155:AaA prog 155=true:=by kernel_rfl
theorem hB156:AaA prog 156=true:=by kernel_rfl
theorem hB163:AaA prog 163=true:=by kernel_rfl
theorem hB166:AaA prog 166=true:=by kernel_rfl
theorem hB172:AaA prog 172=true:=by kernel_rfl
theorem hB175:AaA prog 175=true:=by kernel_rfl
theorem hB176:AaA prog 176=true:=by kernel_rfl
theorem hB184:AaA prog 184=true:=by kernel_rfl
theorem hB185:AaA prog 185=true:=by kernel_rfl
theorem hB200:AaA prog 200=true:=by kernel_rfl
theorem hB201:AaA prog 201=true:=by kernel_rfl
theorem hB203:AaA prog 203=true:=by kernel_rfl
theorem hB204:AaA prog 204=true:=by kernel_rfl
theorem hB205:AaA prog 205=true:=by kernel_rfl
theorem hB210:AaA prog 210=true:=by kernel_rfl
theorem hB211:AaA prog 211=true:=by kernel_rfl
theorem hB222:AaA prog 222=true:=by kernel_rfl
theorem hB229:AaA prog 229=true:=by kernel_rfl
theorem hB249:AaA prog 249=true:=by kernel_rfl
theorem hB259:AaA prog 259=true:=by kernel_rfl
theorem hB315:AaA prog 315=true:=by kernel_rfl
theorem ts2:tsize prog 2=1:=by kernel_rfl
theorem ts3:tsize prog 3=1:=by kernel_rfl
theorem tb3:AbB prog 3=8:=by kernel_rfl
theorem za3:zav prog 3=[.int .i64 0]:=by kernel_rfl
theorem ts4:tsize prog 4=1:=by kernel_rfl
theorem tb4:AbB prog 4=1:=by kernel_rfl
theorem zv4:zval prog 4=.bool false:=by kernel_rfl
theorem zk4:zok prog 4=true:=by kernel_rfl
theorem za4:zav prog 4=[.bool false]:=by kernel_rfl
theorem ts5:tsize prog 5=1:=by kernel_rfl
theorem tb5:AbB prog 5=1:=by kernel_rfl
theorem za5:zav prog 5=[.int .u8 0]:=by kernel_rfl
theorem ts9:tsize prog 9=1:=by kernel_rfl
theorem tb9:AbB prog 9=16:=by kernel_rfl
theorem zv9:zval prog 9=.str []:=by kernel_rfl
theorem zk9:zok prog 9=true:=by kernel_rfl
theorem za9:zav prog 9=[.str []]:=by kernel_rfl
theorem ts10:tsize prog 10=1:=by kernel_rfl
theorem ts22:tsize prog 22=1:=by kernel_rfl
theorem ts24:tsize prog 24=2:=by kernel_rfl
theorem ts25:tsize prog 25=2:=by kernel_rfl
theorem za25:zav prog 25=[.raw (.slice none 0 0),.int .i64 0]:=by kernel_rfl
theorem ts26:tsize prog 26=1:=by kernel_rfl
theorem ts28:tsize prog 28=1:=by kernel_rfl
theorem ts29:tsize prog 29=2:=by kernel_rfl
theorem ts30:tsize prog 30=2:=by kernel_rfl
theorem za30:zav prog 30=[.str [],.raw (.slice none 0 0)]:=by kernel_rfl
theorem ts31:tsize prog 31=1:=by kernel_rfl
theorem tb31:AbB prog 31=24:=by kernel_rfl
theorem za31:zav prog 31=[.raw (.slice none 0 0)]:=by kernel_rfl
theorem ts32:tsize prog 32=5:=by kernel_rfl
theorem ts33:tsize prog 33=5:=by kernel_rfl
theorem tb33:AbB prog 33=96:=by kernel_rfl
theorem za33:zav prog 33=[.int .i64 0,.str [],.raw (.slice none 0 0),.raw (.slice none 0 0),.raw (.slice none 0 0)]:=by kernel_rfl
theorem ts35:tsize prog 35=1:=by kernel_rfl
theorem ts38:tsize prog 38=3:=by kernel_rfl
theorem ts39:tsize prog 39=3:=by kernel_rfl
theorem za39:zav prog 39=[.int .i64 0,.raw (.slice none 0 0),.raw (.slice none 0 0)]:=by kernel_rfl
theorem ts53:tsize prog 53=4:=by kernel_rfl
theorem ts54:tsize prog 54=4:=by kernel_rfl
theorem tb54:AbB prog 54=64:=by kernel_rfl
theorem zv54:zval prog 54=.agg [.str [],.int .i64 0,.str [],.raw (.slice none 0 0)]:=by kernel_rfl
theorem zk54:zok prog 54=true:=by kernel_rfl
theorem za54:zav prog 54=[.str [],.int .i64 0,.str [],.raw (.slice none 0 0)]:=by kernel_rfl
theorem ts61:tsize prog 61=1:=by kernel_rfl
theorem ts70:tsize prog 70=1:=by kernel_rfl
theorem ts72:tsize prog 72=1:=by kernel_rfl
theorem ts81:tsize prog 81=1:=by kernel_rfl
theorem ts82:tsize prog 82=5:=by kernel_rfl
theorem ts83:tsize prog 83=5:=by kernel_rfl
theorem tb83:AbB prog 83=72:=by kernel_rfl
theorem zv83:zval prog 83=.agg [.str [],.int .i64 0,.str [],.int .i64 0,.raw (.slice none 0 0)]:=by kernel_rfl
theorem zk83:zok prog 83=true:=by kernel_rfl
theorem za83:zav prog 83=[.str [],.int .i64 0,.str [],.int .i64 0,.raw (.slice none 0 0)]:=by kernel_rfl
theorem ts92:tsize prog 92=2:=by kernel_rfl
theorem ts93:tsize prog 93=2:=by kernel_rfl
theorem tb93:AbB prog 93=24:=by kernel_rfl
theorem za93:zav prog 93=[.int .i64 0,.str []]:=by kernel_rfl
theorem ts106:tsize prog 106=1:=by kernel_rfl
theorem ts108:tsize prog 108=2:=by kernel_rfl
theorem tb108:AbB prog 108=16:=by kernel_rfl
theorem za108:zav prog 108=[.int .i64 0,.int .i64 0]:=by kernel_rfl
theorem ts109:tsize prog 109=1:=by kernel_rfl
theorem ts119:tsize prog 119=1:=by kernel_rfl
theorem ts123:tsize prog 123=2:=by kernel_rfl
theorem ts124:tsize prog 124=2:=by kernel_rfl
theorem za124:zav prog 124=[.int .i64 0,.str []]:=by kernel_rfl
theorem ts128:tsize prog 128=3:=by kernel_rfl
theorem ts129:tsize prog 129=3:=by kernel_rfl
theorem za129:zav prog 129=[.str [],.raw (.slice none 0 0),.int .i64 0]:=by kernel_rfl
theorem ts146:tsize prog 146=1:=by kernel_rfl
theorem ts148:tsize prog 148=1:=by kernel_rfl
theorem ts150:tsize prog 150=2:=by kernel_rfl
theorem ts151:tsize prog 151=2:=by kernel_rfl
theorem tb151:AbB prog 151=40:=by kernel_rfl
theorem za151:zav prog 151=[.str [],.raw (.slice none 0 0)]:=by kernel_rfl
theorem ts161:tsize prog 161=1:=by kernel_rfl
theorem ts162:tsize prog 162=1:=by kernel_rfl
theorem ts163:tsize prog 163=1:=by kernel_rfl
theorem ts166:tsize prog 166=4:=by kernel_rfl
theorem ts167:tsize prog 167=4:=by kernel_rfl
theorem tb167:AbB prog 167=72:=by kernel_rfl
theorem za167:zav prog 167=[.int .i64 0,.raw (.slice none 0 0),.raw (.slice none 0 0),.str []]:=by kernel_rfl
theorem ts169:tsize prog 169=3:=by kernel_rfl
theorem ts170:tsize prog 170=3:=by kernel_rfl
theorem za170:zav prog 170=[.raw (.slice none 0 0),.raw (.slice none 0 0),.raw (.slice none 0 0)]:=by kernel_rfl
theorem ts177:tsize prog 177=1:=by kernel_rfl
theorem ts178:tsize prog 178=2:=by kernel_rfl
theorem ts179:tsize prog 179=2:=by kernel_rfl
theorem za179:zav prog 179=[.raw (.pointer none),.raw (.slice none 0 0)]:=by kernel_rfl
theorem ts187:tsize prog 187=1:=by kernel_rfl
theorem ts188:tsize prog 188=1:=by kernel_rfl
theorem tb188:AbB prog 188=24:=by kernel_rfl
theorem za188:zav prog 188=[.raw (.slice none 0 0)]:=by kernel_rfl
theorem ts189:tsize prog 189=2:=by kernel_rfl
theorem ts190:tsize prog 190=2:=by kernel_rfl
theorem tb190:AbB prog 190=40:=by kernel_rfl
theorem za190:zav prog 190=[.str [],.raw (.slice none 0 0)]:=by kernel_rfl
theorem ts191:tsize prog 191=1:=by kernel_rfl
theorem ts200:tsize prog 200=1:=by kernel_rfl
theorem ts202:tsize prog 202=3:=by kernel_rfl
theorem ts203:tsize prog 203=3:=by kernel_rfl
theorem tb203:AbB prog 203=64:=by kernel_rfl
theorem za203:zav prog 203=[.raw (.slice none 0 0),.raw (.slice none 0 0),.str []]:=by kernel_rfl
theorem ts207:tsize prog 207=1:=by kernel_rfl
theorem ts235:tsize prog 235=1:=by kernel_rfl
theorem ts236:tsize prog 236=1:=by kernel_rfl
theorem za236:zav prog 236=[.raw (.slice none 0 0)]:=by kernel_rfl
theorem ts237:tsize prog 237=3:=by kernel_rfl
theorem ts238:tsize prog 238=3:=by kernel_rfl
theorem tb238:AbB prog 238=56:=by kernel_rfl
theorem za238:zav prog 238=[.int .i64 0,.raw (.slice none 0 0),.raw (.slice none 0 0)]:=by kernel_rfl
theorem ts259:tsize prog 259=1:=by kernel_rfl
theorem ts263:tsize prog 263=1:=by kernel_rfl
theorem ts275:tsize prog 275=1:=by kernel_rfl
theorem ts307:tsize prog 307=1:=by kernel_rfl
theorem ts308:tsize prog 308=1:=by kernel_rfl
theorem ts317:tsize prog 317=20:=by kernel_rfl
