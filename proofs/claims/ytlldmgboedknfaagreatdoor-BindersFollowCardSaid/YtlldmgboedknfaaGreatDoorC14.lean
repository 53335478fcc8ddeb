/- Closed facts of this seat's program, written by a program of this seat: which functions. -/
import Derived.Test.YtlldmgboedknfaaGreatDoorC13
import Derived.Lib.ItoaNum
import Derived.ChangeSame
set_option maxRecDepth 100000
set_option linter.unusedVariables false
open Go Go.Av Go.RowKit
namespace Go.Av
variable[Tr]
section
variable{c:Cx}{k:List It}{e:Env}{s:List Blk}{f:FuncId}{args:List AV}{d:Option Tmp}{all os:List Oper}
theorem zgB(h:run true true c.fn.ntmps c 300 k e s):AWp c k e s:=goB rfl 300 h
theorem zpB{r:AV}(hc:Pc c.P f args (·=r))(h:run true true c.fn.ntmps c 300 (.ops all os::k) (put e d r) s)(ha:args.all nr1=true:=by rfl)(hd:dOk c.fn.ntmps d=true:=by rfl):AdY c f args d all os k e s:=AcS hc ha rfl hd (zgB h)
theorem zqB{g:Std}(hg:Le g c.w c.ρ){r:AV}(hc:PcH c.P g f args (·=r))(h:run true true c.fn.ntmps c 300 (.ops all os::k) (put e d r) s)(ha:args.all nr1=true:=by rfl)(hd:dOk c.fn.ntmps d=true:=by rfl):AdY c f args d all os k e s:=AtJ hg hc ha rfl hd (zgB h)
theorem zgF(h:run false true c.fn.ntmps c 300 k e s):AWp c k e s:=goF rfl 300 h
theorem zpF{r:AV}(hc:Pc c.P f args (·=r))(h:run false true c.fn.ntmps c 300 (.ops all os::k) (put e d r) s)(ha:args.all nr1=true:=by rfl)(hd:dOk c.fn.ntmps d=true:=by rfl):AdY c f args d all os k e s:=AcS hc ha rfl hd (zgF h)
theorem zqF{g:Std}(hg:Le g c.w c.ρ){r:AV}(hc:PcH c.P g f args (·=r))(h:run false true c.fn.ntmps c 300 (.ops all os::k) (put e d r) s)(ha:args.all nr1=true:=by rfl)(hd:dOk c.fn.ntmps d=true:=by rfl):AdY c f args d all os k e s:=AtJ hg hc ha rfl hd (zgF h)
theorem zgN(h:run false false c.fn.ntmps c 300 k e s):AWp c k e s:=go rfl 300 h
theorem zpN{r:AV}(hc:Pc c.P f args (·=r))(h:run false false c.fn.ntmps c 300 (.ops all os::k) (put e d r) s)(ha:args.all nr1=true:=by rfl)(hd:dOk c.fn.ntmps d=true:=by rfl):AdY c f args d all os k e s:=AcS hc ha rfl hd (zgN h)
theorem zqN{g:Std}(hg:Le g c.w c.ρ){r:AV}(hc:PcH c.P g f args (·=r))(h:run false false c.fn.ntmps c 300 (.ops all os::k) (put e d r) s)(ha:args.all nr1=true:=by rfl)(hd:dOk c.fn.ntmps d=true:=by rfl):AdY c f args d all os k e s:=AtJ hg hc ha rfl hd (zgN h)
theorem zgW(h:run true false c.fn.ntmps c 300 k e s):AWp c k e s:=goW rfl 300 h
theorem zpW{r:AV}(hc:Pc c.P f args (·=r))(h:run true false c.fn.ntmps c 300 (.ops all os::k) (put e d r) s)(ha:args.all nr1=true:=by rfl)(hd:dOk c.fn.ntmps d=true:=by rfl):AdY c f args d all os k e s:=AcS hc ha rfl hd (zgW h)
theorem za{post:AV->List Blk->Prop}(hc:Ct c.P f args s post)(hk:∀ r s',post r s'->AWp c (.ops all os::k) (put e d r) s')(hd:dOk c.fn.ntmps d=true:=by rfl):AdY c f args d all os k e s:=A7A hc rfl hd hk
theorem zaH{g:Std}(hg:Le g c.w c.ρ){post:AV->List Blk->Prop}(hc:CtH c.P g f args s post)(hk:∀ r s',post r s'->AWp c (.ops all os::k) (put e d r) s')(hd:dOk c.fn.ntmps d=true:=by rfl):AdY c f args d all os k e s:=AwL hg hc rfl hd hk
theorem zm(id:Nat){es:Nat}{agg:AV}{post:AV->AV->Prop}(hc:Mc c.P f es agg args post)(hk:∀ r agg',post r agg'->AWp c (.ops all os::k) (put e d r) (s.set id (.arr es [agg'])))(ha:args.all nr1=true:=by rfl)(hg:nr1 agg=true:=by rfl)(hid:s[id]?=some (.arr es [agg]):=by rfl)(hd:dOk c.fn.ntmps d=true:=by rfl):AdY c f (.ptr id 1 0 0::args) d all os k e s:=mcall hc ha hg hid rfl hd hk
theorem zmH(id:Nat){g:Std}(hle:Le g c.w c.ρ){es:Nat}{agg:AV}{post:AV->AV->Prop}(hc:McH c.P g f es agg args post)(hk:∀ r agg',post r agg'->AWp c (.ops all os::k) (put e d r) (s.set id (.arr es [agg'])))(ha:args.all nr1=true:=by rfl)(hg:nr1 agg=true:=by rfl)(hid:s[id]?=some (.arr es [agg]):=by rfl)(hd:dOk c.fn.ntmps d=true:=by rfl):AdY c f (.ptr id 1 0 0::args) d all os k e s:=BsI hle hc ha hg hid rfl hd hk
theorem zr(cs:List AV){id:Nat}{ops:List Oper}(hm:c.P.follows .mixedOrders=true)(h:dx c ops k 100 ops cs e s)(hok:A3V ops=true:=by decide)(hdst:ops.all (fun o=>dOk c.fn.ntmps o.dst)=true:=by rfl):AWp c (.code (.region id ops.toArray true)::k) e s:=BsG cs hm hok rfl hdst 100 h
end
theorem zcIB{P:Program}{f:FuncId}{fn:Func}{body:Code}{args:List AV}{sto:List Blk}{post:AV->List Blk->Prop}(hf:P.funcs[f]?=some fn)(hb:fn.body=some body)(h:∀ h ρ w,run true true fn.ntmps ⟨P,fn,h,ρ,sto,w,post,X0,stb0⟩ 300 [.code body] (args0 0 args) sto)(ha:Nat.ble args.length fn.ntmps=true:=by rfl)(hx:AaB P f=true:=by kernel_rfl):Ct P f args sto post:=AaV hf hb rfl hx (Nat.le_of_ble_eq_true ha) fun a b c=>zgB (h a b c)
theorem zdIB{P:Program}{g:Std}{f:FuncId}{fn:Func}{body:Code}{args:List AV}{sto:List Blk}{post:AV->List Blk->Prop}(hf:P.funcs[f]?=some fn)(hb:fn.body=some body)(h:∀ h ρ w,Le g w ρ->run true true fn.ntmps ⟨P,fn,h,ρ,sto,w,post,X0,stb0⟩ 300 [.code body] (args0 0 args) sto)(ha:Nat.ble args.length fn.ntmps=true:=by rfl)(hx:AaB P f=true:=by kernel_rfl):CtH P g f args sto post:=AcN hf hb rfl hx (Nat.le_of_ble_eq_true ha) fun a b c d=>zgB (h a b c d)
theorem zpIB{P:Program}{f:FuncId}{fn:Func}{body:Code}{args:List AV}{post:AV->Prop}(hf:P.funcs[f]?=some fn)(hb:fn.body=some body)(h:∀ h ρ w,run true true fn.ntmps ⟨P,fn,h,ρ,[],w,fun r _=>post r/\nr2 r=true,X0,stb0⟩ 300 [.code body] (args0 0 args) [])(ha:Nat.ble args.length fn.ntmps=true:=by rfl)(hx:AaB P f=true:=by kernel_rfl):Pc P f args post:=AbM (zcIB hf hb h ha hx)
theorem zqIB{P:Program}{g:Std}{f:FuncId}{fn:Func}{body:Code}{args:List AV}{post:AV->Prop}(hf:P.funcs[f]?=some fn)(hb:fn.body=some body)(h:∀ h ρ w,Le g w ρ->run true true fn.ntmps ⟨P,fn,h,ρ,[],w,fun r _=>post r/\nr2 r=true,X0,stb0⟩ 300 [.code body] (args0 0 args) [])(ha:Nat.ble args.length fn.ntmps=true:=by rfl)(hx:AaB P f=true:=by kernel_rfl):PcH P g f args post:=AcF (zdIB hf hb h ha hx)
theorem zcIF{P:Program}{f:FuncId}{fn:Func}{body:Code}{args:List AV}{sto:List Blk}{post:AV->List Blk->Prop}(hf:P.funcs[f]?=some fn)(hb:fn.body=some body)(h:∀ h ρ w,run false true fn.ntmps ⟨P,fn,h,ρ,sto,w,post,X0,stb0⟩ 300 [.code body] (args0 0 args) sto)(ha:Nat.ble args.length fn.ntmps=true:=by rfl)(hx:AaB P f=true:=by kernel_rfl):Ct P f args sto post:=AaV hf hb rfl hx (Nat.le_of_ble_eq_true ha) fun a b c=>zgF (h a b c)
theorem zdIF{P:Program}{g:Std}{f:FuncId}{fn:Func}{body:Code}{args:List AV}{sto:List Blk}{post:AV->List Blk->Prop}(hf:P.funcs[f]?=some fn)(hb:fn.body=some body)(h:∀ h ρ w,Le g w ρ->run false true fn.ntmps ⟨P,fn,h,ρ,sto,w,post,X0,stb0⟩ 300 [.code body] (args0 0 args) sto)(ha:Nat.ble args.length fn.ntmps=true:=by rfl)(hx:AaB P f=true:=by kernel_rfl):CtH P g f args sto post:=AcN hf hb rfl hx (Nat.le_of_ble_eq_true ha) fun a b c d=>zgF (h a b c d)
theorem zpIF{P:Program}{f:FuncId}{fn:Func}{body:Code}{args:List AV}{post:AV->Prop}(hf:P.funcs[f]?=some fn)(hb:fn.body=some body)(h:∀ h ρ w,run false true fn.ntmps ⟨P,fn,h,ρ,[],w,fun r _=>post r/\nr2 r=true,X0,stb0⟩ 300 [.code body] (args0 0 args) [])(ha:Nat.ble args.length fn.ntmps=true:=by rfl)(hx:AaB P f=true:=by kernel_rfl):Pc P f args post:=AbM (zcIF hf hb h ha hx)
theorem zqIF{P:Program}{g:Std}{f:FuncId}{fn:Func}{body:Code}{args:List AV}{post:AV->Prop}(hf:P.funcs[f]?=some fn)(hb:fn.body=some body)(h:∀ h ρ w,Le g w ρ->run false true fn.ntmps ⟨P,fn,h,ρ,[],w,fun r _=>post r/\nr2 r=true,X0,stb0⟩ 300 [.code body] (args0 0 args) [])(ha:Nat.ble args.length fn.ntmps=true:=by rfl)(hx:AaB P f=true:=by kernel_rfl):PcH P g f args post:=AcF (zdIF hf hb h ha hx)
theorem zcIN{P:Program}{f:FuncId}{fn:Func}{body:Code}{args:List AV}{sto:List Blk}{post:AV->List Blk->Prop}(hf:P.funcs[f]?=some fn)(hb:fn.body=some body)(h:∀ h ρ w,run false false fn.ntmps ⟨P,fn,h,ρ,sto,w,post,X0,stb0⟩ 300 [.code body] (args0 0 args) sto)(ha:Nat.ble args.length fn.ntmps=true:=by rfl)(hx:AaB P f=true:=by kernel_rfl):Ct P f args sto post:=AaV hf hb rfl hx (Nat.le_of_ble_eq_true ha) fun a b c=>zgN (h a b c)
theorem zdIN{P:Program}{g:Std}{f:FuncId}{fn:Func}{body:Code}{args:List AV}{sto:List Blk}{post:AV->List Blk->Prop}(hf:P.funcs[f]?=some fn)(hb:fn.body=some body)(h:∀ h ρ w,Le g w ρ->run false false fn.ntmps ⟨P,fn,h,ρ,sto,w,post,X0,stb0⟩ 300 [.code body] (args0 0 args) sto)(ha:Nat.ble args.length fn.ntmps=true:=by rfl)(hx:AaB P f=true:=by kernel_rfl):CtH P g f args sto post:=AcN hf hb rfl hx (Nat.le_of_ble_eq_true ha) fun a b c d=>zgN (h a b c d)
theorem zpIN{P:Program}{f:FuncId}{fn:Func}{body:Code}{args:List AV}{post:AV->Prop}(hf:P.funcs[f]?=some fn)(hb:fn.body=some body)(h:∀ h ρ w,run false false fn.ntmps ⟨P,fn,h,ρ,[],w,fun r _=>post r/\nr2 r=true,X0,stb0⟩ 300 [.code body] (args0 0 args) [])(ha:Nat.ble args.length fn.ntmps=true:=by rfl)(hx:AaB P f=true:=by kernel_rfl):Pc P f args post:=AbM (zcIN hf hb h ha hx)
theorem zqIN{P:Program}{g:Std}{f:FuncId}{fn:Func}{body:Code}{args:List AV}{post:AV->Prop}(hf:P.funcs[f]?=some fn)(hb:fn.body=some body)(h:∀ h ρ w,Le g w ρ->run false false fn.ntmps ⟨P,fn,h,ρ,[],w,fun r _=>post r/\nr2 r=true,X0,stb0⟩ 300 [.code body] (args0 0 args) [])(ha:Nat.ble args.length fn.ntmps=true:=by rfl)(hx:AaB P f=true:=by kernel_rfl):PcH P g f args post:=AcF (zdIN hf hb h ha hx)
theorem zt{c:Cx}{e:Env}{s:List Blk}(ts:List Tmp)(hr:c.fn.results=(ts.map ResultVar.tmp).toArray:=by rfl)(hp:c.post (resV e ts) s:=by exact⟨rfl,rfl⟩):ARet c e s:=aret ts hr hp
end Go.Av
namespace Go.Proofs.YtlldmgboedknfaaGreatDoor
open Go Go.Av Go.RowKit _root_.Go.Proofs.Tryz
theorem mixed:prog.follows .mixedOrders=true:=by kernel_rfl
theorem hB22:AaB prog 22=true:=by kernel_rfl
theorem hB27:AaB prog 27=true:=by kernel_rfl
theorem hB31:AaB prog 31=true:=by kernel_rfl
theorem hB33:AaB prog 33=true:=by kernel_rfl
theorem hB35:AaB prog 35=true:=by kernel_rfl
theorem hB37:AaB prog 37=true:=by kernel_rfl
theorem hB38:AaB prog 38=true:=by kernel_rfl
theorem hB47:AaB prog 47=true:=by kernel_rfl
theorem hB52:AaB prog 52=true:=by kernel_rfl
theorem hB53:AaB prog 53=true:=by kernel_rfl
theorem hB54:AaB prog 54=true:=by kernel_rfl
theorem hB61:AaB prog 61=true:=by kernel_rfl
theorem hB65:AaB prog 65=true:=by kernel_rfl
theorem hB73:AaB prog 73=true:=by kernel_rfl
theorem hB78:AaB prog 78=true:=by kernel_rfl
theorem hB79:AaB prog 79=true:=by kernel_rfl
theorem hB80:AaB prog 80=true:=by kernel_rfl
theorem hB81:AaB prog 81=true:=by kernel_rfl
theorem hB86:AaB prog 86=true:=by kernel_rfl
theorem hB88:AaB prog 88=true:=by kernel_rfl
theorem hB89:AaB prog 89=true:=by kernel_rfl
theorem hB92:AaB prog 92=true:=by kernel_rfl
theorem hB94:AaB prog 94=true:=by kernel_rfl
theorem hB100:AaB prog 100=true:=by kernel_rfl
theorem hB101:AaB prog 101=true:=by kernel_rfl
theorem hB105:AaB prog 105=true:=by kernel_rfl
theorem hB106:AaB prog 106=true:=by kernel_rfl
theorem hB107:AaB prog 107=true:=by kernel_rfl
theorem hB109:AaB prog 109=true:=by kernel_rfl
theorem hB110:AaB prog 110=true:=by kernel_rfl
theorem hB113:AaB prog 113=true:=by kernel_rfl
theorem hB116:AaB prog 116=true:=by kernel_rfl
theorem hB119:AaB prog 119=true:=by kernel_rfl
theorem hB120:AaB prog 120=true:=by kernel_rfl
theorem hB129:AaB prog 129=true:=by kernel_rfl
theorem hB134:AaB prog 134=true:=by kernel_rfl
theorem hB137:AaB prog 137=true:=by kernel_rfl
theorem hB144:AaB prog 144=true:=by kernel_rfl
theorem hB150:AaB prog 150=true:=by kernel_rfl
theorem hB152:AaB prog 152=true:=by kernel_rfl
theorem hB155:AaB prog 155=true:=by kernel_rfl
theorem hB158:AaB prog 158=true:=by kernel_rfl
theorem hB159:AaB prog 159=true:=by kernel_rfl
theorem hB187:AaB prog 187=true:=by kernel_rfl
theorem hB195:AaB prog 195=true:=by kernel_rfl
theorem hB196:AaB prog 196=true:=by kernel_rfl
theorem hB197:AaB prog 197=true:=by kernel_rfl
theorem hB225:AaB prog 225=true:=by kernel_rfl
theorem hB232:AaB prog 232=true:=by kernel_rfl
theorem ts2:tsize prog 2=1:=by kernel_rfl
theorem ts3:tsize prog 3=1:=by kernel_rfl
theorem tb3:tbytes prog 3=8:=by kernel_rfl
theorem za3:zav prog 3=[.int .i64 0]:=by kernel_rfl
theorem ts4:tsize prog 4=1:=by kernel_rfl
theorem zv4:zval prog 4=.bool false:=by kernel_rfl
theorem zk4:zok prog 4=true:=by kernel_rfl
theorem ts5:tsize prog 5=1:=by kernel_rfl
theorem tb5:tbytes prog 5=1:=by kernel_rfl
theorem za5:zav prog 5=[.int .u8 0]:=by kernel_rfl
theorem fl7:Go.Av.AaX prog 7=true:=by kernel_rfl
theorem fl8:Go.Av.AaX prog 8=true:=by kernel_rfl
theorem ts9:tsize prog 9=1:=by kernel_rfl
theorem tb9:tbytes prog 9=16:=by kernel_rfl
theorem zv9:zval prog 9=.str []:=by kernel_rfl
theorem zk9:zok prog 9=true:=by kernel_rfl
theorem za9:zav prog 9=[.str []]:=by kernel_rfl
theorem fl13:Go.Av.AaX prog 13=true:=by kernel_rfl
theorem fl14:Go.Av.AaX prog 14=true:=by kernel_rfl
theorem fl18:Go.Av.AaX prog 18=true:=by kernel_rfl
theorem fl19:Go.Av.AaX prog 19=true:=by kernel_rfl
theorem ts21:tsize prog 21=1:=by kernel_rfl
theorem ts22:tsize prog 22=1:=by kernel_rfl
theorem ts24:tsize prog 24=2:=by kernel_rfl
theorem fl24:Go.Av.AaX prog 24=true:=by kernel_rfl
theorem ts25:tsize prog 25=2:=by kernel_rfl
theorem za25:zav prog 25=[.raw (.slice none 0 0),.int .i64 0]:=by kernel_rfl
theorem fl25:Go.Av.AaX prog 25=true:=by kernel_rfl
theorem ts26:tsize prog 26=1:=by kernel_rfl
theorem ts27:tsize prog 27=2:=by kernel_rfl
theorem fl27:Go.Av.AaX prog 27=true:=by kernel_rfl
theorem ts28:tsize prog 28=2:=by kernel_rfl
theorem za28:zav prog 28=[.str [],.raw (.slice none 0 0)]:=by kernel_rfl
theorem fl28:Go.Av.AaX prog 28=true:=by kernel_rfl
theorem ts29:tsize prog 29=1:=by kernel_rfl
theorem tb29:tbytes prog 29=24:=by kernel_rfl
theorem za29:zav prog 29=[.raw (.slice none 0 0)]:=by kernel_rfl
theorem ts30:tsize prog 30=1:=by kernel_rfl
theorem ts31:tsize prog 31=5:=by kernel_rfl
theorem fl31:Go.Av.AaX prog 31=false:=by kernel_rfl
theorem lf31:Go.Av.leafTs prog 4 31=[3,9,26,29,30]:=by kernel_rfl
theorem ts32:tsize prog 32=5:=by kernel_rfl
theorem za32:zav prog 32=[.int .i64 0,.str [],.raw (.slice none 0 0),.raw (.slice none 0 0),.raw (.slice none 0 0)]:=by kernel_rfl
theorem fl32:Go.Av.AaX prog 32=false:=by kernel_rfl
theorem lf32:Go.Av.leafTs prog 4 32=[3,9,26,29,30]:=by kernel_rfl
theorem ts33:tsize prog 33=1:=by kernel_rfl
theorem ts39:tsize prog 39=1:=by kernel_rfl
theorem ts40:tsize prog 40=4:=by kernel_rfl
theorem fl40:Go.Av.AaX prog 40=true:=by kernel_rfl
theorem ts41:tsize prog 41=4:=by kernel_rfl
theorem tb41:tbytes prog 41=64:=by kernel_rfl
theorem zv41:zval prog 41=.agg [.str [],.int .i64 0,.str [],.raw (.slice none 0 0)]:=by kernel_rfl
theorem zk41:zok prog 41=true:=by kernel_rfl
theorem za41:zav prog 41=[.str [],.int .i64 0,.str [],.raw (.slice none 0 0)]:=by kernel_rfl
theorem fl41:Go.Av.AaX prog 41=true:=by kernel_rfl
theorem ts49:tsize prog 49=3:=by kernel_rfl
theorem fl49:Go.Av.AaX prog 49=true:=by kernel_rfl
theorem ts50:tsize prog 50=3:=by kernel_rfl
theorem za50:zav prog 50=[.int .i64 0,.raw (.slice none 0 0),.raw (.slice none 0 0)]:=by kernel_rfl
theorem fl50:Go.Av.AaX prog 50=true:=by kernel_rfl
theorem ts69:tsize prog 69=1:=by kernel_rfl
theorem ts70:tsize prog 70=5:=by kernel_rfl
theorem fl70:Go.Av.AaX prog 70=true:=by kernel_rfl
theorem ts71:tsize prog 71=5:=by kernel_rfl
theorem tb71:tbytes prog 71=72:=by kernel_rfl
theorem zv71:zval prog 71=.agg [.str [],.int .i64 0,.str [],.int .i64 0,.raw (.slice none 0 0)]:=by kernel_rfl
theorem zk71:zok prog 71=true:=by kernel_rfl
theorem za71:zav prog 71=[.str [],.int .i64 0,.str [],.int .i64 0,.raw (.slice none 0 0)]:=by kernel_rfl
theorem fl71:Go.Av.AaX prog 71=true:=by kernel_rfl
theorem ts73:tsize prog 73=1:=by kernel_rfl
theorem ts87:tsize prog 87=1:=by kernel_rfl
theorem ts89:tsize prog 89=1:=by kernel_rfl
theorem ts101:tsize prog 101=1:=by kernel_rfl
theorem ts102:tsize prog 102=1:=by kernel_rfl
theorem ts103:tsize prog 103=1:=by kernel_rfl
theorem ts106:tsize prog 106=4:=by kernel_rfl
theorem fl106:Go.Av.AaX prog 106=true:=by kernel_rfl
theorem ts107:tsize prog 107=4:=by kernel_rfl
theorem tb107:tbytes prog 107=72:=by kernel_rfl
theorem za107:zav prog 107=[.int .i64 0,.raw (.slice none 0 0),.raw (.slice none 0 0),.str []]:=by kernel_rfl
theorem fl107:Go.Av.AaX prog 107=true:=by kernel_rfl
theorem ts109:tsize prog 109=3:=by kernel_rfl
theorem fl109:Go.Av.AaX prog 109=true:=by kernel_rfl
theorem ts110:tsize prog 110=3:=by kernel_rfl
theorem za110:zav prog 110=[.raw (.slice none 0 0),.raw (.slice none 0 0),.raw (.slice none 0 0)]:=by kernel_rfl
theorem fl110:Go.Av.AaX prog 110=true:=by kernel_rfl
theorem ts116:tsize prog 116=1:=by kernel_rfl
theorem ts124:tsize prog 124=1:=by kernel_rfl
theorem ts126:tsize prog 126=2:=by kernel_rfl
theorem tb126:tbytes prog 126=16:=by kernel_rfl
theorem za126:zav prog 126=[.int .i64 0,.int .i64 0]:=by kernel_rfl
theorem ts137:tsize prog 137=3:=by kernel_rfl
theorem fl137:Go.Av.AaX prog 137=false:=by kernel_rfl
theorem lf137:Go.Av.leafTs prog 4 137=[9,26,3]:=by kernel_rfl
theorem ts138:tsize prog 138=3:=by kernel_rfl
theorem za138:zav prog 138=[.str [],.raw (.slice none 0 0),.int .i64 0]:=by kernel_rfl
theorem fl138:Go.Av.AaX prog 138=false:=by kernel_rfl
theorem lf138:Go.Av.leafTs prog 4 138=[9,26,3]:=by kernel_rfl
theorem ts140:tsize prog 140=1:=by kernel_rfl
theorem ts144:tsize prog 144=1:=by kernel_rfl
theorem ts145:tsize prog 145=2:=by kernel_rfl
theorem fl145:Go.Av.AaX prog 145=true:=by kernel_rfl
theorem ts146:tsize prog 146=2:=by kernel_rfl
theorem za146:zav prog 146=[.raw (.pointer none),.raw (.slice none 0 0)]:=by kernel_rfl
theorem fl146:Go.Av.AaX prog 146=true:=by kernel_rfl
theorem ts154:tsize prog 154=2:=by kernel_rfl
theorem fl154:Go.Av.AaX prog 154=true:=by kernel_rfl
theorem ts155:tsize prog 155=2:=by kernel_rfl
theorem za155:zav prog 155=[.int .i64 0,.str []]:=by kernel_rfl
theorem fl155:Go.Av.AaX prog 155=true:=by kernel_rfl
theorem ts161:tsize prog 161=2:=by kernel_rfl
theorem fl161:Go.Av.AaX prog 161=true:=by kernel_rfl
theorem ts162:tsize prog 162=2:=by kernel_rfl
theorem tb162:tbytes prog 162=24:=by kernel_rfl
theorem za162:zav prog 162=[.int .i64 0,.str []]:=by kernel_rfl
theorem fl162:Go.Av.AaX prog 162=true:=by kernel_rfl
theorem ts178:tsize prog 178=1:=by kernel_rfl
theorem ts181:tsize prog 181=1:=by kernel_rfl
theorem ts184:tsize prog 184=1:=by kernel_rfl
theorem ts192:tsize prog 192=1:=by kernel_rfl
theorem ts195:tsize prog 195=1:=by kernel_rfl
theorem ts204:tsize prog 204=24:=by kernel_rfl
theorem ts215:tsize prog 215=1:=by kernel_rfl
theorem ts226:tsize prog 226=1:=by kernel_rfl
theorem ts230:tsize prog 230=1:=by kernel_rfl
theorem ts234:tsize prog 234=1:=by kernel_rfl
theorem ts237:tsize prog 237=20:=by kernel_rfl
theorem ts245:tsize prog 245=3:=by kernel_rfl
theorem fl245:Go.Av.AaX prog 245=true:=by kernel_rfl
theorem ts246:tsize prog 246=3:=by kernel_rfl
theorem fl246:Go.Av.AaX prog 246=true:=by kernel_rfl
theorem ts255:tsize prog 255=1:=by kernel_rfl
theorem fl255:Go.Av.AaX prog 255=true:=by kernel_rfl
theorem ts256:tsize prog 256=1:=by kernel_rfl
theorem fl256:Go.Av.AaX prog 256=true:=by kernel_rfl
theorem ts259:tsize prog 259=32:=by kernel_rfl
theorem ts260:tsize prog 260=64:=by kernel_rfl
theorem ts262:tsize prog 262=2:=by kernel_rfl
theorem fl262:Go.Av.AaX prog 262=true:=by kernel_rfl
theorem ts263:tsize prog 263=2:=by kernel_rfl
theorem fl263:Go.Av.AaX prog 263=true:=by kernel_rfl
theorem ts264:tsize prog 264=32:=by kernel_rfl
theorem fl265:Go.Av.AaX prog 265=true:=by kernel_rfl
theorem fl266:Go.Av.AaX prog 266=true:=by kernel_rfl
theorem fl275:Go.Av.AaX prog 275=true:=by kernel_rfl
theorem fl276:Go.Av.AaX prog 276=true:=by kernel_rfl
end Go.Proofs.YtlldmgboedknfaaGreatDoor
namespace Go.Proofs
open Go.Shelf _root_.Go.Proofs.Tryz
theorem Tryz.Builder_Extra_169:Builder.Extra prog Tryz.lays169_ren:={
 sizeBuilder:=by kernel_rfl
 liesBuilder:=by kernel_rfl
 t5:=underlying5
 a5:=Tryz.isAgg5
 z5:=Tryz.sizeOf5
 v5:=Tryz.zeroValue5
 infoByte:=by kernel_rfl
 cellsByte:=by kernel_rfl
 sizeByte:=by kernel_rfl
 neB5:=by decide }
theorem Tryz.Builder_Extra_105:Builder.Extra prog Tryz.lays105_ren:={
 sizeBuilder:=by kernel_rfl
 liesBuilder:=by kernel_rfl
 t5:=underlying5
 a5:=Tryz.isAgg5
 z5:=Tryz.sizeOf5
 v5:=Tryz.zeroValue5
 infoByte:=by kernel_rfl
 cellsByte:=by kernel_rfl
 sizeByte:=by kernel_rfl
 neB5:=by decide }
end Go.Proofs
set_option linter.unusedSimpArgs false
namespace Go.Proofs.YtlldmgboedknfaaGreatDoor
open Go Go.Av Go.RowKit
structure LibOk(S:Std):Prop where
 maxlen:∃ m cs t z,S 0=some (.cells cs t z)/\cs[0]? = some (.int .i64 m)
 pow10:∃ t z,S 1=some (.cells (Lib.pow10Tab.map fun z=>Value.int .u64 z).toArray t z)
 syn:∃ te pe t z,S 2=some (.cells #[.iface te pe] t z)
theorem LibOk.cell{S:Std}(hS:LibOk S):∃ m,∀ w,AwK S w->w.cell? ⟨Tryz.lays144_ren.g 1,0,none⟩=some (.int .i64 m):=by
 obtain⟨m,cs,t,z,h,h0⟩:=hS.maxlen;exact⟨m,fun w hw=>(Lib.cell_of_heap (hw _ _ h) 0).trans h0⟩
end Go.Proofs.YtlldmgboedknfaaGreatDoor
set_option linter.unusedSectionVars false
namespace Go.Av
open Go Go.RowKit Go.WideShapes Go.ChangeShapes
variable [Tr]
theorem Same.below{W W':World}(s:Same W W'):Below W.heap.size W W':=⟨s.os,s.tape,s.output.1,s.size,s.block⟩
theorem BoQ{h:Mem}{v:Value}{b:Bool}(r:RV h Lf0 true v (.bool b)):v=.bool b:=by
 cases r with
 | bool=>rfl
section
variable {H:Type}{enc:TypeId×Value->H}{P:Program}
theorem A1A{f:Func}{s:ChangeSpec}{apart fresh handsOn again:Bool}{W W':World}{args:Array Value}{v:Value}{ds gs:List (DataW H)}{before pa pv:List MemPlace}
  (hW:DataW.Whole enc P f.params.toList s.vars apart W args.toList ds gs before)
  (hres:∀ (b:Nat) (sp:Nat->Bool) (hd:Bool),DataW.TrodAll enc P W' b sp hd f.resultTypes.toList (v.resultList f.resultTypes.size) (s.fn H (ds++gs)).results [])
  (hargs:∀ sp:Nat->Bool,(∀ p∈before,sp p.block=true)->DataW.TrodAll enc P W' 0 sp true f.params.toList args.toList (s.fn H (ds++gs)).args pa)
  (hvars:∀ sp:Nat->Bool,(∀ p∈before,sp p.block=true)->DataW.TrodVars enc P W' sp s.vars (s.fn H (ds++gs)).vars pv)
  (hps:before=pa++pv) (hs:Same W W')
  (hok:∀ (j:Nat) (t:TypeId) (r:Value),f.resultTypes[j]? = some t->(v.resultList f.resultTypes.size)[j]? = some r->Value.okWide P W' .any 0 t r) :
  s.post enc P f apart fresh handsOn again W args v W':=by
 have hb:=hs.below;have hlt:∀ p∈before,p.block<W.heap.size:=fun p hp=>hW.lt p hp
 have hold:∀ p∈before,(fun b=>decide (b<W.heap.size)) p.block=true:=fun p hp=>decide_eq_true (hlt p hp)
 have hwritten:∀ p∈before,p∈before/\(p∈([]:List MemPlace)++pa\/p∈pv):=fun p hp=>⟨hp,by rw[hps]at hp; simpa using hp⟩
 refine⟨ds,gs,before,[],pa,pv,hW,hres _ _ _,hargs _ hold,hvars _ hold,World.keptBut_mono (fun p hp=>⟨hp,?_⟩) (hb.frame (·∈before)),fun _=>?_⟩
 .have:=(hwritten p hp).2
  simpa using this
 .obtain ⟨_,_,_,_,_,hz,hn⟩:=hW
  refine⟨hok,_,_,([]++pa)++pv,⟨[]++pa,pv,trodAll_append (hargs _ (fun _ _=>rfl)) (hres _ _ _),hvars _ (fun _ _=>rfl),rfl,?_,?_⟩,?_⟩
  .intro b off hp
   have hin:MemPlace.cell b off∈before:=by rw[hps]; simpa using hp
   rw[hb.frozen (hlt _ hin)];exact hz b off hin
  .intro ha
   have h2:=hn ha;rw[hps]at h2
   simpa using h2
  .intro p hp _
   rw[hps]
   simpa using hp
end
