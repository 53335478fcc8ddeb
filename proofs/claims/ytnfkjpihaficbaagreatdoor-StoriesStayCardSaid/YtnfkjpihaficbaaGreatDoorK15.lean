/- Closed facts of this seat's program, written by a program of this seat: which functions. -/
import Derived.Test.YtnfkjpihaficbaaGreatDoorK14
set_option maxRecDepth 100000
set_option linter.unusedVariables false
open Go Go.Av Go.RowKit
namespace Go.Av
variable[Tr]
section
variable{c:Cx}{k:List It}{e:Env}{s:List Blk}{f:FuncId}{args:List AV}{d:Option Tmp}{all os:List Oper}
theorem zgB(h:run true true c.fn.ntmps c 300 k e s):AWp c k e s:=goB rfl 300 h
theorem zpB{r:AV}(hc:Pc c.P f args (·=r))(h:run true true c.fn.ntmps c 300 (.ops all os::k) (put e d r) s)(ha:args.all nr1=true:=by rfl)(hd:dOk c.fn.ntmps d=true:=by rfl):AdX c f args d all os k e s:=AdS hc ha rfl hd (zgB h)
theorem zqB{g:Std}(hg:Le g c.w c.ρ){r:AV}(hc:PcH c.P g f args (·=r))(h:run true true c.fn.ntmps c 300 (.ops all os::k) (put e d r) s)(ha:args.all nr1=true:=by rfl)(hd:dOk c.fn.ntmps d=true:=by rfl):AdX c f args d all os k e s:=AqR hg hc ha rfl hd (zgB h)
theorem zgF(h:run false true c.fn.ntmps c 300 k e s):AWp c k e s:=goF rfl 300 h
theorem zpF{r:AV}(hc:Pc c.P f args (·=r))(h:run false true c.fn.ntmps c 300 (.ops all os::k) (put e d r) s)(ha:args.all nr1=true:=by rfl)(hd:dOk c.fn.ntmps d=true:=by rfl):AdX c f args d all os k e s:=AdS hc ha rfl hd (zgF h)
theorem zqF{g:Std}(hg:Le g c.w c.ρ){r:AV}(hc:PcH c.P g f args (·=r))(h:run false true c.fn.ntmps c 300 (.ops all os::k) (put e d r) s)(ha:args.all nr1=true:=by rfl)(hd:dOk c.fn.ntmps d=true:=by rfl):AdX c f args d all os k e s:=AqR hg hc ha rfl hd (zgF h)
theorem zgN(h:run false false c.fn.ntmps c 300 k e s):AWp c k e s:=go rfl 300 h
theorem zpN{r:AV}(hc:Pc c.P f args (·=r))(h:run false false c.fn.ntmps c 300 (.ops all os::k) (put e d r) s)(ha:args.all nr1=true:=by rfl)(hd:dOk c.fn.ntmps d=true:=by rfl):AdX c f args d all os k e s:=AdS hc ha rfl hd (zgN h)
theorem zqN{g:Std}(hg:Le g c.w c.ρ){r:AV}(hc:PcH c.P g f args (·=r))(h:run false false c.fn.ntmps c 300 (.ops all os::k) (put e d r) s)(ha:args.all nr1=true:=by rfl)(hd:dOk c.fn.ntmps d=true:=by rfl):AdX c f args d all os k e s:=AqR hg hc ha rfl hd (zgN h)
theorem za{post:AV->List Blk->Prop}(hc:Ct c.P f args s post)(hk:∀ r s',post r s'->AWp c (.ops all os::k) (put e d r) s')(hd:dOk c.fn.ntmps d=true:=by rfl):AdX c f args d all os k e s:=BhA hc rfl hd hk
theorem zaH{g:Std}(hg:Le g c.w c.ρ){post:AV->List Blk->Prop}(hc:CtH c.P g f args s post)(hk:∀ r s',post r s'->AWp c (.ops all os::k) (put e d r) s')(hd:dOk c.fn.ntmps d=true:=by rfl):AdX c f args d all os k e s:=A5O hg hc rfl hd hk
theorem ze{post:AV->Prop}(hc:Pc c.P f args post)(hk:∀ r,post r->AWp c (.ops all os::k) (put e d r) s)(ha:args.all nr1=true:=by rfl)(hd:dOk c.fn.ntmps d=true:=by rfl):AdX c f args d all os k e s:=BlC hc ha rfl hd hk
theorem zeH{g:Std}(hg:Le g c.w c.ρ){post:AV->Prop}(hc:PcH c.P g f args post)(hk:∀ r,post r->AWp c (.ops all os::k) (put e d r) s)(ha:args.all nr1=true:=by rfl)(hd:dOk c.fn.ntmps d=true:=by rfl):AdX c f args d all os k e s:=BfC hg hc ha rfl hd hk
theorem zm(id:Nat){es:Nat}{agg:AV}{post:AV->AV->Prop}(hc:Mc c.P f es agg args post)(hk:∀ r agg',post r agg'->AWp c (.ops all os::k) (put e d r) (s.set id (.arr es [agg'])))(ha:args.all nr1=true:=by rfl)(hg:nr1 agg=true:=by rfl)(hid:s[id]?=some (.arr es [agg]):=by rfl)(hd:dOk c.fn.ntmps d=true:=by rfl):AdX c f (.ptr id 1 0 0::args) d all os k e s:=mcall hc ha hg hid rfl hd hk
theorem zmH(id:Nat){g:Std}(hle:Le g c.w c.ρ){es:Nat}{agg:AV}{post:AV->AV->Prop}(hc:McH c.P g f es agg args post)(hk:∀ r agg',post r agg'->AWp c (.ops all os::k) (put e d r) (s.set id (.arr es [agg'])))(ha:args.all nr1=true:=by rfl)(hg:nr1 agg=true:=by rfl)(hid:s[id]?=some (.arr es [agg]):=by rfl)(hd:dOk c.fn.ntmps d=true:=by rfl):AdX c f (.ptr id 1 0 0::args) d all os k e s:=AtA hle hc ha hg hid rfl hd hk
theorem zr(cs:List AV){id:Nat}{ops:List Oper}(hm:c.P.follows .mixedOrders=true)(h:dx c ops k 100 ops cs e s)(hok:A5K ops=true:=by decide)(hdst:ops.all (fun o=>dOk c.fn.ntmps o.dst)=true:=by rfl):AWp c (.code (.region id ops.toArray true)::k) e s:=adraw cs hm hok rfl hdst 100 h
end
theorem zcIB{P:Program}{f:FuncId}{fn:Func}{body:Code}{args:List AV}{sto:List Blk}{post:AV->List Blk->Prop}(hf:P.funcs[f]?=some fn)(hb:fn.body=some body)(h:∀ h ρ w,run true true fn.ntmps ⟨P,fn,h,ρ,sto,w,post,X0,stb0⟩ 300 [.code body] (args0 0 args) sto)(ha:Nat.ble args.length fn.ntmps=true:=by rfl)(hx:AaB P f=true:=by kernel_rfl):Ct P f args sto post:=AbV hf hb rfl hx (Nat.le_of_ble_eq_true ha) fun a b c=>zgB (h a b c)
theorem zdIB{P:Program}{g:Std}{f:FuncId}{fn:Func}{body:Code}{args:List AV}{sto:List Blk}{post:AV->List Blk->Prop}(hf:P.funcs[f]?=some fn)(hb:fn.body=some body)(h:∀ h ρ w,Le g w ρ->run true true fn.ntmps ⟨P,fn,h,ρ,sto,w,post,X0,stb0⟩ 300 [.code body] (args0 0 args) sto)(ha:Nat.ble args.length fn.ntmps=true:=by rfl)(hx:AaB P f=true:=by kernel_rfl):CtH P g f args sto post:=AhW hf hb rfl hx (Nat.le_of_ble_eq_true ha) fun a b c d=>zgB (h a b c d)
theorem zpIB{P:Program}{f:FuncId}{fn:Func}{body:Code}{args:List AV}{post:AV->Prop}(hf:P.funcs[f]?=some fn)(hb:fn.body=some body)(h:∀ h ρ w,run true true fn.ntmps ⟨P,fn,h,ρ,[],w,fun r _=>post r/\nr2 r=true,X0,stb0⟩ 300 [.code body] (args0 0 args) [])(ha:Nat.ble args.length fn.ntmps=true:=by rfl)(hx:AaB P f=true:=by kernel_rfl):Pc P f args post:=AcF (zcIB hf hb h ha hx)
theorem zqIB{P:Program}{g:Std}{f:FuncId}{fn:Func}{body:Code}{args:List AV}{post:AV->Prop}(hf:P.funcs[f]?=some fn)(hb:fn.body=some body)(h:∀ h ρ w,Le g w ρ->run true true fn.ntmps ⟨P,fn,h,ρ,[],w,fun r _=>post r/\nr2 r=true,X0,stb0⟩ 300 [.code body] (args0 0 args) [])(ha:Nat.ble args.length fn.ntmps=true:=by rfl)(hx:AaB P f=true:=by kernel_rfl):PcH P g f args post:=AfG (zdIB hf hb h ha hx)
theorem zcIF{P:Program}{f:FuncId}{fn:Func}{body:Code}{args:List AV}{sto:List Blk}{post:AV->List Blk->Prop}(hf:P.funcs[f]?=some fn)(hb:fn.body=some body)(h:∀ h ρ w,run false true fn.ntmps ⟨P,fn,h,ρ,sto,w,post,X0,stb0⟩ 300 [.code body] (args0 0 args) sto)(ha:Nat.ble args.length fn.ntmps=true:=by rfl)(hx:AaB P f=true:=by kernel_rfl):Ct P f args sto post:=AbV hf hb rfl hx (Nat.le_of_ble_eq_true ha) fun a b c=>zgF (h a b c)
theorem zdIF{P:Program}{g:Std}{f:FuncId}{fn:Func}{body:Code}{args:List AV}{sto:List Blk}{post:AV->List Blk->Prop}(hf:P.funcs[f]?=some fn)(hb:fn.body=some body)(h:∀ h ρ w,Le g w ρ->run false true fn.ntmps ⟨P,fn,h,ρ,sto,w,post,X0,stb0⟩ 300 [.code body] (args0 0 args) sto)(ha:Nat.ble args.length fn.ntmps=true:=by rfl)(hx:AaB P f=true:=by kernel_rfl):CtH P g f args sto post:=AhW hf hb rfl hx (Nat.le_of_ble_eq_true ha) fun a b c d=>zgF (h a b c d)
theorem zpIF{P:Program}{f:FuncId}{fn:Func}{body:Code}{args:List AV}{post:AV->Prop}(hf:P.funcs[f]?=some fn)(hb:fn.body=some body)(h:∀ h ρ w,run false true fn.ntmps ⟨P,fn,h,ρ,[],w,fun r _=>post r/\nr2 r=true,X0,stb0⟩ 300 [.code body] (args0 0 args) [])(ha:Nat.ble args.length fn.ntmps=true:=by rfl)(hx:AaB P f=true:=by kernel_rfl):Pc P f args post:=AcF (zcIF hf hb h ha hx)
theorem zqIF{P:Program}{g:Std}{f:FuncId}{fn:Func}{body:Code}{args:List AV}{post:AV->Prop}(hf:P.funcs[f]?=some fn)(hb:fn.body=some body)(h:∀ h ρ w,Le g w ρ->run false true fn.ntmps ⟨P,fn,h,ρ,[],w,fun r _=>post r/\nr2 r=true,X0,stb0⟩ 300 [.code body] (args0 0 args) [])(ha:Nat.ble args.length fn.ntmps=true:=by rfl)(hx:AaB P f=true:=by kernel_rfl):PcH P g f args post:=AfG (zdIF hf hb h ha hx)
theorem zcIN{P:Program}{f:FuncId}{fn:Func}{body:Code}{args:List AV}{sto:List Blk}{post:AV->List Blk->Prop}(hf:P.funcs[f]?=some fn)(hb:fn.body=some body)(h:∀ h ρ w,run false false fn.ntmps ⟨P,fn,h,ρ,sto,w,post,X0,stb0⟩ 300 [.code body] (args0 0 args) sto)(ha:Nat.ble args.length fn.ntmps=true:=by rfl)(hx:AaB P f=true:=by kernel_rfl):Ct P f args sto post:=AbV hf hb rfl hx (Nat.le_of_ble_eq_true ha) fun a b c=>zgN (h a b c)
theorem zdIN{P:Program}{g:Std}{f:FuncId}{fn:Func}{body:Code}{args:List AV}{sto:List Blk}{post:AV->List Blk->Prop}(hf:P.funcs[f]?=some fn)(hb:fn.body=some body)(h:∀ h ρ w,Le g w ρ->run false false fn.ntmps ⟨P,fn,h,ρ,sto,w,post,X0,stb0⟩ 300 [.code body] (args0 0 args) sto)(ha:Nat.ble args.length fn.ntmps=true:=by rfl)(hx:AaB P f=true:=by kernel_rfl):CtH P g f args sto post:=AhW hf hb rfl hx (Nat.le_of_ble_eq_true ha) fun a b c d=>zgN (h a b c d)
theorem zpIN{P:Program}{f:FuncId}{fn:Func}{body:Code}{args:List AV}{post:AV->Prop}(hf:P.funcs[f]?=some fn)(hb:fn.body=some body)(h:∀ h ρ w,run false false fn.ntmps ⟨P,fn,h,ρ,[],w,fun r _=>post r/\nr2 r=true,X0,stb0⟩ 300 [.code body] (args0 0 args) [])(ha:Nat.ble args.length fn.ntmps=true:=by rfl)(hx:AaB P f=true:=by kernel_rfl):Pc P f args post:=AcF (zcIN hf hb h ha hx)
theorem zqIN{P:Program}{g:Std}{f:FuncId}{fn:Func}{body:Code}{args:List AV}{post:AV->Prop}(hf:P.funcs[f]?=some fn)(hb:fn.body=some body)(h:∀ h ρ w,Le g w ρ->run false false fn.ntmps ⟨P,fn,h,ρ,[],w,fun r _=>post r/\nr2 r=true,X0,stb0⟩ 300 [.code body] (args0 0 args) [])(ha:Nat.ble args.length fn.ntmps=true:=by rfl)(hx:AaB P f=true:=by kernel_rfl):PcH P g f args post:=AfG (zdIN hf hb h ha hx)
theorem zt{c:Cx}{e:Env}{s:List Blk}(ts:List Tmp)(hr:c.fn.results=(ts.map ResultVar.tmp).toArray:=by rfl)(hp:c.post (resV e ts) s:=by exact⟨rfl,rfl⟩):ARet c e s:=aret ts hr hp
end Go.Av
namespace Go.Proofs.YtnfkjpihaficbaaGreatDoor
open Go Go.Av Go.RowKit _root_.Go.Proofs.Tryz
theorem mixed:prog.follows .mixedOrders=true:=by kernel_rfl
theorem hB2:AaB prog 2=true:=by kernel_rfl
theorem hB3:AaB prog 3=true:=by kernel_rfl
theorem hB4:AaB prog 4=true:=by kernel_rfl
theorem hB23:AaB prog 23=true:=by kernel_rfl
theorem hB68:AaB prog 68=true:=by kernel_rfl
theorem hB72:AaB prog 72=true:=by kernel_rfl
theorem hB91:AaB prog 91=true:=by kernel_rfl
theorem hB94:AaB prog 94=true:=by kernel_rfl
theorem hB98:AaB prog 98=true:=by kernel_rfl
theorem hB99:AaB prog 99=true:=by kernel_rfl
theorem hB104:AaB prog 104=true:=by kernel_rfl
theorem hB110:AaB prog 110=true:=by kernel_rfl
theorem hB113:AaB prog 113=true:=by kernel_rfl
theorem hB125:AaB prog 125=true:=by kernel_rfl
theorem hB130:AaB prog 130=true:=by kernel_rfl
theorem hB131:AaB prog 131=true:=by kernel_rfl
theorem hB143:AaB prog 143=true:=by kernel_rfl
theorem hB146:AaB prog 146=true:=by kernel_rfl
theorem hB154:AaB prog 154=true:=by kernel_rfl
theorem hB155:AaB prog 155=true:=by kernel_rfl
theorem hB158:AaB prog 158=true:=by kernel_rfl
theorem hB186:AaB prog 186=true:=by kernel_rfl
theorem hB188:AaB prog 188=true:=by kernel_rfl
theorem hB202:AaB prog 202=true:=by kernel_rfl
theorem hB212:AaB prog 212=true:=by kernel_rfl
theorem hB241:AaB prog 241=true:=by kernel_rfl
theorem hB259:AaB prog 259=true:=by kernel_rfl
theorem hB292:AaB prog 292=true:=by kernel_rfl
theorem hB304:AaB prog 304=true:=by kernel_rfl
theorem hB305:AaB prog 305=true:=by kernel_rfl
theorem ts2:tsize prog 2=1:=by kernel_rfl
theorem ts3:tsize prog 3=1:=by kernel_rfl
theorem tb3:tbytes prog 3=8:=by kernel_rfl
theorem zv3:zval prog 3=.int .i64 0:=by kernel_rfl
theorem zk3:zok prog 3=true:=by kernel_rfl
theorem za3:zav prog 3=[.int .i64 0]:=by kernel_rfl
theorem ts4:tsize prog 4=1:=by kernel_rfl
theorem tb4:tbytes prog 4=1:=by kernel_rfl
theorem zv4:zval prog 4=.bool false:=by kernel_rfl
theorem zk4:zok prog 4=true:=by kernel_rfl
theorem za4:zav prog 4=[.bool false]:=by kernel_rfl
theorem ts5:tsize prog 5=1:=by kernel_rfl
theorem tb5:tbytes prog 5=1:=by kernel_rfl
theorem za5:zav prog 5=[.int .u8 0]:=by kernel_rfl
theorem fl7:Go.Av.AaF prog 7=true:=by kernel_rfl
theorem fl8:Go.Av.AaF prog 8=true:=by kernel_rfl
theorem ts9:tsize prog 9=1:=by kernel_rfl
theorem tb9:tbytes prog 9=16:=by kernel_rfl
theorem zv9:zval prog 9=.str []:=by kernel_rfl
theorem zk9:zok prog 9=true:=by kernel_rfl
theorem za9:zav prog 9=[.str []]:=by kernel_rfl
theorem ts10:tsize prog 10=1:=by kernel_rfl
theorem ts12:tsize prog 12=1:=by kernel_rfl
theorem fl13:Go.Av.AaF prog 13=true:=by kernel_rfl
theorem fl14:Go.Av.AaF prog 14=true:=by kernel_rfl
theorem fl18:Go.Av.AaF prog 18=true:=by kernel_rfl
theorem fl19:Go.Av.AaF prog 19=true:=by kernel_rfl
theorem ts21:tsize prog 21=1:=by kernel_rfl
theorem ts22:tsize prog 22=1:=by kernel_rfl
theorem tb22:tbytes prog 22=24:=by kernel_rfl
theorem za22:zav prog 22=[.raw (.slice none 0 0)]:=by kernel_rfl
theorem ts24:tsize prog 24=2:=by kernel_rfl
theorem fl24:Go.Av.AaF prog 24=true:=by kernel_rfl
theorem ts25:tsize prog 25=2:=by kernel_rfl
theorem za25:zav prog 25=[.raw (.slice none 0 0),.int .i64 0]:=by kernel_rfl
theorem fl25:Go.Av.AaF prog 25=true:=by kernel_rfl
theorem ts26:tsize prog 26=1:=by kernel_rfl
theorem ts27:tsize prog 27=2:=by kernel_rfl
theorem fl27:Go.Av.AaF prog 27=true:=by kernel_rfl
theorem ts28:tsize prog 28=2:=by kernel_rfl
theorem za28:zav prog 28=[.str [],.raw (.slice none 0 0)]:=by kernel_rfl
theorem fl28:Go.Av.AaF prog 28=true:=by kernel_rfl
theorem ts30:tsize prog 30=1:=by kernel_rfl
theorem ts32:tsize prog 32=1:=by kernel_rfl
theorem za32:zav prog 32=[.raw (.slice none 0 0)]:=by kernel_rfl
theorem ts34:tsize prog 34=1:=by kernel_rfl
theorem ts35:tsize prog 35=1:=by kernel_rfl
theorem ts39:tsize prog 39=1:=by kernel_rfl
theorem tb39:tbytes prog 39=24:=by kernel_rfl
theorem za39:zav prog 39=[.raw (.slice none 0 0)]:=by kernel_rfl
theorem ts40:tsize prog 40=2:=by kernel_rfl
theorem fl40:Go.Av.AaF prog 40=true:=by kernel_rfl
theorem ts41:tsize prog 41=2:=by kernel_rfl
theorem tb41:tbytes prog 41=40:=by kernel_rfl
theorem za41:zav prog 41=[.str [],.raw (.slice none 0 0)]:=by kernel_rfl
theorem fl41:Go.Av.AaF prog 41=true:=by kernel_rfl
theorem ts43:tsize prog 43=2:=by kernel_rfl
theorem fl43:Go.Av.AaF prog 43=true:=by kernel_rfl
theorem ts44:tsize prog 44=2:=by kernel_rfl
theorem za44:zav prog 44=[.int .i64 0,.str []]:=by kernel_rfl
theorem fl44:Go.Av.AaF prog 44=true:=by kernel_rfl
theorem ts45:tsize prog 45=4:=by kernel_rfl
theorem fl45:Go.Av.AaF prog 45=false:=by kernel_rfl
theorem lf45:Go.Av.leafTs prog 4 45=[3,9,3,4]:=by kernel_rfl
theorem ts46:tsize prog 46=4:=by kernel_rfl
theorem tb46:tbytes prog 46=40:=by kernel_rfl
theorem zv46:zval prog 46=.agg [.int .i64 0,.str [],.int .i64 0,.bool false]:=by kernel_rfl
theorem zk46:zok prog 46=true:=by kernel_rfl
theorem za46:zav prog 46=[.int .i64 0,.str [],.int .i64 0,.bool false]:=by kernel_rfl
theorem fl46:Go.Av.AaF prog 46=false:=by kernel_rfl
theorem lf46:Go.Av.leafTs prog 4 46=[3,9,3,4]:=by kernel_rfl
theorem ts48:tsize prog 48=4:=by kernel_rfl
theorem fl48:Go.Av.AaF prog 48=false:=by kernel_rfl
theorem lf48:Go.Av.leafTs prog 4 48=[9,3,9,3]:=by kernel_rfl
theorem ts49:tsize prog 49=4:=by kernel_rfl
theorem tb49:tbytes prog 49=48:=by kernel_rfl
theorem za49:zav prog 49=[.str [],.int .i64 0,.str [],.int .i64 0]:=by kernel_rfl
theorem fl49:Go.Av.AaF prog 49=false:=by kernel_rfl
theorem lf49:Go.Av.leafTs prog 4 49=[9,3,9,3]:=by kernel_rfl
theorem ts55:tsize prog 55=1:=by kernel_rfl
theorem ts56:tsize prog 56=1:=by kernel_rfl
theorem zv56:zval prog 56=.raw (.slice none 0 0):=by kernel_rfl
theorem zk56:zok prog 56=true:=by kernel_rfl
theorem ts60:tsize prog 60=5:=by kernel_rfl
theorem fl60:Go.Av.AaF prog 60=false:=by kernel_rfl
theorem lf60:Go.Av.leafTs prog 4 60=[9,3,9,9,9]:=by kernel_rfl
theorem ts61:tsize prog 61=5:=by kernel_rfl
theorem tb61:tbytes prog 61=72:=by kernel_rfl
theorem za61:zav prog 61=[.str [],.int .i64 0,.str [],.str [],.str []]:=by kernel_rfl
theorem fl61:Go.Av.AaF prog 61=false:=by kernel_rfl
theorem lf61:Go.Av.leafTs prog 4 61=[9,3,9,9,9]:=by kernel_rfl
theorem ts62:tsize prog 62=1:=by kernel_rfl
theorem ts63:tsize prog 63=5:=by kernel_rfl
theorem fl63:Go.Av.AaF prog 63=true:=by kernel_rfl
theorem ts64:tsize prog 64=5:=by kernel_rfl
theorem tb64:tbytes prog 64=72:=by kernel_rfl
theorem za64:zav prog 64=[.str [],.int .i64 0,.str [],.int .i64 0,.raw (.slice none 0 0)]:=by kernel_rfl
theorem fl64:Go.Av.AaF prog 64=true:=by kernel_rfl
theorem ts65:tsize prog 65=1:=by kernel_rfl
theorem za65:zav prog 65=[.raw (.slice none 0 0)]:=by kernel_rfl
theorem ts69:tsize prog 69=4:=by kernel_rfl
theorem fl69:Go.Av.AaF prog 69=false:=by kernel_rfl
theorem lf69:Go.Av.leafTs prog 4 69=[3,9,9,9]:=by kernel_rfl
theorem ts70:tsize prog 70=4:=by kernel_rfl
theorem tb70:tbytes prog 70=56:=by kernel_rfl
theorem za70:zav prog 70=[.int .i64 0,.str [],.str [],.str []]:=by kernel_rfl
theorem fl70:Go.Av.AaF prog 70=false:=by kernel_rfl
theorem lf70:Go.Av.leafTs prog 4 70=[3,9,9,9]:=by kernel_rfl
theorem ts71:tsize prog 71=1:=by kernel_rfl
theorem fl83:Go.Av.AaF prog 83=true:=by kernel_rfl
theorem fl84:Go.Av.AaF prog 84=true:=by kernel_rfl
theorem ts89:tsize prog 89=5:=by kernel_rfl
theorem fl89:Go.Av.AaF prog 89=false:=by kernel_rfl
theorem lf89:Go.Av.leafTs prog 4 89=[3,9,9,22,9]:=by kernel_rfl
theorem ts90:tsize prog 90=5:=by kernel_rfl
theorem tb90:tbytes prog 90=80:=by kernel_rfl
theorem za90:zav prog 90=[.int .i64 0,.str [],.str [],.raw (.slice none 0 0),.str []]:=by kernel_rfl
theorem fl90:Go.Av.AaF prog 90=false:=by kernel_rfl
theorem lf90:Go.Av.leafTs prog 4 90=[3,9,9,22,9]:=by kernel_rfl
theorem ts95:tsize prog 95=4:=by kernel_rfl
theorem fl95:Go.Av.AaF prog 95=true:=by kernel_rfl
theorem ts96:tsize prog 96=4:=by kernel_rfl
theorem tb96:tbytes prog 96=40:=by kernel_rfl
theorem zv96:zval prog 96=.agg [.str [],.int .i64 0,.int .i64 0,.bool false]:=by kernel_rfl
theorem zk96:zok prog 96=true:=by kernel_rfl
theorem za96:zav prog 96=[.str [],.int .i64 0,.int .i64 0,.bool false]:=by kernel_rfl
theorem fl96:Go.Av.AaF prog 96=true:=by kernel_rfl
theorem ts105:tsize prog 105=1:=by kernel_rfl
theorem ts108:tsize prog 108=1:=by kernel_rfl
theorem ts112:tsize prog 112=1:=by kernel_rfl
theorem ts113:tsize prog 113=1:=by kernel_rfl
theorem tb113:tbytes prog 113=8:=by kernel_rfl
theorem za113:zav prog 113=[.raw (.map none)]:=by kernel_rfl
theorem ts114:tsize prog 114=2:=by kernel_rfl
theorem fl114:Go.Av.AaF prog 114=true:=by kernel_rfl
theorem ts115:tsize prog 115=2:=by kernel_rfl
theorem tb115:tbytes prog 115=24:=by kernel_rfl
theorem za115:zav prog 115=[.int .i64 0,.str []]:=by kernel_rfl
theorem fl115:Go.Av.AaF prog 115=true:=by kernel_rfl
theorem ts116:tsize prog 116=6:=by kernel_rfl
theorem fl116:Go.Av.AaF prog 116=true:=by kernel_rfl
theorem ts117:tsize prog 117=6:=by kernel_rfl
theorem tb117:tbytes prog 117=48:=by kernel_rfl
theorem za117:zav prog 117=[.int .i64 0,.int .i64 0,.int .i64 0,.int .i64 0,.int .i64 0,.int .i64 0]:=by kernel_rfl
theorem fl117:Go.Av.AaF prog 117=true:=by kernel_rfl
theorem ts118:tsize prog 118=1:=by kernel_rfl
theorem ts122:tsize prog 122=1:=by kernel_rfl
theorem ts126:tsize prog 126=1:=by kernel_rfl
theorem ts129:tsize prog 129=3:=by kernel_rfl
theorem fl129:Go.Av.AaF prog 129=true:=by kernel_rfl
theorem ts130:tsize prog 130=3:=by kernel_rfl
theorem tb130:tbytes prog 130=24:=by kernel_rfl
theorem za130:zav prog 130=[.int .i64 0,.int .i64 0,.int .i64 0]:=by kernel_rfl
theorem fl130:Go.Av.AaF prog 130=true:=by kernel_rfl
theorem ts131:tsize prog 131=1:=by kernel_rfl
theorem ts139:tsize prog 139=1:=by kernel_rfl
theorem ts140:tsize prog 140=3:=by kernel_rfl
theorem fl140:Go.Av.AaF prog 140=true:=by kernel_rfl
theorem ts141:tsize prog 141=3:=by kernel_rfl
theorem za141:zav prog 141=[.raw (.slice none 0 0),.raw (.map none),.raw (.map none)]:=by kernel_rfl
theorem fl141:Go.Av.AaF prog 141=true:=by kernel_rfl
theorem ts146:tsize prog 146=1:=by kernel_rfl
theorem ts159:tsize prog 159=3:=by kernel_rfl
theorem fl159:Go.Av.AaF prog 159=false:=by kernel_rfl
theorem lf159:Go.Av.leafTs prog 4 159=[3,9,9]:=by kernel_rfl
theorem ts160:tsize prog 160=3:=by kernel_rfl
theorem za160:zav prog 160=[.int .i64 0,.str [],.str []]:=by kernel_rfl
theorem fl160:Go.Av.AaF prog 160=false:=by kernel_rfl
theorem lf160:Go.Av.leafTs prog 4 160=[3,9,9]:=by kernel_rfl
theorem ts164:tsize prog 164=1:=by kernel_rfl
theorem za164:zav prog 164=[.raw (.slice none 0 0)]:=by kernel_rfl
theorem ts176:tsize prog 176=1:=by kernel_rfl
theorem ts187:tsize prog 187=1:=by kernel_rfl
theorem ts188:tsize prog 188=1:=by kernel_rfl
theorem tb188:tbytes prog 188=24:=by kernel_rfl
theorem za188:zav prog 188=[.raw (.slice none 0 0)]:=by kernel_rfl
theorem ts194:tsize prog 194=1:=by kernel_rfl
theorem ts195:tsize prog 195=3:=by kernel_rfl
theorem fl195:Go.Av.AaF prog 195=false:=by kernel_rfl
theorem lf195:Go.Av.leafTs prog 4 195=[9,3,9]:=by kernel_rfl
theorem ts196:tsize prog 196=3:=by kernel_rfl
theorem za196:zav prog 196=[.str [],.int .i64 0,.str []]:=by kernel_rfl
theorem fl196:Go.Av.AaF prog 196=false:=by kernel_rfl
theorem lf196:Go.Av.leafTs prog 4 196=[9,3,9]:=by kernel_rfl
theorem ts206:tsize prog 206=1:=by kernel_rfl
theorem ts210:tsize prog 210=1:=by kernel_rfl
theorem ts211:tsize prog 211=2:=by kernel_rfl
theorem fl211:Go.Av.AaF prog 211=true:=by kernel_rfl
theorem ts212:tsize prog 212=2:=by kernel_rfl
theorem za212:zav prog 212=[.raw (.pointer none),.raw (.slice none 0 0)]:=by kernel_rfl
theorem fl212:Go.Av.AaF prog 212=true:=by kernel_rfl
theorem ts218:tsize prog 218=3:=by kernel_rfl
theorem fl218:Go.Av.AaF prog 218=true:=by kernel_rfl
theorem ts219:tsize prog 219=3:=by kernel_rfl
theorem tb219:tbytes prog 219=24:=by kernel_rfl
theorem za219:zav prog 219=[.int .i64 0,.int .i64 0,.int .i64 0]:=by kernel_rfl
theorem fl219:Go.Av.AaF prog 219=true:=by kernel_rfl
theorem ts221:tsize prog 221=1:=by kernel_rfl
theorem ts222:tsize prog 222=1:=by kernel_rfl
theorem ts224:tsize prog 224=1:=by kernel_rfl
theorem ts230:tsize prog 230=1:=by kernel_rfl
theorem ts232:tsize prog 232=4:=by kernel_rfl
theorem fl232:Go.Av.AaF prog 232=true:=by kernel_rfl
theorem ts233:tsize prog 233=4:=by kernel_rfl
theorem tb233:tbytes prog 233=32:=by kernel_rfl
theorem za233:zav prog 233=[.bool false,.bool false,.bool false,.raw (.slice none 0 0)]:=by kernel_rfl
theorem fl233:Go.Av.AaF prog 233=true:=by kernel_rfl
theorem ts247:tsize prog 247=1:=by kernel_rfl
theorem ts248:tsize prog 248=4:=by kernel_rfl
theorem fl248:Go.Av.AaF prog 248=false:=by kernel_rfl
theorem lf248:Go.Av.leafTs prog 4 248=[9,3,9,9]:=by kernel_rfl
theorem ts249:tsize prog 249=4:=by kernel_rfl
theorem za249:zav prog 249=[.str [],.int .i64 0,.str [],.str []]:=by kernel_rfl
theorem fl249:Go.Av.AaF prog 249=false:=by kernel_rfl
theorem lf249:Go.Av.leafTs prog 4 249=[9,3,9,9]:=by kernel_rfl
theorem ts251:tsize prog 251=1:=by kernel_rfl
theorem ts254:tsize prog 254=1:=by kernel_rfl
theorem ts257:tsize prog 257=1:=by kernel_rfl
theorem ts270:tsize prog 270=5:=by kernel_rfl
theorem za270:zav prog 270=[.int .i64 0,.int .i64 0,.int .i64 0,.int .i64 0,.int .i64 0]:=by kernel_rfl
theorem ts274:tsize prog 274=1:=by kernel_rfl
theorem ts281:tsize prog 281=1:=by kernel_rfl
theorem ts287:tsize prog 287=1:=by kernel_rfl
theorem ts301:tsize prog 301=1:=by kernel_rfl
theorem ts304:tsize prog 304=1:=by kernel_rfl
theorem ts305:tsize prog 305=2:=by kernel_rfl
theorem fl305:Go.Av.AaF prog 305=true:=by kernel_rfl
theorem ts306:tsize prog 306=2:=by kernel_rfl
theorem tb306:tbytes prog 306=16:=by kernel_rfl
theorem za306:zav prog 306=[.int .i64 0,.int .i64 0]:=by kernel_rfl
theorem fl306:Go.Av.AaF prog 306=true:=by kernel_rfl
theorem ts308:tsize prog 308=1:=by kernel_rfl
theorem ts314:tsize prog 314=24:=by kernel_rfl
theorem ts321:tsize prog 321=3:=by kernel_rfl
theorem fl321:Go.Av.AaF prog 321=true:=by kernel_rfl
theorem ts322:tsize prog 322=3:=by kernel_rfl
theorem fl322:Go.Av.AaF prog 322=true:=by kernel_rfl
theorem ts329:tsize prog 329=12:=by kernel_rfl
theorem za329:zav prog 329=[.str [],.str [],.str [],.str [],.str [],.str [],.str [],.str [],.str [],.str [],.str [],.str []]:=by kernel_rfl
theorem ts340:tsize prog 340=1:=by kernel_rfl
theorem ts341:tsize prog 341=1:=by kernel_rfl
theorem ts342:tsize prog 342=3:=by kernel_rfl
theorem fl342:Go.Av.AaF prog 342=true:=by kernel_rfl
theorem ts343:tsize prog 343=3:=by kernel_rfl
theorem fl343:Go.Av.AaF prog 343=true:=by kernel_rfl
theorem ts344:tsize prog 344=1:=by kernel_rfl
theorem ts345:tsize prog 345=3:=by kernel_rfl
theorem fl345:Go.Av.AaF prog 345=true:=by kernel_rfl
theorem ts346:tsize prog 346=3:=by kernel_rfl
theorem tb346:tbytes prog 346=6:=by kernel_rfl
theorem za346:zav prog 346=[.int .u16 0,.int .u16 0,.int .u16 0]:=by kernel_rfl
theorem fl346:Go.Av.AaF prog 346=true:=by kernel_rfl
theorem ts348:tsize prog 348=3:=by kernel_rfl
theorem fl348:Go.Av.AaF prog 348=true:=by kernel_rfl
theorem ts349:tsize prog 349=3:=by kernel_rfl
theorem tb349:tbytes prog 349=12:=by kernel_rfl
theorem za349:zav prog 349=[.int .u32 0,.int .u32 0,.int .u32 0]:=by kernel_rfl
theorem fl349:Go.Av.AaF prog 349=true:=by kernel_rfl
theorem ts353:tsize prog 353=20:=by kernel_rfl
theorem ts357:tsize prog 357=1:=by kernel_rfl
theorem fl357:Go.Av.AaF prog 357=true:=by kernel_rfl
theorem ts358:tsize prog 358=1:=by kernel_rfl
theorem fl358:Go.Av.AaF prog 358=true:=by kernel_rfl
theorem ts365:tsize prog 365=1:=by kernel_rfl
theorem ts366:tsize prog 366=1:=by kernel_rfl
theorem ts367:tsize prog 367=2:=by kernel_rfl
theorem fl367:Go.Av.AaF prog 367=true:=by kernel_rfl
theorem ts368:tsize prog 368=2:=by kernel_rfl
theorem fl368:Go.Av.AaF prog 368=true:=by kernel_rfl
theorem ts369:tsize prog 369=32:=by kernel_rfl
theorem ts371:tsize prog 371=32:=by kernel_rfl
theorem ts372:tsize prog 372=64:=by kernel_rfl
theorem fl373:Go.Av.AaF prog 373=true:=by kernel_rfl
theorem fl374:Go.Av.AaF prog 374=true:=by kernel_rfl
theorem fl383:Go.Av.AaF prog 383=true:=by kernel_rfl
theorem fl384:Go.Av.AaF prog 384=true:=by kernel_rfl
