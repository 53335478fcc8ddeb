/- Closed facts of this seat's program, written by a program of this seat: which functions. -/
import Derived.Test.YtooohdocabpblaaGreatDoorV12
set_option maxRecDepth 100000
set_option linter.all false
open Go Go.Av Go.RowKit
namespace Go.Av
variable[Tr]
section
variable{c:Cx}{k:List It}{e:Env}{s:LB}{f:FuncId}{args:LA}{d:Option Tmp}{all os:List Oper}
theorem zgB(h:run true true c.fn.ntmps c 300 k e s):AWp c k e s:=goB rfl 300 h
theorem zpB{r:AV}(hc:Pc c.P f args (·=r))(h:run true true c.fn.ntmps c 300 (.ops all os::k) (put e d r) s)(ha:args.all nr1=true:=by rfl)(hd:dOk c.fn.ntmps d=true:=by rfl):AdF c f args d all os k e s:=AiT hc ha rfl hd (zgB h)
theorem zqB{g:Std}(hg:Le g c.w c.ρ){r:AV}(hc:PcH c.P g f args (·=r))(h:run true true c.fn.ntmps c 300 (.ops all os::k) (put e d r) s)(ha:args.all nr1=true:=by rfl)(hd:dOk c.fn.ntmps d=true:=by rfl):AdF c f args d all os k e s:=AwD hg hc ha rfl hd (zgB h)
theorem zgF(h:run false true c.fn.ntmps c 300 k e s):AWp c k e s:=goF rfl 300 h
theorem zpF{r:AV}(hc:Pc c.P f args (·=r))(h:run false true c.fn.ntmps c 300 (.ops all os::k) (put e d r) s)(ha:args.all nr1=true:=by rfl)(hd:dOk c.fn.ntmps d=true:=by rfl):AdF c f args d all os k e s:=AiT hc ha rfl hd (zgF h)
theorem zqF{g:Std}(hg:Le g c.w c.ρ){r:AV}(hc:PcH c.P g f args (·=r))(h:run false true c.fn.ntmps c 300 (.ops all os::k) (put e d r) s)(ha:args.all nr1=true:=by rfl)(hd:dOk c.fn.ntmps d=true:=by rfl):AdF c f args d all os k e s:=AwD hg hc ha rfl hd (zgF h)
theorem zgN(h:run false false c.fn.ntmps c 300 k e s):AWp c k e s:=go rfl 300 h
theorem zgW(h:run true false c.fn.ntmps c 300 k e s):AWp c k e s:=goW rfl 300 h
theorem za{post:AV->LB->Prop}(hc:Ct c.P f args s post)(hk:∀ r s',post r s'->AWp c (.ops all os::k) (put e d r) s')(hd:dOk c.fn.ntmps d=true:=by rfl):AdF c f args d all os k e s:=A3Y hc rfl hd hk
theorem zaH{g:Std}(hg:Le g c.w c.ρ){post:AV->LB->Prop}(hc:CtH c.P g f args s post)(hk:∀ r s',post r s'->AWp c (.ops all os::k) (put e d r) s')(hd:dOk c.fn.ntmps d=true:=by rfl):AdF c f args d all os k e s:=AwC hg hc rfl hd hk
theorem ze{post:AV->Prop}(hc:Pc c.P f args post)(hk:∀ r,post r->AWp c (.ops all os::k) (put e d r) s)(ha:args.all nr1=true:=by rfl)(hd:dOk c.fn.ntmps d=true:=by rfl):AdF c f args d all os k e s:=A6Z hc ha rfl hd hk
theorem zeH{g:Std}(hg:Le g c.w c.ρ){post:AV->Prop}(hc:PcH c.P g f args post)(hk:∀ r,post r->AWp c (.ops all os::k) (put e d r) s)(ha:args.all nr1=true:=by rfl)(hd:dOk c.fn.ntmps d=true:=by rfl):AdF c f args d all os k e s:=A2H hg hc ha rfl hd hk
theorem zm(id:Nat){es:Nat}{agg:AV}{post:AV->AV->Prop}(hc:Mc c.P f es agg args post)(hk:∀ r agg',post r agg'->AWp c (.ops all os::k) (put e d r) (s.set id (.arr es [agg'])))(ha:args.all nr1=true:=by rfl)(hg:nr1 agg=true:=by rfl)(hid:s[id]?=some (.arr es [agg]):=by rfl)(hd:dOk c.fn.ntmps d=true:=by rfl):AdF c f (.ptr id 1 0 0::args) d all os k e s:=mcall hc ha hg hid rfl hd hk
theorem zmH(id:Nat){g:Std}(hle:Le g c.w c.ρ){es:Nat}{agg:AV}{post:AV->AV->Prop}(hc:McH c.P g f es agg args post)(hk:∀ r agg',post r agg'->AWp c (.ops all os::k) (put e d r) (s.set id (.arr es [agg'])))(ha:args.all nr1=true:=by rfl)(hg:nr1 agg=true:=by rfl)(hid:s[id]?=some (.arr es [agg]):=by rfl)(hd:dOk c.fn.ntmps d=true:=by rfl):AdF c f (.ptr id 1 0 0::args) d all os k e s:=A7C hle hc ha hg hid rfl hd hk
theorem zr(cs:LA){id:Nat}{ops:List Oper}(hm:c.P.follows .mixedOrders=true)(h:dx c ops k 100 ops cs e s)(hok:AvZ ops=true:=by decide)(hdst:ops.all (fun o=>dOk c.fn.ntmps o.dst)=true:=by rfl):AWp c (.code (.region id ops.toArray true)::k) e s:=adraw cs hm hok rfl hdst 100 h
end
theorem zcIB{P:Program}{f:FuncId}{fn:Func}{body:Code}{args:LA}{sto:LB}{post:AV->LB->Prop}(hf:P.funcs[f]?=some fn)(hb:fn.body=some body)(h:∀ h ρ w,run true true fn.ntmps ⟨P,fn,h,ρ,sto,w,post,X0,stb0⟩ 300 [.code body] (args0 0 args) sto)(ha:Nat.ble args.length fn.ntmps=true:=by rfl)(hx:AaD P f=true:=by kernel_rfl):Ct P f args sto post:=AcT hf hb rfl hx (Nat.le_of_ble_eq_true ha) fun a b c=>zgB (h a b c)
theorem zdIB{P:Program}{g:Std}{f:FuncId}{fn:Func}{body:Code}{args:LA}{sto:LB}{post:AV->LB->Prop}(hf:P.funcs[f]?=some fn)(hb:fn.body=some body)(h:∀ h ρ w,Le g w ρ->run true true fn.ntmps ⟨P,fn,h,ρ,sto,w,post,X0,stb0⟩ 300 [.code body] (args0 0 args) sto)(ha:Nat.ble args.length fn.ntmps=true:=by rfl)(hx:AaD P f=true:=by kernel_rfl):CtH P g f args sto post:=AfL hf hb rfl hx (Nat.le_of_ble_eq_true ha) fun a b c d=>zgB (h a b c d)
theorem zpIB{P:Program}{f:FuncId}{fn:Func}{body:Code}{args:LA}{post:AV->Prop}(hf:P.funcs[f]?=some fn)(hb:fn.body=some body)(h:∀ h ρ w,run true true fn.ntmps ⟨P,fn,h,ρ,[],w,fun r _=>post r/\nr2 r=true,X0,stb0⟩ 300 [.code body] (args0 0 args) [])(ha:Nat.ble args.length fn.ntmps=true:=by rfl)(hx:AaD P f=true:=by kernel_rfl):Pc P f args post:=AhH (zcIB hf hb h ha hx)
theorem zqIB{P:Program}{g:Std}{f:FuncId}{fn:Func}{body:Code}{args:LA}{post:AV->Prop}(hf:P.funcs[f]?=some fn)(hb:fn.body=some body)(h:∀ h ρ w,Le g w ρ->run true true fn.ntmps ⟨P,fn,h,ρ,[],w,fun r _=>post r/\nr2 r=true,X0,stb0⟩ 300 [.code body] (args0 0 args) [])(ha:Nat.ble args.length fn.ntmps=true:=by rfl)(hx:AaD P f=true:=by kernel_rfl):PcH P g f args post:=AoA (zdIB hf hb h ha hx)
theorem zcIF{P:Program}{f:FuncId}{fn:Func}{body:Code}{args:LA}{sto:LB}{post:AV->LB->Prop}(hf:P.funcs[f]?=some fn)(hb:fn.body=some body)(h:∀ h ρ w,run false true fn.ntmps ⟨P,fn,h,ρ,sto,w,post,X0,stb0⟩ 300 [.code body] (args0 0 args) sto)(ha:Nat.ble args.length fn.ntmps=true:=by rfl)(hx:AaD P f=true:=by kernel_rfl):Ct P f args sto post:=AcT hf hb rfl hx (Nat.le_of_ble_eq_true ha) fun a b c=>zgF (h a b c)
theorem zdIF{P:Program}{g:Std}{f:FuncId}{fn:Func}{body:Code}{args:LA}{sto:LB}{post:AV->LB->Prop}(hf:P.funcs[f]?=some fn)(hb:fn.body=some body)(h:∀ h ρ w,Le g w ρ->run false true fn.ntmps ⟨P,fn,h,ρ,sto,w,post,X0,stb0⟩ 300 [.code body] (args0 0 args) sto)(ha:Nat.ble args.length fn.ntmps=true:=by rfl)(hx:AaD P f=true:=by kernel_rfl):CtH P g f args sto post:=AfL hf hb rfl hx (Nat.le_of_ble_eq_true ha) fun a b c d=>zgF (h a b c d)
theorem zqIF{P:Program}{g:Std}{f:FuncId}{fn:Func}{body:Code}{args:LA}{post:AV->Prop}(hf:P.funcs[f]?=some fn)(hb:fn.body=some body)(h:∀ h ρ w,Le g w ρ->run false true fn.ntmps ⟨P,fn,h,ρ,[],w,fun r _=>post r/\nr2 r=true,X0,stb0⟩ 300 [.code body] (args0 0 args) [])(ha:Nat.ble args.length fn.ntmps=true:=by rfl)(hx:AaD P f=true:=by kernel_rfl):PcH P g f args post:=AoA (zdIF hf hb h ha hx)
theorem zcIN{P:Program}{f:FuncId}{fn:Func}{body:Code}{args:LA}{sto:LB}{post:AV->LB->Prop}(hf:P.funcs[f]?=some fn)(hb:fn.body=some body)(h:∀ h ρ w,run false false fn.ntmps ⟨P,fn,h,ρ,sto,w,post,X0,stb0⟩ 300 [.code body] (args0 0 args) sto)(ha:Nat.ble args.length fn.ntmps=true:=by rfl)(hx:AaD P f=true:=by kernel_rfl):Ct P f args sto post:=AcT hf hb rfl hx (Nat.le_of_ble_eq_true ha) fun a b c=>zgN (h a b c)
theorem zdIN{P:Program}{g:Std}{f:FuncId}{fn:Func}{body:Code}{args:LA}{sto:LB}{post:AV->LB->Prop}(hf:P.funcs[f]?=some fn)(hb:fn.body=some body)(h:∀ h ρ w,Le g w ρ->run false false fn.ntmps ⟨P,fn,h,ρ,sto,w,post,X0,stb0⟩ 300 [.code body] (args0 0 args) sto)(ha:Nat.ble args.length fn.ntmps=true:=by rfl)(hx:AaD P f=true:=by kernel_rfl):CtH P g f args sto post:=AfL hf hb rfl hx (Nat.le_of_ble_eq_true ha) fun a b c d=>zgN (h a b c d)
theorem zpIN{P:Program}{f:FuncId}{fn:Func}{body:Code}{args:LA}{post:AV->Prop}(hf:P.funcs[f]?=some fn)(hb:fn.body=some body)(h:∀ h ρ w,run false false fn.ntmps ⟨P,fn,h,ρ,[],w,fun r _=>post r/\nr2 r=true,X0,stb0⟩ 300 [.code body] (args0 0 args) [])(ha:Nat.ble args.length fn.ntmps=true:=by rfl)(hx:AaD P f=true:=by kernel_rfl):Pc P f args post:=AhH (zcIN hf hb h ha hx)
theorem zcIW{P:Program}{f:FuncId}{fn:Func}{body:Code}{args:LA}{sto:LB}{post:AV->LB->Prop}(hf:P.funcs[f]?=some fn)(hb:fn.body=some body)(h:∀ h ρ w,run true false fn.ntmps ⟨P,fn,h,ρ,sto,w,post,X0,stb0⟩ 300 [.code body] (args0 0 args) sto)(ha:Nat.ble args.length fn.ntmps=true:=by rfl)(hx:AaD P f=true:=by kernel_rfl):Ct P f args sto post:=AcT hf hb rfl hx (Nat.le_of_ble_eq_true ha) fun a b c=>zgW (h a b c)
theorem zpIW{P:Program}{f:FuncId}{fn:Func}{body:Code}{args:LA}{post:AV->Prop}(hf:P.funcs[f]?=some fn)(hb:fn.body=some body)(h:∀ h ρ w,run true false fn.ntmps ⟨P,fn,h,ρ,[],w,fun r _=>post r/\nr2 r=true,X0,stb0⟩ 300 [.code body] (args0 0 args) [])(ha:Nat.ble args.length fn.ntmps=true:=by rfl)(hx:AaD P f=true:=by kernel_rfl):Pc P f args post:=AhH (zcIW hf hb h ha hx)
theorem zt{c:Cx}{e:Env}{s:LB}(ts:List Tmp)(hr:c.fn.results=(ts.map ResultVar.tmp).toArray:=by rfl)(hp:c.post (resV e ts) s:=by exact⟨rfl,rfl⟩):ARet c e s:=aret ts hr hp
end Go.Av
namespace Go.Proofs.YtooohdocabpblaaGreatDoor
open Av RowKit Proofs.Tryz
theorem AaL:prog.follows .mixedOrders=true:=by kernel_rfl
theorem hB2:AaD prog 2=true:=by kernel_rfl
theorem hB6:AaD prog 6=true:=by kernel_rfl
theorem hB16:AaD prog 16=true:=by kernel_rfl
theorem hB31:AaD prog 31=true:=by kernel_rfl
theorem hB35:AaD prog 35=true:=by kernel_rfl
theorem hB39:AaD prog 39=true:=by kernel_rfl
theorem hB43:AaD prog 43=true:=by kernel_rfl
theorem hB146:AaD prog 146=true:=by kernel_rfl
theorem hB209:AaD prog 209=true:=by kernel_rfl
theorem hB241:AaD prog 241=true:=by kernel_rfl
theorem hB242:AaD prog 242=true:=by kernel_rfl
theorem ts2:tsize prog 2=1:=by kernel_rfl
theorem ts3:tsize prog 3=1:=by kernel_rfl
theorem tb3:AaK prog 3=8:=by kernel_rfl
theorem zv3:zval prog 3=.int .i64 0:=by kernel_rfl
theorem zk3:zok prog 3=true:=by kernel_rfl
theorem za3:zav prog 3=[.int .i64 0]:=by kernel_rfl
theorem ts4:tsize prog 4=1:=by kernel_rfl
theorem zv4:zval prog 4=.bool false:=by kernel_rfl
theorem zk4:zok prog 4=true:=by kernel_rfl
theorem ts5:tsize prog 5=1:=by kernel_rfl
theorem ts6:tsize prog 6=1:=by kernel_rfl
theorem fl7:Go.Av.AaB prog 7=true:=by kernel_rfl
theorem fl8:Go.Av.AaB prog 8=true:=by kernel_rfl
theorem ts9:tsize prog 9=1:=by kernel_rfl
theorem tb9:AaK prog 9=16:=by kernel_rfl
theorem za9:zav prog 9=[.str []]:=by kernel_rfl
theorem fl13:Go.Av.AaB prog 13=true:=by kernel_rfl
theorem fl14:Go.Av.AaB prog 14=true:=by kernel_rfl
theorem fl18:Go.Av.AaB prog 18=true:=by kernel_rfl
theorem fl19:Go.Av.AaB prog 19=true:=by kernel_rfl
theorem ts22:tsize prog 22=1:=by kernel_rfl
theorem zv22:zval prog 22=.raw (.slice none 0 0):=by kernel_rfl
theorem zk22:zok prog 22=true:=by kernel_rfl
theorem ts24:tsize prog 24=2:=by kernel_rfl
theorem fl24:Go.Av.AaB prog 24=true:=by kernel_rfl
theorem ts25:tsize prog 25=2:=by kernel_rfl
theorem za25:zav prog 25=[.raw (.slice none 0 0),.int .i64 0]:=by kernel_rfl
theorem fl25:Go.Av.AaB prog 25=true:=by kernel_rfl
theorem ts26:tsize prog 26=1:=by kernel_rfl
theorem ts27:tsize prog 27=1:=by kernel_rfl
theorem ts28:tsize prog 28=1:=by kernel_rfl
theorem ts29:tsize prog 29=1:=by kernel_rfl
theorem ts30:tsize prog 30=4:=by kernel_rfl
theorem fl30:Go.Av.AaB prog 30=true:=by kernel_rfl
theorem ts31:tsize prog 31=4:=by kernel_rfl
theorem za31:zav prog 31=[.raw (.slice none 0 0),.raw (.slice none 0 0),.raw (.slice none 0 0),.raw (.slice none 0 0)]:=by kernel_rfl
theorem fl31:Go.Av.AaB prog 31=true:=by kernel_rfl
theorem ts32:tsize prog 32=1:=by kernel_rfl
theorem ts33:tsize prog 33=9:=by kernel_rfl
theorem fl33:Go.Av.AaB prog 33=true:=by kernel_rfl
theorem ts34:tsize prog 34=9:=by kernel_rfl
theorem za34:zav prog 34=[.int .i64 0,.int .i64 0,.int .i64 0,.int .i64 0,.int .i64 0,.int .i64 0,.int .i64 0,.int .i64 0,.int .i64 0]:=by kernel_rfl
theorem fl34:Go.Av.AaB prog 34=true:=by kernel_rfl
theorem ts35:tsize prog 35=14:=by kernel_rfl
theorem fl35:Go.Av.AaB prog 35=false:=by kernel_rfl
theorem lf35:Go.Av.leafTs prog 4 35=[26,27,28,29,32,3,3,3,3,3,3,3,3,3]:=by kernel_rfl
theorem ts36:tsize prog 36=14:=by kernel_rfl
theorem za36:zav prog 36=[.raw (.slice none 0 0),.raw (.slice none 0 0),.raw (.slice none 0 0),.raw (.slice none 0 0),.raw (.slice none 0 0),.int .i64 0,.int .i64 0,.int .i64 0,.int .i64 0,.int .i64 0,.int .i64 0,.int .i64 0,.int .i64 0,.int .i64 0]:=by kernel_rfl
theorem fl36:Go.Av.AaB prog 36=false:=by kernel_rfl
theorem lf36:Go.Av.leafTs prog 4 36=[26,27,28,29,32,3,3,3,3,3,3,3,3,3]:=by kernel_rfl
theorem ts39:tsize prog 39=1:=by kernel_rfl
theorem ts40:tsize prog 40=1:=by kernel_rfl
theorem fl40:Go.Av.AaB prog 40=true:=by kernel_rfl
theorem ts41:tsize prog 41=1:=by kernel_rfl
theorem tb41:AaK prog 41=24:=by kernel_rfl
theorem za41:zav prog 41=[.raw (.slice none 0 0)]:=by kernel_rfl
theorem fl41:Go.Av.AaB prog 41=true:=by kernel_rfl
theorem ts43:tsize prog 43=1:=by kernel_rfl
theorem ts44:tsize prog 44=1:=by kernel_rfl
theorem ts47:tsize prog 47=1:=by kernel_rfl
theorem ts51:tsize prog 51=4:=by kernel_rfl
theorem fl51:Go.Av.AaB prog 51=true:=by kernel_rfl
theorem ts52:tsize prog 52=4:=by kernel_rfl
theorem tb52:AaK prog 52=56:=by kernel_rfl
theorem za52:zav prog 52=[.str [],.raw (.slice none 0 0),.int .i64 0,.int .i64 0]:=by kernel_rfl
theorem fl52:Go.Av.AaB prog 52=true:=by kernel_rfl
theorem ts53:tsize prog 53=1:=by kernel_rfl
theorem ts54:tsize prog 54=1:=by kernel_rfl
theorem tb54:AaK prog 54=24:=by kernel_rfl
theorem za54:zav prog 54=[.raw (.slice none 0 0)]:=by kernel_rfl
theorem ts55:tsize prog 55=5:=by kernel_rfl
theorem fl55:Go.Av.AaB prog 55=true:=by kernel_rfl
theorem ts56:tsize prog 56=5:=by kernel_rfl
theorem tb56:AaK prog 56=48:=by kernel_rfl
theorem za56:zav prog 56=[.str [],.int .i64 0,.int .i64 0,.int .i64 0,.int .i64 0]:=by kernel_rfl
theorem fl56:Go.Av.AaB prog 56=true:=by kernel_rfl
theorem ts58:tsize prog 58=1:=by kernel_rfl
theorem ts59:tsize prog 59=1:=by kernel_rfl
theorem ts60:tsize prog 60=8:=by kernel_rfl
theorem fl60:Go.Av.AaB prog 60=true:=by kernel_rfl
theorem ts61:tsize prog 61=8:=by kernel_rfl
theorem tb61:AaK prog 61=112:=by kernel_rfl
theorem za61:zav prog 61=[.str [],.int .i64 0,.int .i64 0,.str [],.int .i64 0,.bool false,.raw (.slice none 0 0),.raw (.slice none 0 0)]:=by kernel_rfl
theorem fl61:Go.Av.AaB prog 61=true:=by kernel_rfl
theorem ts64:tsize prog 64=2:=by kernel_rfl
theorem fl64:Go.Av.AaB prog 64=true:=by kernel_rfl
theorem ts65:tsize prog 65=2:=by kernel_rfl
theorem tb65:AaK prog 65=32:=by kernel_rfl
theorem za65:zav prog 65=[.int .i64 0,.raw (.slice none 0 0)]:=by kernel_rfl
theorem fl65:Go.Av.AaB prog 65=true:=by kernel_rfl
theorem ts70:tsize prog 70=9:=by kernel_rfl
theorem za70:zav prog 70=[.str [],.str [],.str [],.str [],.str [],.str [],.str [],.str [],.str []]:=by kernel_rfl
theorem ts71:tsize prog 71=1:=by kernel_rfl
theorem ts72:tsize prog 72=3:=by kernel_rfl
theorem fl72:Go.Av.AaB prog 72=true:=by kernel_rfl
theorem ts73:tsize prog 73=3:=by kernel_rfl
theorem tb73:AaK prog 73=48:=by kernel_rfl
theorem zv73:zval prog 73=.agg [.str [],.int .i64 0,.raw (.slice none 0 0)]:=by kernel_rfl
theorem zk73:zok prog 73=true:=by kernel_rfl
theorem za73:zav prog 73=[.str [],.int .i64 0,.raw (.slice none 0 0)]:=by kernel_rfl
theorem fl73:Go.Av.AaB prog 73=true:=by kernel_rfl
theorem ts77:tsize prog 77=1:=by kernel_rfl
theorem ts78:tsize prog 78=9:=by kernel_rfl
theorem fl78:Go.Av.AaB prog 78=true:=by kernel_rfl
theorem ts79:tsize prog 79=9:=by kernel_rfl
theorem tb79:AaK prog 79=96:=by kernel_rfl
theorem za79:zav prog 79=[.str [],.int .i64 0,.int .i64 0,.int .i64 0,.int .i64 0,.raw (.slice none 0 0),.int .i64 0,.int .i64 0,.int .i64 0]:=by kernel_rfl
theorem fl79:Go.Av.AaB prog 79=true:=by kernel_rfl
theorem ts89:tsize prog 89=9:=by kernel_rfl
theorem fl89:Go.Av.AaB prog 89=true:=by kernel_rfl
theorem ts90:tsize prog 90=9:=by kernel_rfl
theorem za90:zav prog 90=[.str [],.int .i64 0,.int .i64 0,.int .i64 0,.int .i64 0,.int .i64 0,.int .i64 0,.int .i64 0,.int .i64 0]:=by kernel_rfl
theorem fl90:Go.Av.AaB prog 90=true:=by kernel_rfl
theorem ts91:tsize prog 91=1:=by kernel_rfl
theorem ts92:tsize prog 92=1:=by kernel_rfl
theorem ts93:tsize prog 93=1:=by kernel_rfl
theorem ts94:tsize prog 94=5:=by kernel_rfl
theorem fl94:Go.Av.AaB prog 94=true:=by kernel_rfl
theorem ts95:tsize prog 95=5:=by kernel_rfl
theorem za95:zav prog 95=[.int .i64 0,.raw (.slice none 0 0),.raw (.slice none 0 0),.raw (.slice none 0 0),.raw (.slice none 0 0)]:=by kernel_rfl
theorem fl95:Go.Av.AaB prog 95=true:=by kernel_rfl
theorem ts98:tsize prog 98=1:=by kernel_rfl
theorem ts99:tsize prog 99=3:=by kernel_rfl
theorem fl99:Go.Av.AaB prog 99=true:=by kernel_rfl
theorem ts100:tsize prog 100=3:=by kernel_rfl
theorem tb100:AaK prog 100=56:=by kernel_rfl
theorem za100:zav prog 100=[.int .i64 0,.raw (.slice none 0 0),.raw (.slice none 0 0)]:=by kernel_rfl
theorem fl100:Go.Av.AaB prog 100=true:=by kernel_rfl
theorem ts103:tsize prog 103=1:=by kernel_rfl
theorem ts106:tsize prog 106=16:=by kernel_rfl
theorem fl106:Go.Av.AaB prog 106=true:=by kernel_rfl
theorem ts107:tsize prog 107=16:=by kernel_rfl
theorem tb107:AaK prog 107=152:=by kernel_rfl
theorem za107:zav prog 107=[.str [],.int .i64 0,.int .i64 0,.int .i64 0,.int .i64 0,.int .i64 0,.int .i64 0,.raw (.slice none 0 0),.int .i64 0,.int .i64 0,.int .i64 0,.int .i64 0,.int .i64 0,.int .i64 0,.int .i64 0,.int .i64 0]:=by kernel_rfl
theorem fl107:Go.Av.AaB prog 107=true:=by kernel_rfl
theorem ts108:tsize prog 108=1:=by kernel_rfl
theorem ts109:tsize prog 109=1:=by kernel_rfl
theorem ts110:tsize prog 110=4:=by kernel_rfl
theorem fl110:Go.Av.AaB prog 110=true:=by kernel_rfl
theorem ts111:tsize prog 111=4:=by kernel_rfl
theorem tb111:AaK prog 111=40:=by kernel_rfl
theorem za111:zav prog 111=[.str [],.int .i64 0,.int .i64 0,.int .i64 0]:=by kernel_rfl
theorem fl111:Go.Av.AaB prog 111=true:=by kernel_rfl
theorem ts113:tsize prog 113=5:=by kernel_rfl
theorem fl113:Go.Av.AaB prog 113=true:=by kernel_rfl
theorem ts114:tsize prog 114=5:=by kernel_rfl
theorem tb114:AaK prog 114=40:=by kernel_rfl
theorem za114:zav prog 114=[.int .i64 0,.int .i64 0,.int .i64 0,.int .i64 0,.int .i64 0]:=by kernel_rfl
theorem fl114:Go.Av.AaB prog 114=true:=by kernel_rfl
theorem ts115:tsize prog 115=6:=by kernel_rfl
theorem ts117:tsize prog 117=4:=by kernel_rfl
theorem ts119:tsize prog 119=3:=by kernel_rfl
theorem fl119:Go.Av.AaB prog 119=true:=by kernel_rfl
theorem ts120:tsize prog 120=3:=by kernel_rfl
theorem tb120:AaK prog 120=40:=by kernel_rfl
theorem za120:zav prog 120=[.str [],.str [],.int .i64 0]:=by kernel_rfl
theorem fl120:Go.Av.AaB prog 120=true:=by kernel_rfl
theorem ts121:tsize prog 121=3:=by kernel_rfl
theorem za121:zav prog 121=[.str [],.str [],.str []]:=by kernel_rfl
theorem ts122:tsize prog 122=2:=by kernel_rfl
theorem fl122:Go.Av.AaB prog 122=true:=by kernel_rfl
theorem ts123:tsize prog 123=2:=by kernel_rfl
theorem za123:zav prog 123=[.int .i64 0,.str []]:=by kernel_rfl
theorem fl123:Go.Av.AaB prog 123=true:=by kernel_rfl
theorem ts125:tsize prog 125=4:=by kernel_rfl
theorem fl125:Go.Av.AaB prog 125=false:=by kernel_rfl
theorem lf125:Go.Av.leafTs prog 4 125=[3,9,9,9]:=by kernel_rfl
theorem ts126:tsize prog 126=4:=by kernel_rfl
theorem tb126:AaK prog 126=56:=by kernel_rfl
theorem za126:zav prog 126=[.int .i64 0,.str [],.str [],.str []]:=by kernel_rfl
theorem fl126:Go.Av.AaB prog 126=false:=by kernel_rfl
theorem lf126:Go.Av.leafTs prog 4 126=[3,9,9,9]:=by kernel_rfl
theorem ts133:tsize prog 133=1:=by kernel_rfl
theorem ts137:tsize prog 137=1:=by kernel_rfl
theorem ts139:tsize prog 139=1:=by kernel_rfl
theorem zv139:zval prog 139=.raw (.map none):=by kernel_rfl
theorem zk139:zok prog 139=true:=by kernel_rfl
theorem ts140:tsize prog 140=1:=by kernel_rfl
theorem ts141:tsize prog 141=1:=by kernel_rfl
theorem ts142:tsize prog 142=1:=by kernel_rfl
theorem ts143:tsize prog 143=1:=by kernel_rfl
theorem ts144:tsize prog 144=19:=by kernel_rfl
theorem ts145:tsize prog 145=19:=by kernel_rfl
theorem fl150:Go.Av.AaB prog 150=false:=by kernel_rfl
theorem lf150:Go.Av.leafTs prog 4 150=[26,27,28,29,3]:=by kernel_rfl
theorem fl151:Go.Av.AaB prog 151=false:=by kernel_rfl
theorem lf151:Go.Av.leafTs prog 4 151=[26,27,28,29,3]:=by kernel_rfl
theorem fl157:Go.Av.AaB prog 157=true:=by kernel_rfl
theorem fl158:Go.Av.AaB prog 158=true:=by kernel_rfl
theorem fl159:Go.Av.AaB prog 159=false:=by kernel_rfl
theorem lf159:Go.Av.leafTs prog 4 159=[82,9,3,3,3,3,3,3,3,3,3,54,91]:=by kernel_rfl
theorem fl160:Go.Av.AaB prog 160=false:=by kernel_rfl
theorem lf160:Go.Av.leafTs prog 4 160=[82,9,3,3,3,3,3,3,3,3,3,54,91]:=by kernel_rfl
theorem ts166:tsize prog 166=6:=by kernel_rfl
theorem fl166:Go.Av.AaB prog 166=true:=by kernel_rfl
theorem ts167:tsize prog 167=6:=by kernel_rfl
theorem tb167:AaK prog 167=56:=by kernel_rfl
theorem za167:zav prog 167=[.str [],.int .i64 0,.int .i64 0,.int .i64 0,.int .i64 0,.int .i64 0]:=by kernel_rfl
theorem fl167:Go.Av.AaB prog 167=true:=by kernel_rfl
theorem fl168:Go.Av.AaB prog 168=false:=by kernel_rfl
theorem lf168:Go.Av.leafTs prog 4 168=[9,3,3,3,3,3,9,9,3]:=by kernel_rfl
theorem fl169:Go.Av.AaB prog 169=false:=by kernel_rfl
theorem lf169:Go.Av.leafTs prog 4 169=[9,3,3,3,3,3,9,9,3]:=by kernel_rfl
theorem ts184:tsize prog 184=4:=by kernel_rfl
theorem fl184:Go.Av.AaB prog 184=true:=by kernel_rfl
theorem ts185:tsize prog 185=4:=by kernel_rfl
theorem tb185:AaK prog 185=56:=by kernel_rfl
theorem za185:zav prog 185=[.str [],.int .i64 0,.int .i64 0,.raw (.slice none 0 0)]:=by kernel_rfl
theorem fl185:Go.Av.AaB prog 185=true:=by kernel_rfl
theorem ts192:tsize prog 192=2:=by kernel_rfl
theorem fl192:Go.Av.AaB prog 192=true:=by kernel_rfl
theorem ts193:tsize prog 193=2:=by kernel_rfl
theorem tb193:AaK prog 193=16:=by kernel_rfl
theorem za193:zav prog 193=[.int .i64 0,.int .i64 0]:=by kernel_rfl
theorem fl193:Go.Av.AaB prog 193=true:=by kernel_rfl
theorem ts194:tsize prog 194=3:=by kernel_rfl
theorem fl194:Go.Av.AaB prog 194=true:=by kernel_rfl
theorem ts195:tsize prog 195=3:=by kernel_rfl
theorem tb195:AaK prog 195=24:=by kernel_rfl
theorem za195:zav prog 195=[.int .i64 0,.int .i64 0,.int .i64 0]:=by kernel_rfl
theorem fl195:Go.Av.AaB prog 195=true:=by kernel_rfl
theorem ts208:tsize prog 208=1:=by kernel_rfl
theorem ts210:tsize prog 210=1:=by kernel_rfl
theorem ts212:tsize prog 212=1:=by kernel_rfl
theorem tb212:AaK prog 212=8:=by kernel_rfl
theorem za212:zav prog 212=[.raw (.map none)]:=by kernel_rfl
theorem ts213:tsize prog 213=1:=by kernel_rfl
theorem tb213:AaK prog 213=8:=by kernel_rfl
theorem za213:zav prog 213=[.raw (.map none)]:=by kernel_rfl
theorem ts214:tsize prog 214=3:=by kernel_rfl
theorem fl214:Go.Av.AaB prog 214=false:=by kernel_rfl
theorem lf214:Go.Av.leafTs prog 4 214=[3,9,9]:=by kernel_rfl
theorem ts215:tsize prog 215=3:=by kernel_rfl
theorem za215:zav prog 215=[.int .i64 0,.str [],.str []]:=by kernel_rfl
theorem fl215:Go.Av.AaB prog 215=false:=by kernel_rfl
theorem lf215:Go.Av.leafTs prog 4 215=[3,9,9]:=by kernel_rfl
theorem ts241:tsize prog 241=4:=by kernel_rfl
theorem fl241:Go.Av.AaB prog 241=true:=by kernel_rfl
theorem ts242:tsize prog 242=4:=by kernel_rfl
theorem tb242:AaK prog 242=56:=by kernel_rfl
theorem za242:zav prog 242=[.int .i64 0,.int .i64 0,.str [],.raw (.slice none 0 0)]:=by kernel_rfl
theorem fl242:Go.Av.AaB prog 242=true:=by kernel_rfl
theorem fl248:Go.Av.AaB prog 248=true:=by kernel_rfl
theorem fl249:Go.Av.AaB prog 249=true:=by kernel_rfl
theorem ts256:tsize prog 256=2:=by kernel_rfl
theorem tb256:AaK prog 256=16:=by kernel_rfl
theorem za256:zav prog 256=[.int .i64 0,.int .i64 0]:=by kernel_rfl
theorem fl256:Go.Av.AaB prog 256=true:=by kernel_rfl
theorem fl260:Go.Av.AaB prog 260=true:=by kernel_rfl
theorem fl261:Go.Av.AaB prog 261=true:=by kernel_rfl
theorem fl270:Go.Av.AaB prog 270=true:=by kernel_rfl
theorem fl271:Go.Av.AaB prog 271=true:=by kernel_rfl
theorem ts292:tsize prog 292=1:=by kernel_rfl
theorem ts293:tsize prog 293=2:=by kernel_rfl
theorem fl293:Go.Av.AaB prog 293=true:=by kernel_rfl
theorem ts294:tsize prog 294=2:=by kernel_rfl
theorem za294:zav prog 294=[.str [],.str []]:=by kernel_rfl
theorem fl294:Go.Av.AaB prog 294=true:=by kernel_rfl
theorem ts338:tsize prog 338=1:=by kernel_rfl
theorem ts362:tsize prog 362=4:=by kernel_rfl
theorem fl362:Go.Av.AaB prog 362=true:=by kernel_rfl
theorem ts363:tsize prog 363=4:=by kernel_rfl
theorem za363:zav prog 363=[.int .i64 0,.int .i64 0,.int .i64 0,.int .i64 0]:=by kernel_rfl
theorem fl363:Go.Av.AaB prog 363=true:=by kernel_rfl
theorem fl373:Go.Av.AaB prog 373=true:=by kernel_rfl
theorem fl374:Go.Av.AaB prog 374=true:=by kernel_rfl
theorem fl390:Go.Av.AaB prog 390=true:=by kernel_rfl
theorem fl391:Go.Av.AaB prog 391=true:=by kernel_rfl
theorem ts397:tsize prog 397=1:=by kernel_rfl
theorem fl397:Go.Av.AaB prog 397=true:=by kernel_rfl
theorem ts398:tsize prog 398=1:=by kernel_rfl
theorem fl398:Go.Av.AaB prog 398=true:=by kernel_rfl
theorem ts405:tsize prog 405=20:=by kernel_rfl
theorem fl410:Go.Av.AaB prog 410=true:=by kernel_rfl
theorem fl411:Go.Av.AaB prog 411=true:=by kernel_rfl
theorem fl420:Go.Av.AaB prog 420=true:=by kernel_rfl
theorem fl421:Go.Av.AaB prog 421=true:=by kernel_rfl
