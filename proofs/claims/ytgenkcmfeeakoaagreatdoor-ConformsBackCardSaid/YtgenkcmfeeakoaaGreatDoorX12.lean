/- Closed facts of this seat's program, written by a program of this seat: which functions. -/
import Derived.Test.YtgenkcmfeeakoaaGreatDoorX11
set_option maxRecDepth 100000
set_option linter.all false
open Go Go.Av Go.RowKit
namespace Go.Av
variable[Tr]
section
variable{c:Cx}{k:List It}{e:Env}{s:LB}{f:FuncId}{args:LA}{d:Option Tmp}{all os:List Oper}
theorem zgB(h:run true true c.fn.ntmps c 300 k e s):AWp c k e s:=goB rfl 300 h
theorem zpB{r:AV}(hc:Pc c.P f args (·=r))(h:run true true c.fn.ntmps c 300 (.ops all os::k) (put e d r) s)(ha:args.all nr1=true:=by rfl)(hd:dOk c.fn.ntmps d=true:=by rfl):AeM c f args d all os k e s:=AaX hc ha rfl hd (zgB h)
theorem zqB{g:Std}(hg:Le g c.w c.ρ){r:AV}(hc:PcH c.P g f args (·=r))(h:run true true c.fn.ntmps c 300 (.ops all os::k) (put e d r) s)(ha:args.all nr1=true:=by rfl)(hd:dOk c.fn.ntmps d=true:=by rfl):AeM c f args d all os k e s:=AuN hg hc ha rfl hd (zgB h)
theorem zgF(h:run false true c.fn.ntmps c 300 k e s):AWp c k e s:=goF rfl 300 h
theorem zpF{r:AV}(hc:Pc c.P f args (·=r))(h:run false true c.fn.ntmps c 300 (.ops all os::k) (put e d r) s)(ha:args.all nr1=true:=by rfl)(hd:dOk c.fn.ntmps d=true:=by rfl):AeM c f args d all os k e s:=AaX hc ha rfl hd (zgF h)
theorem zqF{g:Std}(hg:Le g c.w c.ρ){r:AV}(hc:PcH c.P g f args (·=r))(h:run false true c.fn.ntmps c 300 (.ops all os::k) (put e d r) s)(ha:args.all nr1=true:=by rfl)(hd:dOk c.fn.ntmps d=true:=by rfl):AeM c f args d all os k e s:=AuN hg hc ha rfl hd (zgF h)
theorem zgN(h:run false false c.fn.ntmps c 300 k e s):AWp c k e s:=go rfl 300 h
theorem zpN{r:AV}(hc:Pc c.P f args (·=r))(h:run false false c.fn.ntmps c 300 (.ops all os::k) (put e d r) s)(ha:args.all nr1=true:=by rfl)(hd:dOk c.fn.ntmps d=true:=by rfl):AeM c f args d all os k e s:=AaX hc ha rfl hd (zgN h)
theorem zqN{g:Std}(hg:Le g c.w c.ρ){r:AV}(hc:PcH c.P g f args (·=r))(h:run false false c.fn.ntmps c 300 (.ops all os::k) (put e d r) s)(ha:args.all nr1=true:=by rfl)(hd:dOk c.fn.ntmps d=true:=by rfl):AeM c f args d all os k e s:=AuN hg hc ha rfl hd (zgN h)
theorem zgW(h:run true false c.fn.ntmps c 300 k e s):AWp c k e s:=goW rfl 300 h
theorem za{post:AV->LB->Prop}(hc:Ct c.P f args s post)(hk:∀ r s',post r s'->AWp c (.ops all os::k) (put e d r) s')(hd:dOk c.fn.ntmps d=true:=by rfl):AeM c f args d all os k e s:=BmW hc rfl hd hk
theorem zaH{g:Std}(hg:Le g c.w c.ρ){post:AV->LB->Prop}(hc:CtH c.P g f args s post)(hk:∀ r s',post r s'->AWp c (.ops all os::k) (put e d r) s')(hd:dOk c.fn.ntmps d=true:=by rfl):AeM c f args d all os k e s:=BdT hg hc rfl hd hk
theorem ze{post:AV->Prop}(hc:Pc c.P f args post)(hk:∀ r,post r->AWp c (.ops all os::k) (put e d r) s)(ha:args.all nr1=true:=by rfl)(hd:dOk c.fn.ntmps d=true:=by rfl):AeM c f args d all os k e s:=A9H hc ha rfl hd hk
theorem zeH{g:Std}(hg:Le g c.w c.ρ){post:AV->Prop}(hc:PcH c.P g f args post)(hk:∀ r,post r->AWp c (.ops all os::k) (put e d r) s)(ha:args.all nr1=true:=by rfl)(hd:dOk c.fn.ntmps d=true:=by rfl):AeM c f args d all os k e s:=AxJ hg hc ha rfl hd hk
theorem zm(id:Nat){es:Nat}{agg:AV}{post:AV->AV->Prop}(hc:Mc c.P f es agg args post)(hk:∀ r agg',post r agg'->AWp c (.ops all os::k) (put e d r) (s.set id (.arr es [agg'])))(ha:args.all nr1=true:=by rfl)(hg:nr1 agg=true:=by rfl)(hid:s[id]?=some (.arr es [agg]):=by rfl)(hd:dOk c.fn.ntmps d=true:=by rfl):AeM c f (.ptr id 1 0 0::args) d all os k e s:=A9I hc ha hg hid rfl hd hk
theorem zmH(id:Nat){g:Std}(hle:Le g c.w c.ρ){es:Nat}{agg:AV}{post:AV->AV->Prop}(hc:McH c.P g f es agg args post)(hk:∀ r agg',post r agg'->AWp c (.ops all os::k) (put e d r) (s.set id (.arr es [agg'])))(ha:args.all nr1=true:=by rfl)(hg:nr1 agg=true:=by rfl)(hid:s[id]?=some (.arr es [agg]):=by rfl)(hd:dOk c.fn.ntmps d=true:=by rfl):AeM c f (.ptr id 1 0 0::args) d all os k e s:=BdU hle hc ha hg hid rfl hd hk
theorem zr(cs:LA){id:Nat}{ops:List Oper}(hm:c.P.follows .mixedOrders=true)(h:dx c ops k 100 ops cs e s)(hok:BdP ops=true:=by decide)(hdst:ops.all (fun o=>dOk c.fn.ntmps o.dst)=true:=by rfl):AWp c (.code (.region id ops.toArray true)::k) e s:=adraw cs hm hok rfl hdst 100 h
end
theorem zcIB{P:Program}{f:FuncId}{fn:Func}{body:Code}{args:LA}{sto:LB}{post:AV->LB->Prop}(hf:P.funcs[f]?=some fn)(hb:fn.body=some body)(h:∀ h ρ w,run true true fn.ntmps ⟨P,fn,h,ρ,sto,w,post,X0,stb0⟩ 300 [.code body] (args0 0 args) sto)(ha:Nat.ble args.length fn.ntmps=true:=by rfl)(hx:AaB P f=true:=by kernel_rfl):Ct P f args sto post:=AbC hf hb rfl hx (Nat.le_of_ble_eq_true ha) fun a b c=>zgB (h a b c)
theorem zdIB{P:Program}{g:Std}{f:FuncId}{fn:Func}{body:Code}{args:LA}{sto:LB}{post:AV->LB->Prop}(hf:P.funcs[f]?=some fn)(hb:fn.body=some body)(h:∀ h ρ w,Le g w ρ->run true true fn.ntmps ⟨P,fn,h,ρ,sto,w,post,X0,stb0⟩ 300 [.code body] (args0 0 args) sto)(ha:Nat.ble args.length fn.ntmps=true:=by rfl)(hx:AaB P f=true:=by kernel_rfl):CtH P g f args sto post:=AgX hf hb rfl hx (Nat.le_of_ble_eq_true ha) fun a b c d=>zgB (h a b c d)
theorem zpIB{P:Program}{f:FuncId}{fn:Func}{body:Code}{args:LA}{post:AV->Prop}(hf:P.funcs[f]?=some fn)(hb:fn.body=some body)(h:∀ h ρ w,run true true fn.ntmps ⟨P,fn,h,ρ,[],w,fun r _=>post r/\nr2 r=true,X0,stb0⟩ 300 [.code body] (args0 0 args) [])(ha:Nat.ble args.length fn.ntmps=true:=by rfl)(hx:AaB P f=true:=by kernel_rfl):Pc P f args post:=AbV (zcIB hf hb h ha hx)
theorem zqIB{P:Program}{g:Std}{f:FuncId}{fn:Func}{body:Code}{args:LA}{post:AV->Prop}(hf:P.funcs[f]?=some fn)(hb:fn.body=some body)(h:∀ h ρ w,Le g w ρ->run true true fn.ntmps ⟨P,fn,h,ρ,[],w,fun r _=>post r/\nr2 r=true,X0,stb0⟩ 300 [.code body] (args0 0 args) [])(ha:Nat.ble args.length fn.ntmps=true:=by rfl)(hx:AaB P f=true:=by kernel_rfl):PcH P g f args post:=AgY (zdIB hf hb h ha hx)
theorem zcIF{P:Program}{f:FuncId}{fn:Func}{body:Code}{args:LA}{sto:LB}{post:AV->LB->Prop}(hf:P.funcs[f]?=some fn)(hb:fn.body=some body)(h:∀ h ρ w,run false true fn.ntmps ⟨P,fn,h,ρ,sto,w,post,X0,stb0⟩ 300 [.code body] (args0 0 args) sto)(ha:Nat.ble args.length fn.ntmps=true:=by rfl)(hx:AaB P f=true:=by kernel_rfl):Ct P f args sto post:=AbC hf hb rfl hx (Nat.le_of_ble_eq_true ha) fun a b c=>zgF (h a b c)
theorem zdIF{P:Program}{g:Std}{f:FuncId}{fn:Func}{body:Code}{args:LA}{sto:LB}{post:AV->LB->Prop}(hf:P.funcs[f]?=some fn)(hb:fn.body=some body)(h:∀ h ρ w,Le g w ρ->run false true fn.ntmps ⟨P,fn,h,ρ,sto,w,post,X0,stb0⟩ 300 [.code body] (args0 0 args) sto)(ha:Nat.ble args.length fn.ntmps=true:=by rfl)(hx:AaB P f=true:=by kernel_rfl):CtH P g f args sto post:=AgX hf hb rfl hx (Nat.le_of_ble_eq_true ha) fun a b c d=>zgF (h a b c d)
theorem zpIF{P:Program}{f:FuncId}{fn:Func}{body:Code}{args:LA}{post:AV->Prop}(hf:P.funcs[f]?=some fn)(hb:fn.body=some body)(h:∀ h ρ w,run false true fn.ntmps ⟨P,fn,h,ρ,[],w,fun r _=>post r/\nr2 r=true,X0,stb0⟩ 300 [.code body] (args0 0 args) [])(ha:Nat.ble args.length fn.ntmps=true:=by rfl)(hx:AaB P f=true:=by kernel_rfl):Pc P f args post:=AbV (zcIF hf hb h ha hx)
theorem zqIF{P:Program}{g:Std}{f:FuncId}{fn:Func}{body:Code}{args:LA}{post:AV->Prop}(hf:P.funcs[f]?=some fn)(hb:fn.body=some body)(h:∀ h ρ w,Le g w ρ->run false true fn.ntmps ⟨P,fn,h,ρ,[],w,fun r _=>post r/\nr2 r=true,X0,stb0⟩ 300 [.code body] (args0 0 args) [])(ha:Nat.ble args.length fn.ntmps=true:=by rfl)(hx:AaB P f=true:=by kernel_rfl):PcH P g f args post:=AgY (zdIF hf hb h ha hx)
theorem zcIN{P:Program}{f:FuncId}{fn:Func}{body:Code}{args:LA}{sto:LB}{post:AV->LB->Prop}(hf:P.funcs[f]?=some fn)(hb:fn.body=some body)(h:∀ h ρ w,run false false fn.ntmps ⟨P,fn,h,ρ,sto,w,post,X0,stb0⟩ 300 [.code body] (args0 0 args) sto)(ha:Nat.ble args.length fn.ntmps=true:=by rfl)(hx:AaB P f=true:=by kernel_rfl):Ct P f args sto post:=AbC hf hb rfl hx (Nat.le_of_ble_eq_true ha) fun a b c=>zgN (h a b c)
theorem zdIN{P:Program}{g:Std}{f:FuncId}{fn:Func}{body:Code}{args:LA}{sto:LB}{post:AV->LB->Prop}(hf:P.funcs[f]?=some fn)(hb:fn.body=some body)(h:∀ h ρ w,Le g w ρ->run false false fn.ntmps ⟨P,fn,h,ρ,sto,w,post,X0,stb0⟩ 300 [.code body] (args0 0 args) sto)(ha:Nat.ble args.length fn.ntmps=true:=by rfl)(hx:AaB P f=true:=by kernel_rfl):CtH P g f args sto post:=AgX hf hb rfl hx (Nat.le_of_ble_eq_true ha) fun a b c d=>zgN (h a b c d)
theorem zpIN{P:Program}{f:FuncId}{fn:Func}{body:Code}{args:LA}{post:AV->Prop}(hf:P.funcs[f]?=some fn)(hb:fn.body=some body)(h:∀ h ρ w,run false false fn.ntmps ⟨P,fn,h,ρ,[],w,fun r _=>post r/\nr2 r=true,X0,stb0⟩ 300 [.code body] (args0 0 args) [])(ha:Nat.ble args.length fn.ntmps=true:=by rfl)(hx:AaB P f=true:=by kernel_rfl):Pc P f args post:=AbV (zcIN hf hb h ha hx)
theorem zqIN{P:Program}{g:Std}{f:FuncId}{fn:Func}{body:Code}{args:LA}{post:AV->Prop}(hf:P.funcs[f]?=some fn)(hb:fn.body=some body)(h:∀ h ρ w,Le g w ρ->run false false fn.ntmps ⟨P,fn,h,ρ,[],w,fun r _=>post r/\nr2 r=true,X0,stb0⟩ 300 [.code body] (args0 0 args) [])(ha:Nat.ble args.length fn.ntmps=true:=by rfl)(hx:AaB P f=true:=by kernel_rfl):PcH P g f args post:=AgY (zdIN hf hb h ha hx)
theorem zcIW{P:Program}{f:FuncId}{fn:Func}{body:Code}{args:LA}{sto:LB}{post:AV->LB->Prop}(hf:P.funcs[f]?=some fn)(hb:fn.body=some body)(h:∀ h ρ w,run true false fn.ntmps ⟨P,fn,h,ρ,sto,w,post,X0,stb0⟩ 300 [.code body] (args0 0 args) sto)(ha:Nat.ble args.length fn.ntmps=true:=by rfl)(hx:AaB P f=true:=by kernel_rfl):Ct P f args sto post:=AbC hf hb rfl hx (Nat.le_of_ble_eq_true ha) fun a b c=>zgW (h a b c)
theorem zdIW{P:Program}{g:Std}{f:FuncId}{fn:Func}{body:Code}{args:LA}{sto:LB}{post:AV->LB->Prop}(hf:P.funcs[f]?=some fn)(hb:fn.body=some body)(h:∀ h ρ w,Le g w ρ->run true false fn.ntmps ⟨P,fn,h,ρ,sto,w,post,X0,stb0⟩ 300 [.code body] (args0 0 args) sto)(ha:Nat.ble args.length fn.ntmps=true:=by rfl)(hx:AaB P f=true:=by kernel_rfl):CtH P g f args sto post:=AgX hf hb rfl hx (Nat.le_of_ble_eq_true ha) fun a b c d=>zgW (h a b c d)
theorem zqIW{P:Program}{g:Std}{f:FuncId}{fn:Func}{body:Code}{args:LA}{post:AV->Prop}(hf:P.funcs[f]?=some fn)(hb:fn.body=some body)(h:∀ h ρ w,Le g w ρ->run true false fn.ntmps ⟨P,fn,h,ρ,[],w,fun r _=>post r/\nr2 r=true,X0,stb0⟩ 300 [.code body] (args0 0 args) [])(ha:Nat.ble args.length fn.ntmps=true:=by rfl)(hx:AaB P f=true:=by kernel_rfl):PcH P g f args post:=AgY (zdIW hf hb h ha hx)
theorem zt{c:Cx}{e:Env}{s:LB}(ts:List Tmp)(hr:c.fn.results=(ts.map ResultVar.tmp).toArray:=by rfl)(hp:c.post (resV e ts) s:=by exact⟨rfl,rfl⟩):ARet c e s:=aret ts hr hp
end Go.Av
namespace Go.Proofs.YtgenkcmfeeakoaaGreatDoor
open Av RowKit Proofs.Tryz
theorem AaI:prog.follows .mixedOrders=true:=by kernel_rfl
theorem hB2:AaB prog 2=true:=by kernel_rfl
theorem hB3:AaB prog 3=true:=by kernel_rfl
theorem hB4:AaB prog 4=true:=by kernel_rfl
theorem hB24:AaB prog 24=true:=by kernel_rfl
theorem hB29:AaB prog 29=true:=by kernel_rfl
theorem hB37:AaB prog 37=true:=by kernel_rfl
theorem hB38:AaB prog 38=true:=by kernel_rfl
theorem hB39:AaB prog 39=true:=by kernel_rfl
theorem hB58:AaB prog 58=true:=by kernel_rfl
theorem hB59:AaB prog 59=true:=by kernel_rfl
theorem hB68:AaB prog 68=true:=by kernel_rfl
theorem hB69:AaB prog 69=true:=by kernel_rfl
theorem hB81:AaB prog 81=true:=by kernel_rfl
theorem hB82:AaB prog 82=true:=by kernel_rfl
theorem hB83:AaB prog 83=true:=by kernel_rfl
theorem hB84:AaB prog 84=true:=by kernel_rfl
theorem hB96:AaB prog 96=true:=by kernel_rfl
theorem hB97:AaB prog 97=true:=by kernel_rfl
theorem hB115:AaB prog 115=true:=by kernel_rfl
theorem hB118:AaB prog 118=true:=by kernel_rfl
theorem hB120:AaB prog 120=true:=by kernel_rfl
theorem hB121:AaB prog 121=true:=by kernel_rfl
theorem hB122:AaB prog 122=true:=by kernel_rfl
theorem hB134:AaB prog 134=true:=by kernel_rfl
theorem hB143:AaB prog 143=true:=by kernel_rfl
theorem hB146:AaB prog 146=true:=by kernel_rfl
theorem hB153:AaB prog 153=true:=by kernel_rfl
theorem hB156:AaB prog 156=true:=by kernel_rfl
theorem hB157:AaB prog 157=true:=by kernel_rfl
theorem hB163:AaB prog 163=true:=by kernel_rfl
theorem hB164:AaB prog 164=true:=by kernel_rfl
theorem hB172:AaB prog 172=true:=by kernel_rfl
theorem hB177:AaB prog 177=true:=by kernel_rfl
theorem hB183:AaB prog 183=true:=by kernel_rfl
theorem hB207:AaB prog 207=true:=by kernel_rfl
theorem hB208:AaB prog 208=true:=by kernel_rfl
theorem hB209:AaB prog 209=true:=by kernel_rfl
theorem hB213:AaB prog 213=true:=by kernel_rfl
theorem hB214:AaB prog 214=true:=by kernel_rfl
theorem hB244:AaB prog 244=true:=by kernel_rfl
theorem hB262:AaB prog 262=true:=by kernel_rfl
theorem ts2:tsize prog 2=1:=by kernel_rfl
theorem ts3:tsize prog 3=1:=by kernel_rfl
theorem tb3:AaW prog 3=8:=by kernel_rfl
theorem zv3:zval prog 3=.int .i64 0:=by kernel_rfl
theorem zk3:zok prog 3=true:=by kernel_rfl
theorem za3:zav prog 3=[.int .i64 0]:=by kernel_rfl
theorem ts4:tsize prog 4=1:=by kernel_rfl
theorem tb4:AaW prog 4=1:=by kernel_rfl
theorem zv4:zval prog 4=.bool false:=by kernel_rfl
theorem zk4:zok prog 4=true:=by kernel_rfl
theorem za4:zav prog 4=[.bool false]:=by kernel_rfl
theorem ts5:tsize prog 5=1:=by kernel_rfl
theorem tb5:AaW prog 5=1:=by kernel_rfl
theorem za5:zav prog 5=[.int .u8 0]:=by kernel_rfl
theorem fl7:Go.Av.AaL prog 7=true:=by kernel_rfl
theorem fl8:Go.Av.AaL prog 8=true:=by kernel_rfl
theorem ts9:tsize prog 9=1:=by kernel_rfl
theorem tb9:AaW prog 9=16:=by kernel_rfl
theorem za9:zav prog 9=[.str []]:=by kernel_rfl
theorem ts10:tsize prog 10=1:=by kernel_rfl
theorem fl13:Go.Av.AaL prog 13=true:=by kernel_rfl
theorem fl14:Go.Av.AaL prog 14=true:=by kernel_rfl
theorem fl18:Go.Av.AaL prog 18=true:=by kernel_rfl
theorem fl19:Go.Av.AaL prog 19=true:=by kernel_rfl
theorem ts22:tsize prog 22=1:=by kernel_rfl
theorem ts24:tsize prog 24=2:=by kernel_rfl
theorem fl24:Go.Av.AaL prog 24=true:=by kernel_rfl
theorem ts25:tsize prog 25=2:=by kernel_rfl
theorem za25:zav prog 25=[.raw (.slice none 0 0),.int .i64 0]:=by kernel_rfl
theorem fl25:Go.Av.AaL prog 25=true:=by kernel_rfl
theorem ts26:tsize prog 26=1:=by kernel_rfl
theorem ts27:tsize prog 27=2:=by kernel_rfl
theorem fl27:Go.Av.AaL prog 27=true:=by kernel_rfl
theorem ts28:tsize prog 28=2:=by kernel_rfl
theorem za28:zav prog 28=[.str [],.raw (.slice none 0 0)]:=by kernel_rfl
theorem fl28:Go.Av.AaL prog 28=true:=by kernel_rfl
theorem ts29:tsize prog 29=1:=by kernel_rfl
theorem ts30:tsize prog 30=1:=by kernel_rfl
theorem za30:zav prog 30=[.raw (.slice none 0 0)]:=by kernel_rfl
theorem ts34:tsize prog 34=1:=by kernel_rfl
theorem tb34:AaW prog 34=24:=by kernel_rfl
theorem za34:zav prog 34=[.raw (.slice none 0 0)]:=by kernel_rfl
theorem ts35:tsize prog 35=1:=by kernel_rfl
theorem ts36:tsize prog 36=5:=by kernel_rfl
theorem fl36:Go.Av.AaL prog 36=false:=by kernel_rfl
theorem lf36:Go.Av.leafTs prog 4 36=[3,9,26,34,35]:=by kernel_rfl
theorem ts37:tsize prog 37=5:=by kernel_rfl
theorem za37:zav prog 37=[.int .i64 0,.str [],.raw (.slice none 0 0),.raw (.slice none 0 0),.raw (.slice none 0 0)]:=by kernel_rfl
theorem fl37:Go.Av.AaL prog 37=false:=by kernel_rfl
theorem lf37:Go.Av.leafTs prog 4 37=[3,9,26,34,35]:=by kernel_rfl
theorem ts38:tsize prog 38=1:=by kernel_rfl
theorem tb38:AaW prog 38=8:=by kernel_rfl
theorem za38:zav prog 38=[.int .i64 0]:=by kernel_rfl
theorem ts46:tsize prog 46=1:=by kernel_rfl
theorem ts47:tsize prog 47=9:=by kernel_rfl
theorem fl47:Go.Av.AaL prog 47=true:=by kernel_rfl
theorem ts48:tsize prog 48=9:=by kernel_rfl
theorem tb48:AaW prog 48=120:=by kernel_rfl
theorem za48:zav prog 48=[.str [],.str [],.int .i64 0,.str [],.str [],.int .i64 0,.int .i64 0,.bool false,.raw (.slice none 0 0)]:=by kernel_rfl
theorem fl48:Go.Av.AaL prog 48=true:=by kernel_rfl
theorem ts52:tsize prog 52=4:=by kernel_rfl
theorem fl52:Go.Av.AaL prog 52=true:=by kernel_rfl
theorem ts53:tsize prog 53=4:=by kernel_rfl
theorem tb53:AaW prog 53=32:=by kernel_rfl
theorem za53:zav prog 53=[.int .i64 0,.int .i64 0,.int .i64 0,.bool false]:=by kernel_rfl
theorem fl53:Go.Av.AaL prog 53=true:=by kernel_rfl
theorem ts66:tsize prog 66=1:=by kernel_rfl
theorem ts67:tsize prog 67=5:=by kernel_rfl
theorem fl67:Go.Av.AaL prog 67=true:=by kernel_rfl
theorem ts68:tsize prog 68=5:=by kernel_rfl
theorem tb68:AaW prog 68=72:=by kernel_rfl
theorem za68:zav prog 68=[.str [],.int .i64 0,.str [],.int .i64 0,.raw (.slice none 0 0)]:=by kernel_rfl
theorem fl68:Go.Av.AaL prog 68=true:=by kernel_rfl
theorem ts71:tsize prog 71=1:=by kernel_rfl
theorem ts73:tsize prog 73=1:=by kernel_rfl
theorem ts75:tsize prog 75=2:=by kernel_rfl
theorem fl75:Go.Av.AaL prog 75=true:=by kernel_rfl
theorem ts76:tsize prog 76=2:=by kernel_rfl
theorem tb76:AaW prog 76=40:=by kernel_rfl
theorem za76:zav prog 76=[.str [],.raw (.slice none 0 0)]:=by kernel_rfl
theorem fl76:Go.Av.AaL prog 76=true:=by kernel_rfl
theorem ts78:tsize prog 78=4:=by kernel_rfl
theorem fl78:Go.Av.AaL prog 78=true:=by kernel_rfl
theorem ts79:tsize prog 79=4:=by kernel_rfl
theorem tb79:AaW prog 79=64:=by kernel_rfl
theorem za79:zav prog 79=[.str [],.int .i64 0,.str [],.raw (.slice none 0 0)]:=by kernel_rfl
theorem fl79:Go.Av.AaL prog 79=true:=by kernel_rfl
theorem ts92:tsize prog 92=1:=by kernel_rfl
theorem ts94:tsize prog 94=1:=by kernel_rfl
theorem ts96:tsize prog 96=1:=by kernel_rfl
theorem zv96:zval prog 96=.raw (.map none):=by kernel_rfl
theorem zk96:zok prog 96=true:=by kernel_rfl
theorem ts97:tsize prog 97=1:=by kernel_rfl
theorem ts101:tsize prog 101=2:=by kernel_rfl
theorem tb101:AaW prog 101=16:=by kernel_rfl
theorem za101:zav prog 101=[.int .i64 0,.int .i64 0]:=by kernel_rfl
theorem ts109:tsize prog 109=5:=by kernel_rfl
theorem fl109:Go.Av.AaL prog 109=true:=by kernel_rfl
theorem ts110:tsize prog 110=5:=by kernel_rfl
theorem tb110:AaW prog 110=48:=by kernel_rfl
theorem za110:zav prog 110=[.str [],.int .i64 0,.int .i64 0,.int .i64 0,.int .i64 0]:=by kernel_rfl
theorem fl110:Go.Av.AaL prog 110=true:=by kernel_rfl
theorem ts119:tsize prog 119=1:=by kernel_rfl
theorem ts126:tsize prog 126=1:=by kernel_rfl
theorem ts127:tsize prog 127=1:=by kernel_rfl
theorem tb127:AaW prog 127=24:=by kernel_rfl
theorem za127:zav prog 127=[.raw (.slice none 0 0)]:=by kernel_rfl
theorem ts128:tsize prog 128=2:=by kernel_rfl
theorem fl128:Go.Av.AaL prog 128=true:=by kernel_rfl
theorem ts129:tsize prog 129=2:=by kernel_rfl
theorem tb129:AaW prog 129=40:=by kernel_rfl
theorem za129:zav prog 129=[.str [],.raw (.slice none 0 0)]:=by kernel_rfl
theorem fl129:Go.Av.AaL prog 129=true:=by kernel_rfl
theorem ts130:tsize prog 130=1:=by kernel_rfl
theorem ts131:tsize prog 131=1:=by kernel_rfl
theorem ts141:tsize prog 141=1:=by kernel_rfl
theorem ts143:tsize prog 143=3:=by kernel_rfl
theorem fl143:Go.Av.AaL prog 143=true:=by kernel_rfl
theorem ts144:tsize prog 144=3:=by kernel_rfl
theorem tb144:AaW prog 144=64:=by kernel_rfl
theorem za144:zav prog 144=[.raw (.slice none 0 0),.raw (.slice none 0 0),.str []]:=by kernel_rfl
theorem fl144:Go.Av.AaL prog 144=true:=by kernel_rfl
theorem ts151:tsize prog 151=1:=by kernel_rfl
theorem ts152:tsize prog 152=1:=by kernel_rfl
theorem ts153:tsize prog 153=3:=by kernel_rfl
theorem fl153:Go.Av.AaL prog 153=true:=by kernel_rfl
theorem ts154:tsize prog 154=3:=by kernel_rfl
theorem za154:zav prog 154=[.str [],.str [],.int .i64 0]:=by kernel_rfl
theorem fl154:Go.Av.AaL prog 154=true:=by kernel_rfl
theorem ts159:tsize prog 159=1:=by kernel_rfl
theorem zv159:zval prog 159=.raw (.slice none 0 0):=by kernel_rfl
theorem zk159:zok prog 159=true:=by kernel_rfl
theorem ts160:tsize prog 160=2:=by kernel_rfl
theorem fl160:Go.Av.AaL prog 160=true:=by kernel_rfl
theorem ts161:tsize prog 161=2:=by kernel_rfl
theorem tb161:AaW prog 161=16:=by kernel_rfl
theorem za161:zav prog 161=[.int .i64 0,.int .i64 0]:=by kernel_rfl
theorem fl161:Go.Av.AaL prog 161=true:=by kernel_rfl
theorem ts166:tsize prog 166=2:=by kernel_rfl
theorem fl166:Go.Av.AaL prog 166=true:=by kernel_rfl
theorem ts167:tsize prog 167=2:=by kernel_rfl
theorem tb167:AaW prog 167=24:=by kernel_rfl
theorem za167:zav prog 167=[.int .i64 0,.str []]:=by kernel_rfl
theorem fl167:Go.Av.AaL prog 167=true:=by kernel_rfl
theorem ts169:tsize prog 169=1:=by kernel_rfl
theorem ts180:tsize prog 180=1:=by kernel_rfl
theorem ts186:tsize prog 186=1:=by kernel_rfl
theorem fl186:Go.Av.AaL prog 186=true:=by kernel_rfl
theorem ts187:tsize prog 187=1:=by kernel_rfl
theorem za187:zav prog 187=[.raw (.slice none 0 0)]:=by kernel_rfl
theorem fl187:Go.Av.AaL prog 187=true:=by kernel_rfl
theorem ts188:tsize prog 188=3:=by kernel_rfl
theorem fl188:Go.Av.AaL prog 188=true:=by kernel_rfl
theorem ts189:tsize prog 189=3:=by kernel_rfl
theorem tb189:AaW prog 189=56:=by kernel_rfl
theorem za189:zav prog 189=[.int .i64 0,.raw (.slice none 0 0),.raw (.slice none 0 0)]:=by kernel_rfl
theorem fl189:Go.Av.AaL prog 189=true:=by kernel_rfl
theorem ts198:tsize prog 198=1:=by kernel_rfl
theorem ts207:tsize prog 207=1:=by kernel_rfl
theorem ts228:tsize prog 228=2:=by kernel_rfl
theorem fl228:Go.Av.AaL prog 228=true:=by kernel_rfl
theorem ts229:tsize prog 229=2:=by kernel_rfl
theorem za229:zav prog 229=[.raw (.pointer none),.raw (.slice none 0 0)]:=by kernel_rfl
theorem fl229:Go.Av.AaL prog 229=true:=by kernel_rfl
theorem ts248:tsize prog 248=1:=by kernel_rfl
theorem ts256:tsize prog 256=1:=by kernel_rfl
theorem ts257:tsize prog 257=1:=by kernel_rfl
theorem tb257:AaW prog 257=2:=by kernel_rfl
theorem za257:zav prog 257=[.int .u16 0]:=by kernel_rfl
theorem ts258:tsize prog 258=5:=by kernel_rfl
theorem za258:zav prog 258=[.int .i64 0,.int .i64 0,.int .i64 0,.int .i64 0,.int .i64 0]:=by kernel_rfl
theorem fl265:Go.Av.AaL prog 265=true:=by kernel_rfl
theorem fl266:Go.Av.AaL prog 266=true:=by kernel_rfl
theorem fl274:Go.Av.AaL prog 274=true:=by kernel_rfl
theorem fl275:Go.Av.AaL prog 275=true:=by kernel_rfl
theorem ts285:tsize prog 285=20:=by kernel_rfl
theorem ts291:tsize prog 291=1:=by kernel_rfl
theorem fl291:Go.Av.AaL prog 291=true:=by kernel_rfl
theorem ts292:tsize prog 292=1:=by kernel_rfl
theorem fl292:Go.Av.AaL prog 292=true:=by kernel_rfl
theorem ts293:tsize prog 293=1:=by kernel_rfl
theorem fl298:Go.Av.AaL prog 298=true:=by kernel_rfl
theorem fl299:Go.Av.AaL prog 299=true:=by kernel_rfl
theorem fl300:Go.Av.AaL prog 300=true:=by kernel_rfl
theorem fl301:Go.Av.AaL prog 301=true:=by kernel_rfl
theorem fl303:Go.Av.AaL prog 303=true:=by kernel_rfl
theorem fl304:Go.Av.AaL prog 304=true:=by kernel_rfl
theorem fl310:Go.Av.AaL prog 310=true:=by kernel_rfl
theorem fl311:Go.Av.AaL prog 311=true:=by kernel_rfl
theorem fl318:Go.Av.AaL prog 318=true:=by kernel_rfl
theorem fl319:Go.Av.AaL prog 319=true:=by kernel_rfl
theorem fl328:Go.Av.AaL prog 328=true:=by kernel_rfl
theorem fl329:Go.Av.AaL prog 329=true:=by kernel_rfl
