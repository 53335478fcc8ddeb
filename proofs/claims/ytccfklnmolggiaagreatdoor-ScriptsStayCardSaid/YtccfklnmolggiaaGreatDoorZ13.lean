/- Closed facts of this seat's program, written by a program of this seat: which functions. -/
import Derived.Test.YtccfklnmolggiaaGreatDoorZ12
import Derived.Lib.ItoaNum
import Derived.ChangeSame
set_option maxRecDepth 100000
set_option linter.all false
open Go Go.Av Go.RowKit
namespace Go.Av
variable[Tr]
section
variable{c:Cx}{k:List It}{e:Env}{s:LB}{f:FuncId}{args:LY}{d:Option Tmp}{all os:List Oper}
theorem zgB(h:run true true c.fn.ntmps c 300 k e s):AWp c k e s:=goB rfl 300 h
theorem zpB{r:AV}(hc:Pc c.P f args (·=r))(h:run true true c.fn.ntmps c 300 (.ops all os::k) (put e d r) s)(ha:args.all nr1=true:=by rfl)(hd:dOk c.fn.ntmps d=true:=by rfl):AcW c f args d all os k e s:=AcH hc ha rfl hd (zgB h)
theorem zqB{g:Std}(hg:Le g c.w c.ρ){r:AV}(hc:PcH c.P g f args (·=r))(h:run true true c.fn.ntmps c 300 (.ops all os::k) (put e d r) s)(ha:args.all nr1=true:=by rfl)(hd:dOk c.fn.ntmps d=true:=by rfl):AcW c f args d all os k e s:=ApK hg hc ha rfl hd (zgB h)
theorem zgF(h:run false true c.fn.ntmps c 300 k e s):AWp c k e s:=goF rfl 300 h
theorem zpF{r:AV}(hc:Pc c.P f args (·=r))(h:run false true c.fn.ntmps c 300 (.ops all os::k) (put e d r) s)(ha:args.all nr1=true:=by rfl)(hd:dOk c.fn.ntmps d=true:=by rfl):AcW c f args d all os k e s:=AcH hc ha rfl hd (zgF h)
theorem zqF{g:Std}(hg:Le g c.w c.ρ){r:AV}(hc:PcH c.P g f args (·=r))(h:run false true c.fn.ntmps c 300 (.ops all os::k) (put e d r) s)(ha:args.all nr1=true:=by rfl)(hd:dOk c.fn.ntmps d=true:=by rfl):AcW c f args d all os k e s:=ApK hg hc ha rfl hd (zgF h)
theorem zgN(h:run false false c.fn.ntmps c 300 k e s):AWp c k e s:=go rfl 300 h
theorem zpN{r:AV}(hc:Pc c.P f args (·=r))(h:run false false c.fn.ntmps c 300 (.ops all os::k) (put e d r) s)(ha:args.all nr1=true:=by rfl)(hd:dOk c.fn.ntmps d=true:=by rfl):AcW c f args d all os k e s:=AcH hc ha rfl hd (zgN h)
theorem zqN{g:Std}(hg:Le g c.w c.ρ){r:AV}(hc:PcH c.P g f args (·=r))(h:run false false c.fn.ntmps c 300 (.ops all os::k) (put e d r) s)(ha:args.all nr1=true:=by rfl)(hd:dOk c.fn.ntmps d=true:=by rfl):AcW c f args d all os k e s:=ApK hg hc ha rfl hd (zgN h)
theorem za{post:AV->LB->Prop}(hc:Ct c.P f args s post)(hk:∀ r s',post r s'->AWp c (.ops all os::k) (put e d r) s')(hd:dOk c.fn.ntmps d=true:=by rfl):AcW c f args d all os k e s:=ArV hc rfl hd hk
theorem zaH{g:Std}(hg:Le g c.w c.ρ){post:AV->LB->Prop}(hc:CtH c.P g f args s post)(hk:∀ r s',post r s'->AWp c (.ops all os::k) (put e d r) s')(hd:dOk c.fn.ntmps d=true:=by rfl):AcW c f args d all os k e s:=A4G hg hc rfl hd hk
theorem ze{post:AV->Prop}(hc:Pc c.P f args post)(hk:∀ r,post r->AWp c (.ops all os::k) (put e d r) s)(ha:args.all nr1=true:=by rfl)(hd:dOk c.fn.ntmps d=true:=by rfl):AcW c f args d all os k e s:=BjF hc ha rfl hd hk
theorem zeH{g:Std}(hg:Le g c.w c.ρ){post:AV->Prop}(hc:PcH c.P g f args post)(hk:∀ r,post r->AWp c (.ops all os::k) (put e d r) s)(ha:args.all nr1=true:=by rfl)(hd:dOk c.fn.ntmps d=true:=by rfl):AcW c f args d all os k e s:=BeA hg hc ha rfl hd hk
theorem zm(id:Nat){es:Nat}{agg:AV}{post:AV->AV->Prop}(hc:Mc c.P f es agg args post)(hk:∀ r agg',post r agg'->AWp c (.ops all os::k) (put e d r) (s.set id (.arr es [agg'])))(ha:args.all nr1=true:=by rfl)(hg:nr1 agg=true:=by rfl)(hid:s[id]?=some (.arr es [agg]):=by rfl)(hd:dOk c.fn.ntmps d=true:=by rfl):AcW c f (.ptr id 1 0 0::args) d all os k e s:=mcall hc ha hg hid rfl hd hk
theorem zmH(id:Nat){g:Std}(hle:Le g c.w c.ρ){es:Nat}{agg:AV}{post:AV->AV->Prop}(hc:McH c.P g f es agg args post)(hk:∀ r agg',post r agg'->AWp c (.ops all os::k) (put e d r) (s.set id (.arr es [agg'])))(ha:args.all nr1=true:=by rfl)(hg:nr1 agg=true:=by rfl)(hid:s[id]?=some (.arr es [agg]):=by rfl)(hd:dOk c.fn.ntmps d=true:=by rfl):AcW c f (.ptr id 1 0 0::args) d all os k e s:=A4H hle hc ha hg hid rfl hd hk
theorem zr(cs:LY){id:Nat}{ops:List Oper}(hm:c.P.follows .mixedOrders=true)(h:dx c ops k 100 ops cs e s)(hok:AyF ops=true:=by decide)(hdst:ops.all (fun o=>dOk c.fn.ntmps o.dst)=true:=by rfl):AWp c (.code (.region id ops.toArray true)::k) e s:=adraw cs hm hok rfl hdst 100 h
end
theorem zcIB{P:Program}{f:FuncId}{fn:Func}{body:Code}{args:LY}{sto:LB}{post:AV->LB->Prop}(hf:P.funcs[f]?=some fn)(hb:fn.body=some body)(h:∀ h ρ w,run true true fn.ntmps ⟨P,fn,h,ρ,sto,w,post,X0,stb0⟩ 300 [.code body] (args0 0 args) sto)(ha:Nat.ble args.length fn.ntmps=true:=by rfl)(hx:AaB P f=true:=by kernel_rfl):Ct P f args sto post:=AaZ hf hb rfl hx (Nat.le_of_ble_eq_true ha) fun a b c=>zgB (h a b c)
theorem zdIB{P:Program}{g:Std}{f:FuncId}{fn:Func}{body:Code}{args:LY}{sto:LB}{post:AV->LB->Prop}(hf:P.funcs[f]?=some fn)(hb:fn.body=some body)(h:∀ h ρ w,Le g w ρ->run true true fn.ntmps ⟨P,fn,h,ρ,sto,w,post,X0,stb0⟩ 300 [.code body] (args0 0 args) sto)(ha:Nat.ble args.length fn.ntmps=true:=by rfl)(hx:AaB P f=true:=by kernel_rfl):CtH P g f args sto post:=AdH hf hb rfl hx (Nat.le_of_ble_eq_true ha) fun a b c d=>zgB (h a b c d)
theorem zpIB{P:Program}{f:FuncId}{fn:Func}{body:Code}{args:LY}{post:AV->Prop}(hf:P.funcs[f]?=some fn)(hb:fn.body=some body)(h:∀ h ρ w,run true true fn.ntmps ⟨P,fn,h,ρ,[],w,fun r _=>post r/\nr2 r=true,X0,stb0⟩ 300 [.code body] (args0 0 args) [])(ha:Nat.ble args.length fn.ntmps=true:=by rfl)(hx:AaB P f=true:=by kernel_rfl):Pc P f args post:=AbG (zcIB hf hb h ha hx)
theorem zqIB{P:Program}{g:Std}{f:FuncId}{fn:Func}{body:Code}{args:LY}{post:AV->Prop}(hf:P.funcs[f]?=some fn)(hb:fn.body=some body)(h:∀ h ρ w,Le g w ρ->run true true fn.ntmps ⟨P,fn,h,ρ,[],w,fun r _=>post r/\nr2 r=true,X0,stb0⟩ 300 [.code body] (args0 0 args) [])(ha:Nat.ble args.length fn.ntmps=true:=by rfl)(hx:AaB P f=true:=by kernel_rfl):PcH P g f args post:=AbW (zdIB hf hb h ha hx)
theorem zcIF{P:Program}{f:FuncId}{fn:Func}{body:Code}{args:LY}{sto:LB}{post:AV->LB->Prop}(hf:P.funcs[f]?=some fn)(hb:fn.body=some body)(h:∀ h ρ w,run false true fn.ntmps ⟨P,fn,h,ρ,sto,w,post,X0,stb0⟩ 300 [.code body] (args0 0 args) sto)(ha:Nat.ble args.length fn.ntmps=true:=by rfl)(hx:AaB P f=true:=by kernel_rfl):Ct P f args sto post:=AaZ hf hb rfl hx (Nat.le_of_ble_eq_true ha) fun a b c=>zgF (h a b c)
theorem zdIF{P:Program}{g:Std}{f:FuncId}{fn:Func}{body:Code}{args:LY}{sto:LB}{post:AV->LB->Prop}(hf:P.funcs[f]?=some fn)(hb:fn.body=some body)(h:∀ h ρ w,Le g w ρ->run false true fn.ntmps ⟨P,fn,h,ρ,sto,w,post,X0,stb0⟩ 300 [.code body] (args0 0 args) sto)(ha:Nat.ble args.length fn.ntmps=true:=by rfl)(hx:AaB P f=true:=by kernel_rfl):CtH P g f args sto post:=AdH hf hb rfl hx (Nat.le_of_ble_eq_true ha) fun a b c d=>zgF (h a b c d)
theorem zpIF{P:Program}{f:FuncId}{fn:Func}{body:Code}{args:LY}{post:AV->Prop}(hf:P.funcs[f]?=some fn)(hb:fn.body=some body)(h:∀ h ρ w,run false true fn.ntmps ⟨P,fn,h,ρ,[],w,fun r _=>post r/\nr2 r=true,X0,stb0⟩ 300 [.code body] (args0 0 args) [])(ha:Nat.ble args.length fn.ntmps=true:=by rfl)(hx:AaB P f=true:=by kernel_rfl):Pc P f args post:=AbG (zcIF hf hb h ha hx)
theorem zqIF{P:Program}{g:Std}{f:FuncId}{fn:Func}{body:Code}{args:LY}{post:AV->Prop}(hf:P.funcs[f]?=some fn)(hb:fn.body=some body)(h:∀ h ρ w,Le g w ρ->run false true fn.ntmps ⟨P,fn,h,ρ,[],w,fun r _=>post r/\nr2 r=true,X0,stb0⟩ 300 [.code body] (args0 0 args) [])(ha:Nat.ble args.length fn.ntmps=true:=by rfl)(hx:AaB P f=true:=by kernel_rfl):PcH P g f args post:=AbW (zdIF hf hb h ha hx)
theorem zcIN{P:Program}{f:FuncId}{fn:Func}{body:Code}{args:LY}{sto:LB}{post:AV->LB->Prop}(hf:P.funcs[f]?=some fn)(hb:fn.body=some body)(h:∀ h ρ w,run false false fn.ntmps ⟨P,fn,h,ρ,sto,w,post,X0,stb0⟩ 300 [.code body] (args0 0 args) sto)(ha:Nat.ble args.length fn.ntmps=true:=by rfl)(hx:AaB P f=true:=by kernel_rfl):Ct P f args sto post:=AaZ hf hb rfl hx (Nat.le_of_ble_eq_true ha) fun a b c=>zgN (h a b c)
theorem zdIN{P:Program}{g:Std}{f:FuncId}{fn:Func}{body:Code}{args:LY}{sto:LB}{post:AV->LB->Prop}(hf:P.funcs[f]?=some fn)(hb:fn.body=some body)(h:∀ h ρ w,Le g w ρ->run false false fn.ntmps ⟨P,fn,h,ρ,sto,w,post,X0,stb0⟩ 300 [.code body] (args0 0 args) sto)(ha:Nat.ble args.length fn.ntmps=true:=by rfl)(hx:AaB P f=true:=by kernel_rfl):CtH P g f args sto post:=AdH hf hb rfl hx (Nat.le_of_ble_eq_true ha) fun a b c d=>zgN (h a b c d)
theorem zpIN{P:Program}{f:FuncId}{fn:Func}{body:Code}{args:LY}{post:AV->Prop}(hf:P.funcs[f]?=some fn)(hb:fn.body=some body)(h:∀ h ρ w,run false false fn.ntmps ⟨P,fn,h,ρ,[],w,fun r _=>post r/\nr2 r=true,X0,stb0⟩ 300 [.code body] (args0 0 args) [])(ha:Nat.ble args.length fn.ntmps=true:=by rfl)(hx:AaB P f=true:=by kernel_rfl):Pc P f args post:=AbG (zcIN hf hb h ha hx)
theorem zqIN{P:Program}{g:Std}{f:FuncId}{fn:Func}{body:Code}{args:LY}{post:AV->Prop}(hf:P.funcs[f]?=some fn)(hb:fn.body=some body)(h:∀ h ρ w,Le g w ρ->run false false fn.ntmps ⟨P,fn,h,ρ,[],w,fun r _=>post r/\nr2 r=true,X0,stb0⟩ 300 [.code body] (args0 0 args) [])(ha:Nat.ble args.length fn.ntmps=true:=by rfl)(hx:AaB P f=true:=by kernel_rfl):PcH P g f args post:=AbW (zdIN hf hb h ha hx)
theorem zt{c:Cx}{e:Env}{s:LB}(ts:List Tmp)(hr:c.fn.results=(ts.map ResultVar.tmp).toArray:=by rfl)(hp:c.post (resV e ts) s:=by exact⟨rfl,rfl⟩):ARet c e s:=aret ts hr hp
end Go.Av
namespace Go.Proofs.YtccfklnmolggiaaGreatDoor
open Av RowKit Proofs.Tryz
theorem AaJ:prog.follows .mixedOrders=true:=by kernel_rfl
theorem hB2:AaB prog 2=true:=by kernel_rfl
theorem hB3:AaB prog 3=true:=by kernel_rfl
theorem hB4:AaB prog 4=true:=by kernel_rfl
theorem hB21:AaB prog 21=true:=by kernel_rfl
theorem hB31:AaB prog 31=true:=by kernel_rfl
theorem hB42:AaB prog 42=true:=by kernel_rfl
theorem hB47:AaB prog 47=true:=by kernel_rfl
theorem hB48:AaB prog 48=true:=by kernel_rfl
theorem hB49:AaB prog 49=true:=by kernel_rfl
theorem hB62:AaB prog 62=true:=by kernel_rfl
theorem hB63:AaB prog 63=true:=by kernel_rfl
theorem hB64:AaB prog 64=true:=by kernel_rfl
theorem hB65:AaB prog 65=true:=by kernel_rfl
theorem hB66:AaB prog 66=true:=by kernel_rfl
theorem hB67:AaB prog 67=true:=by kernel_rfl
theorem hB71:AaB prog 71=true:=by kernel_rfl
theorem hB73:AaB prog 73=true:=by kernel_rfl
theorem hB74:AaB prog 74=true:=by kernel_rfl
theorem hB75:AaB prog 75=true:=by kernel_rfl
theorem hB77:AaB prog 77=true:=by kernel_rfl
theorem hB85:AaB prog 85=true:=by kernel_rfl
theorem hB86:AaB prog 86=true:=by kernel_rfl
theorem hB88:AaB prog 88=true:=by kernel_rfl
theorem hB89:AaB prog 89=true:=by kernel_rfl
theorem hB92:AaB prog 92=true:=by kernel_rfl
theorem hB95:AaB prog 95=true:=by kernel_rfl
theorem hB98:AaB prog 98=true:=by kernel_rfl
theorem hB104:AaB prog 104=true:=by kernel_rfl
theorem hB112:AaB prog 112=true:=by kernel_rfl
theorem hB120:AaB prog 120=true:=by kernel_rfl
theorem hB121:AaB prog 121=true:=by kernel_rfl
theorem hB128:AaB prog 128=true:=by kernel_rfl
theorem hB132:AaB prog 132=true:=by kernel_rfl
theorem hB133:AaB prog 133=true:=by kernel_rfl
theorem hB138:AaB prog 138=true:=by kernel_rfl
theorem hB139:AaB prog 139=true:=by kernel_rfl
theorem hB140:AaB prog 140=true:=by kernel_rfl
theorem hB149:AaB prog 149=true:=by kernel_rfl
theorem hB155:AaB prog 155=true:=by kernel_rfl
theorem hB156:AaB prog 156=true:=by kernel_rfl
theorem hB166:AaB prog 166=true:=by kernel_rfl
theorem hB186:AaB prog 186=true:=by kernel_rfl
theorem hB187:AaB prog 187=true:=by kernel_rfl
theorem hB188:AaB prog 188=true:=by kernel_rfl
theorem hB217:AaB prog 217=true:=by kernel_rfl
theorem ts2:tsize prog 2=1:=by kernel_rfl
theorem ts3:tsize prog 3=1:=by kernel_rfl
theorem tb3:AbM prog 3=8:=by kernel_rfl
theorem za3:zav prog 3=[.int .i64 0]:=by kernel_rfl
theorem ts4:tsize prog 4=1:=by kernel_rfl
theorem tb4:AbM prog 4=1:=by kernel_rfl
theorem zv4:zval prog 4=.bool false:=by kernel_rfl
theorem zk4:zok prog 4=true:=by kernel_rfl
theorem za4:zav prog 4=[.bool false]:=by kernel_rfl
theorem ts5:tsize prog 5=1:=by kernel_rfl
theorem tb5:AbM prog 5=1:=by kernel_rfl
theorem za5:zav prog 5=[.int .u8 0]:=by kernel_rfl
theorem fl7:Go.Av.AaM prog 7=true:=by kernel_rfl
theorem fl8:Go.Av.AaM prog 8=true:=by kernel_rfl
theorem ts9:tsize prog 9=1:=by kernel_rfl
theorem tb9:AbM prog 9=16:=by kernel_rfl
theorem za9:zav prog 9=[.str []]:=by kernel_rfl
theorem ts12:tsize prog 12=1:=by kernel_rfl
theorem fl13:Go.Av.AaM prog 13=true:=by kernel_rfl
theorem fl14:Go.Av.AaM prog 14=true:=by kernel_rfl
theorem fl18:Go.Av.AaM prog 18=true:=by kernel_rfl
theorem fl19:Go.Av.AaM prog 19=true:=by kernel_rfl
theorem ts21:tsize prog 21=1:=by kernel_rfl
theorem ts22:tsize prog 22=1:=by kernel_rfl
theorem ts24:tsize prog 24=2:=by kernel_rfl
theorem fl24:Go.Av.AaM prog 24=true:=by kernel_rfl
theorem ts25:tsize prog 25=2:=by kernel_rfl
theorem za25:zav prog 25=[.raw (.slice none 0 0),.int .i64 0]:=by kernel_rfl
theorem fl25:Go.Av.AaM prog 25=true:=by kernel_rfl
theorem ts26:tsize prog 26=1:=by kernel_rfl
theorem ts27:tsize prog 27=2:=by kernel_rfl
theorem fl27:Go.Av.AaM prog 27=true:=by kernel_rfl
theorem ts28:tsize prog 28=2:=by kernel_rfl
theorem za28:zav prog 28=[.str [],.raw (.slice none 0 0)]:=by kernel_rfl
theorem fl28:Go.Av.AaM prog 28=true:=by kernel_rfl
theorem ts30:tsize prog 30=1:=by kernel_rfl
theorem ts34:tsize prog 34=1:=by kernel_rfl
theorem ts44:tsize prog 44=1:=by kernel_rfl
theorem tb44:AbM prog 44=24:=by kernel_rfl
theorem za44:zav prog 44=[.raw (.slice none 0 0)]:=by kernel_rfl
theorem ts45:tsize prog 45=2:=by kernel_rfl
theorem fl45:Go.Av.AaM prog 45=true:=by kernel_rfl
theorem ts46:tsize prog 46=2:=by kernel_rfl
theorem tb46:AbM prog 46=32:=by kernel_rfl
theorem za46:zav prog 46=[.int .i64 0,.raw (.slice none 0 0)]:=by kernel_rfl
theorem fl46:Go.Av.AaM prog 46=true:=by kernel_rfl
theorem ts56:tsize prog 56=1:=by kernel_rfl
theorem ts57:tsize prog 57=5:=by kernel_rfl
theorem fl57:Go.Av.AaM prog 57=true:=by kernel_rfl
theorem ts58:tsize prog 58=5:=by kernel_rfl
theorem tb58:AbM prog 58=72:=by kernel_rfl
theorem za58:zav prog 58=[.str [],.int .i64 0,.str [],.int .i64 0,.raw (.slice none 0 0)]:=by kernel_rfl
theorem fl58:Go.Av.AaM prog 58=true:=by kernel_rfl
theorem ts61:tsize prog 61=1:=by kernel_rfl
theorem ts62:tsize prog 62=3:=by kernel_rfl
theorem fl62:Go.Av.AaM prog 62=true:=by kernel_rfl
theorem ts63:tsize prog 63=3:=by kernel_rfl
theorem za63:zav prog 63=[.raw (.slice none 0 0),.raw (.slice none 0 0),.raw (.slice none 0 0)]:=by kernel_rfl
theorem fl63:Go.Av.AaM prog 63=true:=by kernel_rfl
theorem ts72:tsize prog 72=2:=by kernel_rfl
theorem fl72:Go.Av.AaM prog 72=true:=by kernel_rfl
theorem ts73:tsize prog 73=2:=by kernel_rfl
theorem tb73:AbM prog 73=24:=by kernel_rfl
theorem za73:zav prog 73=[.int .i64 0,.str []]:=by kernel_rfl
theorem fl73:Go.Av.AaM prog 73=true:=by kernel_rfl
theorem ts78:tsize prog 78=1:=by kernel_rfl
theorem ts81:tsize prog 81=1:=by kernel_rfl
theorem ts92:tsize prog 92=1:=by kernel_rfl
theorem ts95:tsize prog 95=1:=by kernel_rfl
theorem ts100:tsize prog 100=1:=by kernel_rfl
theorem ts103:tsize prog 103=2:=by kernel_rfl
theorem tb103:AbM prog 103=16:=by kernel_rfl
theorem za103:zav prog 103=[.int .i64 0,.int .i64 0]:=by kernel_rfl
theorem ts107:tsize prog 107=1:=by kernel_rfl
theorem ts108:tsize prog 108=2:=by kernel_rfl
theorem fl108:Go.Av.AaM prog 108=true:=by kernel_rfl
theorem ts109:tsize prog 109=2:=by kernel_rfl
theorem za109:zav prog 109=[.raw (.pointer none),.raw (.slice none 0 0)]:=by kernel_rfl
theorem fl109:Go.Av.AaM prog 109=true:=by kernel_rfl
theorem ts113:tsize prog 113=1:=by kernel_rfl
theorem ts118:tsize prog 118=1:=by kernel_rfl
theorem fl118:Go.Av.AaM prog 118=true:=by kernel_rfl
theorem ts119:tsize prog 119=1:=by kernel_rfl
theorem za119:zav prog 119=[.raw (.slice none 0 0)]:=by kernel_rfl
theorem fl119:Go.Av.AaM prog 119=true:=by kernel_rfl
theorem ts120:tsize prog 120=1:=by kernel_rfl
theorem tb120:AbM prog 120=24:=by kernel_rfl
theorem za120:zav prog 120=[.raw (.slice none 0 0)]:=by kernel_rfl
theorem ts121:tsize prog 121=3:=by kernel_rfl
theorem fl121:Go.Av.AaM prog 121=true:=by kernel_rfl
theorem ts122:tsize prog 122=3:=by kernel_rfl
theorem tb122:AbM prog 122=56:=by kernel_rfl
theorem za122:zav prog 122=[.int .i64 0,.raw (.slice none 0 0),.raw (.slice none 0 0)]:=by kernel_rfl
theorem fl122:Go.Av.AaM prog 122=true:=by kernel_rfl
theorem ts128:tsize prog 128=3:=by kernel_rfl
theorem fl128:Go.Av.AaM prog 128=false:=by kernel_rfl
theorem lf128:Go.Av.leafTs prog 4 128=[9,26,3]:=by kernel_rfl
theorem ts129:tsize prog 129=3:=by kernel_rfl
theorem za129:zav prog 129=[.str [],.raw (.slice none 0 0),.int .i64 0]:=by kernel_rfl
theorem fl129:Go.Av.AaM prog 129=false:=by kernel_rfl
theorem lf129:Go.Av.leafTs prog 4 129=[9,26,3]:=by kernel_rfl
theorem ts142:tsize prog 142=4:=by kernel_rfl
theorem fl142:Go.Av.AaM prog 142=true:=by kernel_rfl
theorem ts143:tsize prog 143=4:=by kernel_rfl
theorem tb143:AbM prog 143=72:=by kernel_rfl
theorem za143:zav prog 143=[.int .i64 0,.raw (.slice none 0 0),.raw (.slice none 0 0),.str []]:=by kernel_rfl
theorem fl143:Go.Av.AaM prog 143=true:=by kernel_rfl
theorem ts150:tsize prog 150=1:=by kernel_rfl
theorem ts165:tsize prog 165=1:=by kernel_rfl
theorem ts172:tsize prog 172=1:=by kernel_rfl
theorem ts174:tsize prog 174=1:=by kernel_rfl
theorem ts195:tsize prog 195=20:=by kernel_rfl
theorem ts196:tsize prog 196=1:=by kernel_rfl
theorem ts200:tsize prog 200=1:=by kernel_rfl
theorem fl220:Go.Av.AaM prog 220=true:=by kernel_rfl
theorem fl221:Go.Av.AaM prog 221=true:=by kernel_rfl
theorem fl228:Go.Av.AaM prog 228=true:=by kernel_rfl
theorem fl229:Go.Av.AaM prog 229=true:=by kernel_rfl
theorem ts234:tsize prog 234=1:=by kernel_rfl
theorem fl234:Go.Av.AaM prog 234=true:=by kernel_rfl
theorem ts235:tsize prog 235=1:=by kernel_rfl
theorem fl235:Go.Av.AaM prog 235=true:=by kernel_rfl
theorem fl241:Go.Av.AaM prog 241=true:=by kernel_rfl
theorem fl242:Go.Av.AaM prog 242=true:=by kernel_rfl
theorem fl244:Go.Av.AaM prog 244=true:=by kernel_rfl
theorem fl245:Go.Av.AaM prog 245=true:=by kernel_rfl
theorem fl247:Go.Av.AaM prog 247=true:=by kernel_rfl
theorem fl248:Go.Av.AaM prog 248=true:=by kernel_rfl
theorem fl250:Go.Av.AaM prog 250=true:=by kernel_rfl
theorem fl251:Go.Av.AaM prog 251=true:=by kernel_rfl
theorem ts255:tsize prog 255=4:=by kernel_rfl
theorem fl255:Go.Av.AaM prog 255=true:=by kernel_rfl
theorem ts256:tsize prog 256=4:=by kernel_rfl
theorem fl256:Go.Av.AaM prog 256=true:=by kernel_rfl
theorem ts260:tsize prog 260=1:=by kernel_rfl
theorem ts261:tsize prog 261=1:=by kernel_rfl
theorem ts263:tsize prog 263=1:=by kernel_rfl
theorem ts264:tsize prog 264=1:=by kernel_rfl
theorem ts265:tsize prog 265=11:=by kernel_rfl
theorem fl265:Go.Av.AaM prog 265=true:=by kernel_rfl
theorem ts266:tsize prog 266=11:=by kernel_rfl
theorem fl266:Go.Av.AaM prog 266=true:=by kernel_rfl
end Go.Proofs.YtccfklnmolggiaaGreatDoor
namespace Go.Proofs
open Shelf Proofs.Tryz
theorem Tryz.Builder_Extra_169:Builder.Extra prog Tryz.lays169_ren:={
 sizeBuilder:=by kernel_rfl
 liesBuilder:=by kernel_rfl
 t5:=underlying5
 a5:=Tryz.isAgg5
 z5:=Tryz.sizeOf5
 v5:=Tryz.zeroValue5
 infoByte:=by kernel_rfl
 cellsByte:=by kernel_rfl
 sizeByte:=by kernel_rfl
 neB5:=by decide }
theorem Tryz.Builder_Extra_105:Builder.Extra prog Tryz.lays105_ren:={
 sizeBuilder:=by kernel_rfl
 liesBuilder:=by kernel_rfl
 t5:=underlying5
 a5:=Tryz.isAgg5
 z5:=Tryz.sizeOf5
 v5:=Tryz.zeroValue5
 infoByte:=by kernel_rfl
 cellsByte:=by kernel_rfl
 sizeByte:=by kernel_rfl
 neB5:=by decide }
end Go.Proofs
namespace Go.Proofs.YtccfklnmolggiaaGreatDoor
open Av RowKit
structure LibOk(S:Std):Prop where
 maxlen:∃ m cs t z,S 4=some (.cells cs t z)/\cs[0]? = some (.int .i64 m)
 pow10:∃ t z,S 0=some (.cells (Lib.pow10Tab.map fun z=>Value.int .u64 z).toArray t z)
 syn:∃ te pe t z,S 2=some (.cells #[.iface te pe] t z)
theorem LibOk.cell{S:Std}(hS:LibOk S):∃ m,∀ w,ArZ S w->w.cell? ⟨Tryz.lays144_ren.g 1,0,none⟩=some (.int .i64 m):=by
 obtain⟨m,cs,t,z,h,h0⟩:=hS.maxlen;exact⟨m,fun w hw=>(Lib.cell_of_heap (hw _ _ h) 0).trans h0⟩
end Go.Proofs.YtccfklnmolggiaaGreatDoor
namespace Go.Av
open RowKit WideShapes ChangeShapes
variable [Tr]
theorem Same.below{W W':World}(s:Same W W'):Below W.heap.size W W':=⟨s.os,s.tape,s.output.1,s.size,s.block⟩
theorem BgG{h:Mem}{v:Value}{b:Bool}(r:RV h Lf0 true v (.bool b)):v=.bool b:=by
 cases r<;>grind
section
variable {H:Type}{enc:TypeId×Value->H}{P:Program}
theorem AvQ{f:Func}{s:ChangeSpec}{apart fresh handsOn again:Bool}{W W':World}{args:Array Value}{v:Value}{ds gs:List (DataW H)}{before pa pv:List MemPlace}
  (hW:DataW.Whole enc P f.params.toList s.vars apart W args.toList ds gs before)
  (hres:∀ (b:Nat) (sp:Nat->Bool) (hd:Bool),DataW.TrodAll enc P W' b sp hd f.resultTypes.toList (v.resultList f.resultTypes.size) (s.fn H (ds++gs)).results [])
  (hargs:∀ sp:Nat->Bool,(∀ p∈before,sp p.block=true)->DataW.TrodAll enc P W' 0 sp true f.params.toList args.toList (s.fn H (ds++gs)).args pa)
  (hvars:∀ sp:Nat->Bool,(∀ p∈before,sp p.block=true)->DataW.TrodVars enc P W' sp s.vars (s.fn H (ds++gs)).vars pv)
  (hps:before=pa++pv) (hs:Same W W')
  (hok:∀ (j:Nat) (t:TypeId) (r:Value),f.resultTypes[j]? = some t->(v.resultList f.resultTypes.size)[j]? = some r->Value.okWide P W' .any 0 t r) :
  s.post enc P f apart fresh handsOn again W args v W':=by
 have hb:=hs.below;have hlt:=fun p hp=>hW.lt p hp
 have hold:=fun p hp=>decide_eq_true (hlt p hp)
 refine⟨ds,gs,before,[],pa,pv,hW,hres _ _ _,hargs _ hold,hvars _ hold,World.keptBut_mono (fun p hp=>⟨hp,?_⟩) (hb.frame (·∈before)),fun _=>?_⟩
 .grind
 .obtain ⟨_,_,_,_,_,hz,hn⟩:=hW
  refine⟨hok,_,_,([]++pa)++pv,⟨[]++pa,pv,trodAll_append (hargs _ (fun _ _=>rfl)) (hres _ _ _),hvars _ (fun _ _=>rfl),rfl,?_,?_⟩,?_⟩
  .intro b off hp
   have hin:MemPlace.cell b off∈before:=by grind
   rw[hb.frozen (hlt _ hin)];exact hz b off hin
  all_goals grind
end
