/- What an operation makes of plain data. -/
import Derived.Test.YtooohdocabpblaaGreatDoorV1
set_option linter.all false
namespace Go.Av
open RowKit
abbrev Env:=List (Nat×AV)
def AcV:Value->AV
 | .int k n=>.int k n
 | .bool b=>.bool b
 | .string s=>.str s.data.toList
 | v=>.raw v
def get:Env->Nat->AV
 | [],_=>.any
 | (k,v)::r,t=>bif k==t then v else get r t
def ev(e:Env):Operand->AV
 | .tmp t=>get e t
 | .const v=>AcV v
 | .global g=>.raw (.pointer (some ⟨g,0,none⟩))
 | .func f=>.fn (.func f) []
def evs(e:Env):List Operand->LA
 | []=>[]
 | x::r=>ev e x::evs e r
def evp(e:Env):List (Nat×Operand)->List (Nat×AV)
 | []=>[]
 | (i,x)::r=>(i,ev e x)::evp e r
def put(e:Env)(d:Option Tmp)(v:AV):Env :=
 match d with
 | some d=>(d,v)::e
 | none=>e
def one:AV->Bool
 | .agg _|.tup _|.any=>false
 | .raw v=>v.oneCell'
 | _=>true
def AcJ:AV->Bool
 | .agg _|.tup _|.sl ..|.ptr ..|.mp _|.fn ..=>false
 | _=>true
def frozen:AV->Bool
 | .fn _ l=>l.all AcJ
 | .agg _|.tup _|.sl ..|.ptr ..|.mp _=>false
 | _=>true
theorem AsZ{a:AV}(h:AcJ a=true):frozen a=true:=by cases a <;> first|rfl|grind[AcJ]
def bytesLess:LU->LU->Bool
 | _,[]=>false
 | [],_::_=>true
 | a::x,b::y=>a<b||(a==b&&bytesLess x y)
def inr:IntKind->Int->Prop
 | .i64,n=>-9223372036854775808<=n/\n<=9223372036854775807
 | .i32,n=>-2147483648<=n/\n<=2147483647
 | .u8,n=>0<=n/\n<=255
 | .u16,n=>0<=n/\n<=65535
 | k,n=>k.wrap n=n
inductive Res where
 | ok (v:AV)
 | side (p:Prop) (v:AV)
 | sto (p:Prop) (v:AV) (sto:LB)
 | pick (b:Bool) (x y:AV)
 | call (f:FuncId) (args:LA)
 | anyb (p:Prop)
 | stuck
def AjY(wr:Bool)(k:IntKind)(n:Int):Res:=bif wr then .ok (.int k (k.wrap n)) else .side (inr k n) (.int k n)
def xint(wr:Bool)(op:BinOp)(k:IntKind)(a b:Int):Res :=
 match op with
 | .add=>AjY wr k (a+b)
 | .sub=>AjY wr k (a-b)
 | .mul=>AjY wr k (a*b)
 | .quo=>bif wr then .side (b≠0/\inr k (a.tdiv b)) (.int k (a.tdiv b)) else .side (0<=a/\0<b/\inr k (a / b)) (.int k (a / b))
 | .rem=>bif wr then .side (b≠0) (.int k (a.tmod b)) else .side (0<=a/\0<b) (.int k (a%b))
 | .shr=>.side (k=.u64/\b=1) (.int k (a / 2))
 | .eql=>.ok (.bool (a==b))
 | .neq=>.ok (.bool (a != b))
 | .lss=>.ok (.bool (a<b))
 | .leq=>.ok (.bool (a<=b))
 | .gtr=>.ok (.bool (a>b))
 | .geq=>.ok (.bool (a>=b))
 | _=>.stuck
def xstr(op:BinOp)(a b:LU):Res :=
 match op with
 | .add=>.side ((a.length:Int)+b.length<=9223372036854775807) (.str (a++b))
 | .eql=>.ok (.bool (a==b))
 | .neq=>.ok (.bool (a != b))
 | .lss=>.ok (.bool (bytesLess a b))
 | .leq=>.ok (.bool (bytesLess a b||a==b))
 | .gtr=>.ok (.bool (!(bytesLess a b||a==b)))
 | .geq=>.ok (.bool (!bytesLess a b))
 | _=>.stuck
def AtA(op:BinOp)(a b:Bool)(d:Option TypeDesc):Res :=
 match op,d with
 | .eql,some .bool=>.ok (.bool (a==b))
 | .neq,some .bool=>.ok (.bool (!(a==b)))
 | _,_=>.stuck
def xbin(wr:Bool)(d:Option TypeDesc)(op:BinOp)(x y:AV):Res :=
 match x,y with
 | .int k a,.int k' b=>if k=k' then xint wr op k a b else .stuck
 | .str a,.str b=>xstr op a b
 | .bool a,.bool b=>AtA op a b d
 | _,_=>.stuck
def AdL(sto:LB)(neg:Bool)(x:AV):Res:=match x with
 | .fz _ (_::_)=>.ok (.bool neg)
 | .fz _ []=>.anyb True
 | .sl id off _ cap=>match sto.getD id .dead with
  | .arr _ l=>.anyb (off+cap=l.length)
  | _=>.stuck
 | .raw (.slice none 0 0)=>.ok (.bool !neg)
 | _=>.stuck
def AcC(sto:LB)(neg:Bool)(x:AV):Res:=match x with
 | .mp id=>match sto.getD id .dead with
  | .mp _=>.ok (.bool neg)
  | _=>.stuck
 | .raw (.map none)=>.ok (.bool !neg)
 | _=>.stuck
def AhU(wr:Bool)(sto:LB)(d:Option TypeDesc)(op:BinOp)(x y:AV):Res:=match y,d with
 | .raw (.slice none 0 0),some (.slice _)=>match op with
  | .eql=>AdL sto false x
  | .neq=>AdL sto true x
  | _=>.stuck
 | .raw (.map none),some (.map _ _)=>match op with
  | .eql=>AcC sto false x
  | .neq=>AcC sto true x
  | _=>.stuck
 | _,_=>xbin wr d op x y
def leafEq:Option TypeDesc->AV->AV->Option Bool
 | some .bool,.bool a,.bool b=>some (a==b)
 | some (.int _),.int k a,.int k' b=>if k=k' then some (a==b) else none
 | some .string,.str a,.str b=>some (a==b)
 | _,_,_=>none
def bothB:Option Bool->Option Bool->Option Bool
 | some a,some b=>some (a&&b)
 | _,_=>none
def eqFs(P:Program):List Field->LA->LA->Option Bool
 | [],_,_=>some true
 | f::fs,x::xs,y::ys=>bothB (leafEq (P.underlying f.type) x y) (eqFs P fs xs ys)
 | _::_,_,_=>none
def offsOk:Nat->List Field->Bool
 | _,[]=>true
 | i,f :: fs=>f.name != "_" && (f.offset == i && offsOk (i+1) fs)
def AbR(P:Program)(t:TypeId):Bool:=match P.underlying t with
 | some (.struct fs)=>!P.eqGuardType P.depth t&&(!P.stoodInHeld t&&offsOk 0 fs.toList)
 | _=>false
def tsize(P:Program)(t:TypeId):Nat:=((P.info? t).map (·.size)).getD 0
def eqF1(P:Program)(xs ys:LA)(f:Field):Option TypeDesc->Option Bool
 | some (.struct gs)=>bif decide (f.offset+tsize P f.type<=xs.length)&&decide (f.offset+tsize P f.type<=ys.length) then eqFs P gs.toList ((xs.drop f.offset).take (tsize P f.type)) ((ys.drop f.offset).take (tsize P f.type)) else none
 | some d=>bif decide (f.offset<xs.length)&&decide (f.offset<ys.length) then leafEq (some d) (xs.getD f.offset .any) (ys.getD f.offset .any) else none
 | none=>none
def eqFN(P:Program)(xs ys:LA):List Field->Option Bool
 | []=>some true
 | f::fs=>bothB (eqF1 P xs ys f (P.underlying f.type)) (eqFN P xs ys fs)
def AuV (P:Program) (f:Field):Bool:=f.name != "_" && (match P.underlying f.type with
 | some (.struct gs)=>!P.stoodInHeld f.type&&offsOk 0 gs.toList
 | _=>true)
def AlD(P:Program)(t:TypeId):Bool:=match P.underlying t with
 | some (.struct fs)=>!P.eqGuardType P.depth t&&(!P.stoodInHeld t&&fs.toList.all (AuV P))
 | _=>false
def leafTs(P:Program):Nat->TypeId->List TypeId
 | 0,t=>[t]
 | n+1,t=>match P.underlying t with
  | some (.struct fs)=>fs.toList.flatMap fun f=>leafTs P n f.type
  | _=>[t]
def offsG(P:Program)(ok:TypeId->Bool)(ls:TypeId->List TypeId):Nat->List Field->Bool
 | _,[]=>true
 | i,f :: fs=>f.name != "_" && (f.offset == i && (ok f.type && (tsize P f.type == (ls f.type).length && decide (0 < (ls f.type).length) && offsG P ok ls (i+(ls f.type).length) fs)))
def shapeT(P:Program):Nat->TypeId->Bool
 | 0,t=>match P.underlying t with|some (.struct _)=>false|_=>true
 | n+1,t=>match P.underlying t with
  | some (.struct fs)=>!P.stoodInHeld t&&offsG P (shapeT P n) (leafTs P n) 0 fs.toList
  | _=>true
def AbY(P:Program)(t:TypeId):Bool:=!P.eqGuardType P.depth t&&shapeT P 4 t
def eqLs(P:Program):List TypeId->LA->LA->Option Bool
 | [],[],[]=>some true
 | t::ts,x::xs,y::ys=>bothB (leafEq (P.underlying t) x y) (eqLs P ts xs ys)
 | _,_,_=>none
def AaB(P:Program)(t:TypeId):Bool:=match P.underlying t with
 | some (.struct fs)=>fs.size==tsize P t&&offsOk 0 fs.toList
 | _=>true
def AlE(op:BinOp)(p:Prop):Option Bool->Res
 | some b=>match op with
  | .eql=>.side p (.bool b)
  | .neq=>.side p (.bool !b)
  | _=>.stuck
 | none=>.stuck
def xeqs(P:Program)(t:TypeId)(op:BinOp)(xs ys:LA):Option TypeDesc->Res
 | some (.struct fs)=>match eqFs P fs.toList xs ys with
  | some b=>AlE op (AbR P t=true) (some b)
  | none=>AlE op (AlD P t=true) (eqFN P xs ys fs.toList)
 | _=>.stuck
def AgZ(P:Program)(t:TypeId)(wr:Bool)(sto:LB)(op:BinOp)(x y:AV):Res:=match x with
 | .agg xs=>match y with
  | .agg ys=>xeqs P t op xs ys (P.underlying t)
  | _=>.stuck
 | _=>AhU wr sto (P.underlying t) op x y
def AcS(P:Program)(t:TypeId):List Value:=match(P.info? t).bind (·.zero)with|some v=>v.cells.toList|none=>[]
def zav(P:Program)(t:TypeId):LA:=(AcS P t).map AcV
def AaK(P:Program)(t:TypeId):Nat:=((P.info? t).map (·.bytes)).getD 0
def isRow:Option TypeDesc->Bool
 | some (.struct _)|some (.array _ _)=>true
 | _=>false
def elemD:Option TypeDesc->TypeId
 | some (.slice e)|some (.array _ e)=>e
 | _=>0
def xnot:AV->Res
 | .bool b=>.ok (.bool !b)
 | _=>.stuck
def xneg:AV->Res
 | .int k n=>.side (inr k (0-n)) (.int k (0-n))
 | _=>.stuck
def xpick(c x y:AV):Res:=match c with|.bool t=>.pick t x y|_=>.stuck
def xextract(x:AV)(i:Nat):Res:=match x with|.tup l=>.side (i<l.length) (l.getD i .any)|_=>.stuck
def xpart(row:Bool)(cs:LA)(off sz:Nat):AV:=bif row then .agg ((cs.drop off).take sz) else cs.getD off .any
def xpartOk(row:Bool)(cs:LA)(off sz:Nat):Prop:=bif row then off+sz<=cs.length else off<cs.length
def has(d:Option TypeDesc):Prop:=d.isSome=true
def AhV(t te:Option TypeDesc)(sz:Nat)(x i:AV):Res:=match t,x,i with
 | some .string,.str l,.int _ n=>.side (0<=n/\n<l.length) (.int .u8 ((l.getD n.toNat 0).toNat))
 | some (.array len _),.agg l,.int _ n=>.side (has te/\(0<=n/\n<len)/\xpartOk (isRow te) l (n.toNat*sz) sz) (xpart (isRow te) l (n.toNat*sz) sz)
 | _,_,_=>.stuck
def AhW(d:Option TypeDesc)(f:Nat):Option (Nat×TypeId):=match d with
 | some (.struct fs)=>(fs[f]?).map fun x=>(x.offset,x.type)
 | _=>none
def AeU(P:Program)(x:AV):Option (Nat×TypeId)->Res
 | some (off,t)=>match x with
  | .agg l=>.side (has (P.underlying t)/\xpartOk (isRow (P.underlying t)) l off (tsize P t)) (xpart (isRow (P.underlying t)) l off (tsize P t))
  | _=>.stuck
 | none=>.stuck
def xnew(sto:LB)(l:LA)(elem:AV):Res:=.sto (0<l.length/\l.all one=true) (.ptr sto.length 1 0 0) (sto++[.arr l.length [elem]])
def xbox(row:Bool)(sto:LB)(v:AV):Res:=match row,v with
 | true,.agg l=>xnew sto l (.agg l)
 | false,v=>bif one v then xnew sto [v] v else .stuck
 | _,_=>.stuck
def AtB(row:Bool)(v:AV):Res:=match row,v with
 | true,.agg l=>.side (0<l.length/\l.all frozen=true/\l.all one=true) (.pin l.length [.agg l] 0 0)
 | false,v=>bif one v&&frozen v then .ok (.pin 1 [v] 0 0) else .stuck
 | _,_=>.stuck
def AuW(frz row:Bool)(sto:LB)(v:AV):Res:=bif frz then AtB row v else xbox row sto v
def AdN(sto:LB)(row:Bool)(z:LA):Res:=bif row then xnew sto z (.agg z) else(match z with|[v]=>xnew sto [v] v|_=>.stuck)
def xptrAddIf(p:Prop)(sto:LB)(x:AV)(k:Nat):Res:=match x with
 | .ptr id n j off=>match sto.getD id .dead with
  | .arr _ l=>.side (p/\n=l.length) (.ptr id n j (off+k))
  | _=>.stuck
 | .pin e l j off=>.side p (.pin e l j (off+k))
 | _=>.stuck
def AbH(P:Program)(d:Option (Nat×TypeId))(sto:LB)(x:AV):Res:=match d with
 | some (off,t)=>xptrAddIf (0<tsize P t) sto x off
 | none=>.stuck
def AaV(d:Option TypeDesc)(sz:Nat)(sto:LB)(x i:AV):Res:=match d,i with
 | some (.array len _),.int _ n=>xptrAddIf (0<sz/\0<=n/\n<len) sto x (n.toNat*sz)
 | some (.slice _),.int _ n=>match x with
  | .fz e l=>.side (0<sz/\e=sz/\0<=n/\n<l.length) (.pin e l n.toNat 0)
  | .sl id off len cap=>match sto.getD id .dead with
   | .arr e l=>.side (0<sz/\e=sz/\off+cap=l.length/\0<=n/\n<len/\len<=cap) (.ptr id l.length (off+n.toNat) 0)
   | _=>.stuck
  | _=>.stuck
 | _,_=>.stuck
def AnD(d:Option TypeDesc)(sz:Nat)(p:Prop)(cs:LA)(off:Nat):Res:=.side (has d/\p/\xpartOk (isRow d) cs off sz) (xpart (isRow d) cs off sz)
def xload(d:Option TypeDesc)(sz:Nat)(sto:LB)(x:AV):Res:=match x with
 | .ptr id n j off=>match sto.getD id .dead with
  | .arr _ l=>AnD d sz (n=l.length/\j<n) (cellsOf (l.getD j .any)) off
  | _=>.stuck
 | .pin _ l j off=>AnD d sz (j<l.length) (cellsOf (l.getD j .any)) off
 | _=>.stuck
def putCells(cs:LA)(off:Nat):LA->LA
 | []=>cs
 | v::r=>putCells (cs.set off v) (off+1) r
def reElem(old:AV)(cs:LA):AV:=match old with
 | .agg _=>.agg cs
 | _=>cs.getD 0 .any
def AhX(sto:LB)(sz id n j off:Nat)(vs:LA):Blk->Res
 | .arr e l=>.sto (0<sz/\n=l.length/\j<n/\vs.length=sz/\off+sz<=(cellsOf (l.getD j .any)).length/\vs.all one=true) (.raw undef) (sto.set id (.arr e (l.set j (reElem (l.getD j .any) (putCells (cellsOf (l.getD j .any)) off vs)))))
 | _=>.stuck
def AgR(sz:Nat)(sto:LB)(x v:AV):Res:=match x with
 | .ptr id n j off=>AhX sto sz id n j off (cellsOf v) (sto.getD id .dead)
 | _=>.stuck
def AjZ:AV->UInt8
 | .int _ n=>UInt8.ofNat n.toNat
 | _=>0
def AdO:AV->Bool
 | .int .u8 _=>true
 | _=>false
def isU8:Option TypeDesc->Bool
 | some (.int .u8)=>true
 | _=>false
def AuX(sto:LB)(x:AV):Res:=match x with
 | .fz e l=>.side (e=1/\l.all AdO=true) (.str (l.map AjZ))
 | .sl id off len cap=>match sto.getD id .dead with
  | .arr e l=>.side (e=1/\off+cap=l.length/\len<=cap/\((l.drop off).take len).all AdO=true) (.str (((l.drop off).take len).map AjZ))
  | _=>.stuck
 | .raw (.slice none 0 0)=>.ok (.str [])
 | _=>.stuck
def AnE(sto:LB):AV->Res
 | .str s=>.sto (s.length<=140737488355328) (.sl sto.length 0 s.length s.length) (sto++[.arr 1 (s.map fun b=>.int .u8 b.toNat)])
 | _=>.stuck
def AtC(wr:Bool)(src dst e e2:Option TypeDesc)(sto:LB)(x:AV):Res:=match dst with
 | some (.int k)=>match src,x with
  | some (.int _),.int _ n=>bif wr then .ok (.int k (k.wrap n)) else .side (inr k n) (.int k n)
  | _,_=>.stuck
 | some .string=>match src,x with
  | some .string,.str s=>.ok (.str s)
  | some (.slice _),x=>bif isU8 e then AuX sto x else .stuck
  | some (.int _),.int _ n=>.side (0<=n/\n<128) (.str [UInt8.ofNat n.toNat])
  | _,_=>.stuck
 | some (.slice _)=>match src with
  | some .string=>bif isU8 e2 then AnE sto x else .stuck
  | _=>.stuck
 | _=>.stuck
def xlen(sto:LB)(x:AV)(d:Option TypeDesc):Res:=match d,x with
 | some .string,.str s=>.ok (.int .i64 s.length)
 | some (.slice _),.fz _ l=>.ok (.int .i64 l.length)
 | some (.slice _),.sl id off n cap=>match sto.getD id .dead with
  | .arr _ l=>.side (off+cap=l.length) (.int .i64 n)
  | _=>.stuck
 | some (.slice _),.raw (.slice none 0 0)=>.ok (.int .i64 0)
 | some (.array n _),_=>.ok (.int .i64 n)
 | some (.map _ _),.mp id=>match sto.getD id .dead with
  | .mp es=>.ok (.int .i64 (lvs es).length)
  | _=>.stuck
 | _,_=>.stuck
def AlF(P:Program)(e:Env)(sto:LB):List Operand->List TypeId->Res
 | x::_,t::_=>xlen sto (ev e x) (P.underlying t)
 | _,_=>.stuck
def xcap(x:AV)(d:Option TypeDesc):Res:=match d,x with
 | some (.slice _),.raw (.slice none 0 0)=>.ok (.int .i64 0)
 | _,_=>.stuck
def ApP(P:Program)(e:Env):List Operand->List TypeId->Res
 | x::_,t::_=>xcap (ev e x) (P.underlying t)
 | _,_=>.stuck
def ApQ(f:AV)(args:LA):Res:=match f with
 | .fn (.func f) cap=>.call f (args++cap)
 | _=>.stuck
def AlG(place:Nat->Option (Nat×Nat))(cells:LA):List (Nat×AV)->Option LA
 | []=>some cells
 | (i,v)::r=>match place i with
  | none=>none
  | some (off,sz)=>bif (cellsOf v).length==sz&&decide (off+sz<=cells.length)&&(cellsOf v).all one then AlG place (putCells cells off (cellsOf v)) r else none
def AeV(P:Program)(fs:Array Field)(i:Nat):Option (Nat×Nat):=(fs[i]?).map fun f=>(f.offset,tsize P f.type)
def AnF(P:Program):List Field->Prop
 | []=>True
 | f::r=>has (P.underlying f.type)/\AnF P r
def AgS(P:Program)(d:Option TypeDesc)(z:LA)(parts:List (Nat×AV)):Res:=match d with
 | some (.struct fs)=>match AlG (AeV P fs) z parts with
  | some cs=>.side (0<z.length/\AnF P fs.toList) (.agg cs)
  | none=>.stuck
 | some (.array _ e)=>match AlG (fun i=>some (i*tsize P e,tsize P e)) z parts with
  | some cs=>.side (0<z.length/\has (P.underlying e)) (.agg cs)
  | none=>.stuck
 | _=>.stuck
def cut(row:Bool)(sz:Nat):Nat->LA->LA
 | 0,_=>[]
 | n+1,cs=>(bif row then .agg (cs.take sz) else cs.getD 0 .any)::cut row sz n (cs.drop sz)
def rep(z:LA):Nat->LA
 | 0=>[]
 | n+1=>z++rep z n
def AbO(frz:Bool)(row:Bool)(sz:Nat)(sto:LB)(z:LA)(len:Nat)(parts:List (Nat×AV)):Res :=
 match AlG (fun i=>some (i*sz,sz)) (rep z len) parts with
 | some cs=>bif frz then .side ((0<sz/\0<len/\z.length=sz/\len*sz<=16777216/\(rep z len).all one=true/\(row=false->sz=1))/\cs.all frozen=true) (.fz sz (cut row sz len cs))
  else .sto (0<sz/\0<len/\z.length=sz/\len*sz<=16777216/\(rep z len).all one=true/\(row=false->sz=1)) (.sl sto.length 0 len len) (sto++[.arr sz (cut row sz len cs)])
 | none=>.stuck
def ArM(frz:Bool)(sto:LB)(sz:Nat):Res :=
 bif frz then .side (0<sz) (.fz sz []) else .sto (0<sz) (.sl sto.length 0 0 0) (sto++[.arr sz []])
def AbE(P:Program)(frz:Bool)(sto:LB)(len:Nat)(parts:List (Nat×AV)):Option TypeDesc->Res
 | some (.slice el)=>match len,parts with
  | 0,[]=>ArM frz sto (tsize P el)
  | len,parts=>AbO frz (isRow (P.underlying el)) (tsize P el) sto (zav P el) len parts
 | _=>.stuck
def srcB(off n cap sz:Nat):Blk->Option (LA×Prop)
 | .arr e l=>some ((l.drop off).take n,(e=sz\/l=[])/\off+cap=l.length/\n<=cap)
 | _=>none
def AkA(b:UInt8):AV:=.int .u8 b.toNat
def ApR(sto:LB)(sz:Nat):AV->Option (LA×Prop)
 | .fz e l=>some (l,e=sz)
 | .sl id off n cap=>srcB off n cap sz (sto.getD id .dead)
 | .raw (.slice none 0 0)=>some ([],True)
 | .str s=>some (s.map AkA,sz=1)
 | _=>none
def AbM(l:LA)(k:Nat)(vs:LA):LA:=l.take k++vs++l.drop (k+vs.length)
def AuY(sto:LB)(id off len cap sz bytes:Nat)(z:LA)(L:LA)(p:Prop):Blk->Res
 | .arr e l=>bif len==cap then .sto (p/\0<sz/\z.length=sz/\z.all one=true/\off=0/\cap=l.length/\(e=sz\/l=[]/\e=0)/\(l.length+L.length)*bytes<=140737488355328/\l.length+L.length<=9223372036854775807) (.sl id 0 (len+L.length) (cap+L.length)) (sto.set id (.arr sz (l++L)))
  else .sto (p/\0<sz/\e=sz/\off+cap=l.length/\len+L.length<=cap) (.sl id off (len+L.length) cap) (sto.set id (.arr sz (AbM l (off+len) L)))
 | _=>.stuck
def AuZ(sto:LB)(sz bytes:Nat)(z:LA)(L:LA)(p:Prop):AV->Res
 | .raw (.slice none 0 0)=>.sto (p/\0<sz/\z.length=sz/\z.all one=true/\L.length*bytes<=140737488355328/\L.length<=9223372036854775807) (.sl sto.length 0 L.length L.length) (sto++[.arr sz L])
 | .sl id off len cap=>AuY sto id off len cap sz bytes z L p (sto.getD id .dead)
 | _=>.stuck
def AyT(sto:LB)(sz bytes:Nat)(z:LA)(dst:AV):Option (LA×Prop)->Res
 | some (L,p)=>AuZ sto sz bytes z L p dst
 | none=>.stuck
def AhY(row:Bool)(z:LA):AV:=bif row then .agg z else z.getD 0 .any
def isI:Option TypeDesc->Bool
 | some (.int _)=>true
 | _=>false
def AvA(sto:LB)(row:Bool)(sz bytes:Nat)(z:LA):AV->AV->Res
 | .raw (.slice none 0 0),.int .i64 n=>.sto (0<sz/\z.length=sz/\(row=false->sz=1)/\z.all one=true/\0<=n/\n*bytes<=140737488355328/\n<=9223372036854775807) (.sl sto.length 0 n.toNat n.toNat) (sto++[.arr sz (List.replicate n.toNat (AhY row z))])
 | _,_=>.stuck
def AnG:Option TypeDesc->Bool
 | some (.slice _)|some .string=>true
 | _=>false
def xapp(P:Program)(sto:LB)(dst src:AV)(tx:Option TypeDesc):Option TypeDesc->Res
 | some (.slice el)=>bif AnG tx then AyT sto (tsize P el) (AaK P el) (zav P el) dst (ApR sto (tsize P el) src) else bif isI tx then AvA sto (isRow (P.underlying el)) (tsize P el) (AaK P el) (zav P el) dst src else .stuck
 | _=>.stuck
def ApS(P:Program)(e:Env)(sto:LB):List Operand->List TypeId->Res
 | [x,y],[t,u]=>xapp P sto (ev e x) (ev e y) (P.underlying u) (P.underlying t)
 | _,_=>.stuck
def cutL{α:Type}(l:List α):Option AV->Option AV->List α
 | some (.int _ a),some (.int _ b)=>(l.take b.toNat).drop a.toNat
 | some (.int _ a),_=>l.drop a.toNat
 | _,some (.int _ b)=>l.take b.toNat
 | _,_=>l
def loOf:Option AV->Option Int
 | none=>some 0
 | some (.int _ a)=>some a
 | _=>none
def hiOf(n:Int):Option AV->Option Int
 | none=>some n
 | some (.int _ b)=>some b
 | _=>none
def AtD(l:LU)(lo hi:Option AV):Option Int->Option Int->Res
 | some a,some b=>.side (0<=a/\a<=b/\b<=l.length) (.str (cutL l lo hi))
 | _,_=>.stuck
def AtE(sz e:Nat)(l:LA)(lo hi:Option AV):Option Int->Option Int->Res
 | some a,some b=>.side (0<sz/\e=sz/\0<=a/\a<=b/\b<=l.length) (.fz e (cutL l lo hi))
 | _,_=>.stuck
def AtF(sz id off len cap:Nat):Blk->Option Int->Option Int->Res
 | .arr e l,some a,some b=>.side (0<sz/\e=sz/\off+cap=l.length/\len<=cap/\0<=a/\a<=b/\b<=cap) (.sl id (off+a.toNat) (b-a).toNat (cap-a.toNat))
 | _,_,_=>.stuck
def AtG(sz:Nat):Option Int->Option Int->Res
 | some a,some b=>.side (0<sz/\a=0/\b=0) (.raw (.slice none 0 0))
 | _,_=>.stuck
def AvB(sz:Nat)(sto:LB)(x:AV):Option AV->Option AV->Res
 | some (.int _ 0),some (.int _ 0)=>match x with
  | .fz _ _=>.sto (0<sz) (.sl sto.length 0 0 0) (sto++[.arr 0 []])
  | .sl id off len cap=>match sto.getD id .dead with
   | .arr _ l=>.sto (0<sz/\off+cap=l.length) (.sl sto.length 0 0 0) (sto++[.arr 0 []])
   | _=>.stuck
  | .raw (.slice none 0 0)=>.side (0<sz) (.raw (.slice none 0 0))
  | _=>.stuck
 | _,_=>.stuck
def ixOf:Option AV->Option Int
 | some (.int _ b)=>some b
 | _=>none
def AvC(sz:Nat)(sto:LB)(x:AV):Option Int->Option Int->Option Int->Res
 | some a,some b,some m=>match x with
  | .fz _ l=>.side (0<sz/\0<=a/\a<=b/\b<=m/\m<=l.length) .any
  | .sl id off len cap=>match sto.getD id .dead with
   | .arr _ l=>.side (0<sz/\off+cap=l.length/\len<=cap/\0<=a/\a<=b/\b<=m/\m<=cap) .any
   | _=>.stuck
  | _=>.stuck
 | _,_,_=>.stuck
def AtH(sz n:Nat)(x:AV):Option AV->Option AV->Res
 | none,none=>match x with
  | .pin _ [a] 0 0=>.side (sz=1/\0<n/\(cellsOf a).length=n/\(cellsOf a).all one=true) (.fz 1 (cellsOf a))
  | _=>.stuck
 | _,_=>.stuck
def xcut(P:Program)(sto:LB)(x:AV)(lo hi mx:Option AV)(d:Option TypeDesc):Res:=match mx,d with
 | none,some .string=>match x with
  | .str l=>AtD l lo hi (loOf lo) (hiOf l.length hi)
  | _=>.stuck
 | none,some (.slice el)=>match x with
  | .fz e l=>AtE (tsize P el) e l lo hi (loOf lo) (hiOf l.length hi)
  | .sl id off len cap=>AtF (tsize P el) id off len cap (sto.getD id .dead) (loOf lo) (hiOf len hi)
  | .raw (.slice none 0 0)=>AtG (tsize P el) (loOf lo) (hiOf 0 hi)
  | _=>.stuck
 | some m,some (.slice el)=>match lo with
  | none=>AvB (tsize P el) sto x hi (some m)
  | some lo'=>AvC (tsize P el) sto x (ixOf (some lo')) (ixOf hi) (ixOf (some m))
 | none,some (.array n el)=>AtH (tsize P el) n x lo hi
 | _,_=>.stuck
def evo(e:Env):Option Operand->Option AV
 | some x=>some (ev e x)
 | none=>none
def AtI(P:Program)(sto:LB):Option TypeDesc->AV->AV->Res
 | some (.slice el),.int _ n,.int _ c=>.sto (0<tsize P el/\(zav P el).length=tsize P el/\(isRow (P.underlying el)=false->tsize P el=1)/\(zav P el).all one=true/\0<=n/\n<=c/\c<=9223372036854775807/\(AaK P el:Int)*c<=140737488355328)
   (.sl sto.length 0 n.toNat n.toNat) (sto++[.arr (tsize P el) (List.replicate n.toNat (AhY (isRow (P.underlying el)) (zav P el)))])
 | _,_,_=>.stuck
def xmm(big:Bool)(a b:Int):Int:=bif big then(if b>a then b else a) else(if b<a then b else a)
def xmms(big:Bool)(a b:LU):LU:=bif big then(bif bytesLess a b then b else a) else(bif bytesLess a b||a==b then a else b)
def xmax(big:Bool):LA->Res
 | [.int k a,.int k' b]=>bif decide (k=k') then .ok (.int k (bif big then(if b>a then b else a) else(if b<a then b else a))) else .stuck
 | [.int k a,.int k1 b,.int k2 c,.int k3 d]=>bif decide (k=k1)&&(decide (k=k2)&&decide (k=k3)) then .ok (.int k (xmm big (xmm big (xmm big a b) c) d)) else .stuck
 | [.str a,.str b]=>.ok (.str (xmms big a b))
 | _=>.stuck
def AnH(sto:LB)(id off len cap sz:Nat)(L:LA)(p:Prop):Blk->Res
 | .arr e l=>.sto (p/\0<sz/\e=sz/\off+cap=l.length/\len<=cap) (.int .i64 (min L.length len:Nat)) (sto.set id (.arr sz (AbM l off (L.take len))))
 | _=>.stuck
def AnI(sto:LB)(sz:Nat)(dst:AV):Option (LA×Prop)->Res
 | some (L,p)=>match dst with
  | .sl id off len cap=>AnH sto id off len cap sz L p (sto.getD id .dead)
  | _=>.stuck
 | none=>.stuck
def AhZ(P:Program)(e:Env)(sto:LB):List Operand->List TypeId->Res
 | [x,y],[t,_]=>match P.underlying t with
  | some (.slice el)=>AnI sto (tsize P el) (ev e x) (ApR sto (tsize P el) (ev e y))
  | _=>.stuck
 | _,_=>.stuck
def AiA(sto:LB)(id off len cap sz:Nat)(row:Bool)(z:LA):Blk->Res
 | .arr e l=>.sto (0<sz/\z.length=sz/\(row=false->sz=1)/\z.all one=true/\e=sz/\off+cap=l.length/\len<=cap) (.tup []) (sto.set id (.arr sz (AbM l off (List.replicate len (AhY row z)))))
 | _=>.stuck
def AeW(P:Program)(e:Env)(sto:LB):List Operand->List TypeId->Res
 | [x],[t]=>match P.underlying t with
  | some (.slice el)=>match ev e x with
   | .sl id off len cap=>AiA sto id off len cap (tsize P el) (isRow (P.underlying el)) (zav P el) (sto.getD id .dead)
   | _=>.stuck
  | _=>.stuck
 | _,_=>.stuck
def keyEq:TypeDesc->AV->AV->Option Bool
 | .string,.str a,.str b=>some (a==b)
 | .int _,.int k a,.int k' b=>bif decide (k=k') then some (a==b) else none
 | .bool,.bool a,.bool b=>some (a==b)
 | .string,.str _,.fz _ _=>some false
 | .int _,.int _ _,.fz _ _=>some false
 | .bool,.bool _,.fz _ _=>some false
 | _,_,_=>none
def AdA:TypeDesc->AV->Bool
 | .string,.str _=>true
 | .int k,.int k' _=>decide (k'=k)
 | .bool,.bool _=>true
 | _,_=>false
def mfind(d:TypeDesc)(k:AV):List (AV×AV)->Nat->Option (Option (Nat×AV))
 | [],_=>some none
 | x::r,i=>match keyEq d k x.1 with
  | some true=>some (some (i,x.2))
  | some false=>mfind d k r (i+1)
  | none=>none
def keyEqS(P:Program)(fs:List Field):AV->AV->Option Bool
 | .agg xs,.agg ys=>bif decide (xs.length=fs.length)&&decide (ys.length=fs.length) then eqFs P fs xs ys else none
 | .agg _,.fz _ _=>some false
 | _,_=>none
def keyEqT(P:Program)(kt:TypeId):AV->AV->Option Bool
 | .agg xs,.agg ys=>eqLs P (leafTs P 4 kt) xs ys
 | .agg _,.fz _ _=>some false
 | _,_=>none
def isKeyT(P:Program)(kt:TypeId)(k:AV):Bool:=match keyEqT P kt k k with|some true=>true|_=>false
def mfindT(P:Program)(kt:TypeId)(k:AV):List (AV×AV)->Nat->Option (Option (Nat×AV))
 | [],_=>some none
 | x::r,i=>match keyEqT P kt k x.1 with
  | some true=>some (some (i,x.2))
  | some false=>mfindT P kt k r (i+1)
  | none=>none
def isKeyS(P:Program)(fs:List Field)(k:AV):Bool:=match keyEqS P fs k k with|some true=>true|_=>false
def mfindS(P:Program)(fs:List Field)(k:AV):List (AV×AV)->Nat->Option (Option (Nat×AV))
 | [],_=>some none
 | x::r,i=>match keyEqS P fs k x.1 with
  | some true=>some (some (i,x.2))
  | some false=>mfindS P fs k r (i+1)
  | none=>none
def ArN(sto:LB):Res:=.sto True (.mp sto.length) (sto++[.mp []])
def xmputF(sto:LB)(id:Nat)(es:List (AV×AV))(k v:AV):Option (Option (Nat×AV))->Res
 | some (some (i,_))=>.sto True (.raw undef) (sto.set id (.mp (es.set i (k,v))))
 | some none=>.sto True (.raw undef) (sto.set id (.mp (es++[(k,v)])))
 | none=>.stuck
def AeK(d:TypeDesc)(sto:LB)(id:Nat)(k v:AV):Blk->Res
 | .mp es=>bif AdA d k then xmputF sto id es k v (mfind d k es 0) else .stuck
 | _=>.stuck
def xputS(p:Prop):Res->Res
 | .sto q v s=>.sto (p/\q) v s
 | _=>.stuck
def AeL(P:Program)(kt:TypeId)(fs:List Field)(sto:LB)(id:Nat)(k v:AV):Blk->Res
 | .mp es=>bif isKeyS P fs k then xputS (AbR P kt=true) (xmputF sto id es k v (mfindS P fs k es 0)) else .stuck
 | _=>.stuck
def AeM(P:Program)(kt:TypeId)(sto:LB)(id:Nat)(k v:AV):Blk->Res
 | .mp es=>bif isKeyT P kt k then xputS (AbY P kt=true) (xmputF sto id es k v (mfindT P kt k es 0)) else .stuck
 | _=>.stuck
def AhA(P:Program)(sto:LB)(m k v:AV):Option TypeDesc->Res
 | some (.map kt _)=>match P.underlying kt,m with
  | some (.struct fs),.mp id=>bif AaB P kt then AeL P kt fs.toList sto id k v (sto.getD id .dead) else AeM P kt sto id k v (sto.getD id .dead)
  | some d,.mp id=>AeK d sto id k v (sto.getD id .dead)
  | _,_=>.stuck
 | _=>.stuck
def zval(P:Program)(t:TypeId):AV:=match(P.info? t).bind (·.zero)with
 | some (.agg cs)=>.agg (cs.toList.map AcV)
 | some v=>AcV v
 | none=>.any
def zok(P:Program)(t:TypeId):Bool:=((P.info? t).bind (·.zero)).isSome
def AkB(ok:Bool)(z:AV)(p:Prop):Option (Option (Nat×AV))->Res
 | some (some (_,v))=>.ok (bif ok then .tup [v,.bool true] else v)
 | some none=>.side p (bif ok then .tup [z,.bool false] else z)
 | none=>.stuck
def AkC(P:Program)(fs:List Field)(k:AV)(ok:Bool)(z:AV)(p q:Prop):Blk->Res
 | .mp es=>bif isKeyS P fs k then(match mfindS P fs k es 0 with
   | some (some (_,v))=>.side q (bif ok then .tup [v,.bool true] else v)
   | some none=>.side (q/\p) (bif ok then .tup [z,.bool false] else z)
   | none=>.stuck) else .stuck
 | _=>.stuck
def AkD(d:TypeDesc)(k:AV)(ok:Bool)(z:AV)(p:Prop):Blk->Res
 | .mp es=>bif AdA d k then AkB ok z p (mfind d k es 0) else .stuck
 | _=>.stuck
def AkE(P:Program)(kt:TypeId)(k:AV)(ok:Bool)(z:AV)(p q:Prop):Blk->Res
 | .mp es=>bif isKeyT P kt k then(match mfindT P kt k es 0 with
   | some (some (_,v))=>.side q (bif ok then .tup [v,.bool true] else v)
   | some none=>.side (q/\p) (bif ok then .tup [z,.bool false] else z)
   | none=>.stuck) else .stuck
 | _=>.stuck
def AjO(P:Program)(sto:LB)(m k:AV)(ok:Bool):Option TypeDesc->Res
 | some (.map kt vt)=>match P.underlying kt,m with
  | some (.struct fs),.mp id=>bif AaB P kt then AkC P fs.toList k ok (zval P vt) (zok P vt=true) (AbR P kt=true) (sto.getD id .dead) else AkE P kt k ok (zval P vt) (zok P vt=true) (AbY P kt=true) (sto.getD id .dead)
  | some d,.mp id=>AkD d k ok (zval P vt) (zok P vt=true) (sto.getD id .dead)
  | _,_=>.stuck
 | _=>.stuck
def ApT(sto:LB)(id:Nat)(es:List (AV×AV))(p:Prop):Option (Option (Nat×AV))->Res
 | some (some (i,_))=>.sto p (.tup []) (sto.set id (.mp (es.set i tomb)))
 | some none=>.sto p (.tup []) sto
 | none=>.stuck
def AvD(d:TypeDesc)(sto:LB)(id:Nat)(k:AV):Blk->Res
 | .mp es=>bif AdA d k then ApT sto id es True (mfind d k es 0) else .stuck
 | _=>.stuck
def AvE(P:Program)(kt:TypeId)(fs:List Field)(sto:LB)(id:Nat)(k:AV):Blk->Res
 | .mp es=>bif isKeyS P fs k then ApT sto id es (AbR P kt=true) (mfindS P fs k es 0) else .stuck
 | _=>.stuck
def AvF(P:Program)(kt:TypeId)(sto:LB)(id:Nat)(k:AV):Blk->Res
 | .mp es=>bif isKeyT P kt k then ApT sto id es (AbY P kt=true) (mfindT P kt k es 0) else .stuck
 | _=>.stuck
def xdel(P:Program)(sto:LB)(m k:AV):Option TypeDesc->Res
 | some (.map kt _)=>match P.underlying kt,m with
  | some (.struct fs),.mp id=>bif AaB P kt then AvE P kt fs.toList sto id k (sto.getD id .dead) else AvF P kt sto id k (sto.getD id .dead)
  | some d,.mp id=>AvD d sto id k (sto.getD id .dead)
  | _,_=>.stuck
 | _=>.stuck
def ApU(P:Program)(e:Env)(sto:LB):List Operand->List TypeId->Res
 | [m,k],t::_=>xdel P sto (ev e m) (ev e k) (P.underlying t)
 | _,_=>.stuck
def AfE(sto:LB)(id:Nat)(es:List (AV×AV))(k z:AV)(p:Prop):Option (Option (Nat×AV))->Res
 | some (some (i,v))=>.sto True (.tup [v,.int .i64 i]) (sto.set id (.mp (es.set i (k,v))))
 | some none=>.sto p (.tup [z,.int .i64 es.length]) (sto.set id (.mp (es++[(k,z)])))
 | none=>.stuck
def AfF(d:TypeDesc)(sto:LB)(id:Nat)(k z:AV)(p:Prop):Blk->Res
 | .mp es=>bif AdA d k then AfE sto id es k z p (mfind d k es 0) else .stuck
 | _=>.stuck
def AfY(P:Program)(sto:LB)(m k:AV):Option TypeDesc->Res
 | some (.map kt vt)=>match P.underlying kt,m with
  | some (.struct _),_=>.stuck
  | some d,.mp id=>AfF d sto id k (zval P vt) (zok P vt=true) (sto.getD id .dead)
  | _,_=>.stuck
 | _=>.stuck
def AfG(sto:LB)(id:Nat)(n:Int)(v:AV):Blk->Res
 | .mp es=>.sto (0<=n/\n<es.length/\liveK (es.getD n.toNat (.any,.any)).1=true) (.raw undef) (sto.set id (.mp (es.set n.toNat ((es.getD n.toNat (.any,.any)).1,v))))
 | _=>.stuck
def AfZ(sto:LB)(m n v:AV):Res:=match m,n with
 | .mp id,.int .i64 n=>AfG sto id n v (sto.getD id .dead)
 | _,_=>.stuck
def AiB(sto:LB)(mid:Nat):Blk->Res
 | .mp es=>.sto True (.mp sto.length) (sto++[.it mid es.length []])
 | _=>.stuck
def AkF(sto:LB)(x:AV):Option TypeDesc->Res
 | some (.map _ _)=>match x with
  | .mp mid=>AiB sto mid (sto.getD mid .dead)
  | _=>.stuck
 | _=>.stuck
def AiC(n:Nat)(seen:List Nat):Blk->Res
 | .mp es=>.side (seen≠[]/\es.length=n/\liveK (es.getD (seen.getLastD 0) (.any,.any)).1=true) (.tup [(es.getD (seen.getLastD 0) (.any,.any)).1,(es.getD (seen.getLastD 0) (.any,.any)).2])
 | _=>.stuck
def AiD(sto:LB):Blk->Res
 | .it mid n seen=>AiC n seen (sto.getD mid .dead)
 | _=>.stuck
def AkG(sto:LB):AV->Res
 | .mp id=>AiD sto (sto.getD id .dead)
 | _=>.stuck
def xnil(sto:LB)(x:AV):Res:=match x with
 | .ptr id n j off=>match sto.getD id .dead with
  | .arr _ l=>.side (n=l.length) (.ptr id n j off)
  | _=>.stuck
 | .pin e l j off=>.ok (.pin e l j off)
 | _=>.stuck
def xop(wr frz:Bool)(P:Program)(e:Env)(sto:LB)(op:Op):Res :=
 match op with
 | .move x|.assign x=>.ok (ev e x)
 | .pick c a b=>xpick (ev e c) (ev e a) (ev e b)
 | .binOp op t x y _=>AgZ P t (wr&&!frz) sto op (ev e x) (ev e y)
 | .unOp .not _ x=>xnot (ev e x)
 | .unOp .neg _ x=>xneg (ev e x)
 | .extract x i=>xextract (ev e x) i
 | .index t x i=>AhV (P.underlying t) (P.underlying (elemD (P.underlying t))) (tsize P (elemD (P.underlying t))) (ev e x) (ev e i)
 | .field t x f=>AeU P (ev e x) (AhW (P.underlying t) f)
 | .box t x=>AuW (wr&&frz) (isRow (P.underlying t)) sto (ev e x)
 | .alloc t=>AdN sto (isRow (P.underlying t)) (zav P t)
 | .fieldAddr t x f=>AbH P (AhW (P.underlying t) f) sto (ev e x)
 | .indexAddr t x i=>AaV (P.underlying t) (tsize P (elemD (P.underlying t))) sto (ev e x) (ev e i)
 | .load t x=>xload (P.underlying t) (tsize P t) sto (ev e x)
 | .store t x v=>AgR (tsize P t) sto (ev e x) (ev e v)
 | .convert a b x=>AtC (wr&&!frz) (P.underlying a) (P.underlying b) (P.underlying (elemD (P.underlying a))) (P.underlying (elemD (P.underlying b))) sto (ev e x)
 | .build t parts=>AgS P (P.underlying t) (zav P t) (evp e parts.toList)
 | .buildSlice t len parts=>AbE P frz sto len (evp e parts.toList) (P.underlying t)
 | .slice t x lo hi mx=>xcut P sto (ev e x) (evo e lo) (evo e hi) (evo e mx) (P.underlying t)
 | .makeSlice t n c=>AtI P sto (P.underlying t) (ev e n) (ev e c)
 | .nilCheck x=>xnil sto (ev e x)
 | .makeMap _ none=>ArN sto
 | .mapUpdate t m k v=>AhA P sto (ev e m) (ev e k) (ev e v) (P.underlying t)
 | .mapEntry t m k=>AfY P sto (ev e m) (ev e k) (P.underlying t)
 | .entryStore _ m n v=>AfZ sto (ev e m) (ev e n) (ev e v)
 | .range t x=>AkF sto (ev e x) (P.underlying t)
 | .entry x=>AkG sto (ev e x)
 | .lookup t m k ok=>AjO P sto (ev e m) (ev e k) ok (P.underlying t)
 | .makeFunc f first cap=>match first.toList with|[]=>.ok (.fn f (evs e cap.toList))|_=>.stuck
 | .call c=>match c.callee with
  | .builtin .len=>AlF P e sto c.args.toList c.argTypes.toList
  | .builtin .cap=>ApP P e c.args.toList c.argTypes.toList
  | .builtin .append=>ApS P e sto c.args.toList c.argTypes.toList
  | .builtin .copy=>AhZ P e sto c.args.toList c.argTypes.toList
  | .builtin .clear=>AeW P e sto c.args.toList c.argTypes.toList
  | .builtin .delete=>ApU P e sto c.args.toList c.argTypes.toList
  | .builtin .max=>xmax true (evs e c.args.toList)
  | .builtin .min=>xmax false (evs e c.args.toList)
  | .value f=>ApQ (ev e f) (evs e c.args.toList)
  | _=>.stuck
 | _=>.stuck
theorem A3F{a:UInt8}{l:LU}:((a::l)==[])=false:=rfl
theorem A3G{a:UInt8}{l:LU}:(([]:LU)==(a::l))=false:=rfl
theorem A3H{a:UInt8}{l:LU}:((a::l) != [])=true:=rfl
theorem A3I{a:UInt8}{l:LU}:(([]:LU) != (a::l))=true:=rfl
theorem A3J:(Value.slice none 0 0).oneCell'=true:=rfl
end Go.Av
namespace Go.Av
open RowKit
variable [Tr]
section
variable {h:Mem}{ρ:Own}{sto:LB}{w:World}{P:Program}
def EnvOk(h:Mem)(ρ:Own)(sto:LB)(e:Env)(a:Act):Prop:=∀ t,RV h (Lf ρ sto) false (a.tmps.getD t undef) (get e t)
theorem AaE{fl u k n}(r:RV h (Lf ρ sto) fl u (.int k n)):u=.int k n:=by cases r with|leaf l=>exact l.2.elim|int=>rfl
theorem AaS{fl u b}(r:RV h (Lf ρ sto) fl u (.bool b)):u=.bool b:=by cases r with|leaf l=>exact l.2.elim|bool=>rfl
theorem AaQ{fl u s}(r:RV h (Lf ρ sto) fl u (.str s)):u=.string ⟨s.toArray⟩:=by cases r with|leaf l=>exact l.2.elim|str=>rfl
theorem AaU{fl u v}(r:RV h (Lf ρ sto) fl u (.raw v)):u=v:=by cases r with|leaf l=>exact l.2.elim|raw=>rfl
theorem inv_agg{fl u l}(r:RV h (Lf ρ sto) fl u (.agg l)):∃ vs:List Value,u=.agg vs.toArray/\RL h (Lf ρ sto) fl vs l:=by
 cases r with|leaf l=>exact l.2.elim|agg vs l r=>grind
theorem AiE{fl u l}(r:RV h (Lf ρ sto) fl u (.tup l)):∃ vs:List Value,u=.tuple vs.toArray/\RL h (Lf ρ sto) fl vs l:=by
 cases r with|leaf l=>exact l.2.elim|tup vs l r=>grind
theorem AvG{fl u f l}(r:RV h (Lf ρ sto) fl u (.fn f l)):∃ vs:List Value,u=.func f #[] vs.toArray/\RL h (Lf ρ sto) fl vs l:=by
 cases r with|leaf l=>exact l.2.elim|fn f vs l r=>grind
theorem AeN{fl u e l}(r:RV h (Lf ρ sto) fl u (.fz e l)):(l=[]/\u=.slice none 0 0) \/
  ∃ b o c vs,u=.slice (some ⟨b,o,none⟩) l.length c/\RL h (Lf ρ sto) true vs (flat l)/\(∀ x∈l,(cellsOf x).length=e)/\(∀ (k:Nat) v,vs[k]? = some v->h b (o+k)=some v)/\l.length<=c:=by
 cases r with
 | leaf l=>exact l.2.elim
 | fznil=>grind
 | fz b o c e l vs h1 h2 h3 h4=>grind
theorem AgA{fl u e l i off}(r:RV h (Lf ρ sto) fl u (.pin e l i off)) :
  ∃ b o vs,u=.pointer (some ⟨b,o+(i*e+off),none⟩)/\RL h (Lf ρ sto) true vs (flat l)/\(∀ x∈l,(cellsOf x).length=e)/\(∀ (k:Nat) v,vs[k]? = some v->h b (o+k)=some v)/\i<l.length:=by
 cases r with
 | leaf l=>exact l.2.elim
 | pin b o e l vs i off h1 h2 h3 h4=>grind
theorem AbN{fl u id off len cap}(r:RV h (Lf ρ sto) fl u (.sl id off len cap)):Lf ρ sto u (.sl id off len cap):=by cases r<;>omega
theorem AcK{fl u id n i off}(r:RV h (Lf ρ sto) fl u (.ptr id n i off)):Lf ρ sto u (.ptr id n i off):=by cases r<;>omega
theorem AgT{fl u id}(r:RV h (Lf ρ sto) fl u (.mp id)):Lf ρ sto u (.mp id):=by cases r<;>omega
theorem AgB{fl:Bool}(v:Value):RV h (Lf ρ sto) fl v (AcV v):=by
 cases v with
 | int k n=>exact .int k n
 | bool b=>exact .bool b
 | string s=>exact .str s.data.toList
 | _=>exact .raw _
theorem AaF{e:Env}{a:Act}(he:EnvOk h ρ sto e a)(x:Operand):RV h (Lf ρ sto) false (a.eval x) (ev e x):=by
 cases x with
 | tmp t=>exact he t
 | const v=>exact AgB v
 | global g=>exact .raw _
 | func f=>exact .fn (.func f) [] [] .nil
theorem A2A{e:Env}{a:Act}(he:EnvOk h ρ sto e a)(xs:List Operand):RL h (Lf ρ sto) false (xs.map a.eval) (evs e xs):=by
 induction xs with
 | nil=>exact .nil
 | cons x xs ih=>exact .cons (AaF he x) ih
theorem AvH{fl u a}(r:RV h (Lf ρ sto) fl u a)(h1:one a=true):u.oneCell'=true:=by
 cases a with
 | int=>rw[AaE r]; rfl
 | bool=>rw[AaS r]; rfl
 | str=>rw[AaQ r]; rfl
 | raw v=>rw[AaU r]; exact h1
 | agg=>cases h1
 | tup=>cases h1
 | any=>cases h1
 | fn f l=>obtain⟨vs,rfl,_⟩:=AvG r; rfl
 | fz e l=>rcases AeN r with⟨_,rfl⟩|⟨b,o,c,vs,rfl,_⟩ <;> rfl
 | pin=>obtain⟨b,o,vs,rfl,_⟩:=AgA r; rfl
 | sl=>exact(AbN r).1
 | ptr=>exact(AcK r).1
 | mp=>exact(AgT r).1
end
