/- What an operation makes of plain data. -/
import Derived.Test.YtmhjbljckkgeoaaGreatDoorC1
set_option linter.all false
namespace Go.Av
open RowKit
abbrev Env:=List (Nat×AV)
def AdT:Value->AV
 | .int k n=>.int k n
 | .bool b=>.bool b
 | .string s=>.str s.data.toList
 | v=>.raw v
def get:Env->Nat->AV
 | [],_=>.any
 | (k,v)::r,t=>bif k==t then v else get r t
def ev(e:Env):Operand->AV
 | .tmp t=>get e t
 | .const v=>AdT v
 | .global g=>.raw (.pointer (some ⟨g,0,none⟩))
 | .func f=>.fn (.func f) []
def evs(e:Env):List Operand->LY
 | []=>[]
 | x::r=>ev e x::evs e r
def evp(e:Env):List (Nat×Operand)->List (Nat×AV)
 | []=>[]
 | (i,x)::r=>(i,ev e x)::evp e r
def put(e:Env)(d:Option Tmp)(v:AV):Env :=
 match d with
 | some d=>(d,v)::e
 | none=>e
def one:AV->Bool
 | .agg _|.tup _|.any=>false
 | .raw v=>v.oneCell'
 | _=>true
def frozen0:AV->Bool
 | .agg _|.tup _|.sl ..|.ptr ..|.mp _|.fn ..=>false
 | _=>true
def frozen:AV->Bool
 | .fn _ l=>l.all frozen0
 | .agg _|.tup _|.sl ..|.ptr ..|.mp _=>false
 | _=>true
theorem AqF{a:AV}(h:frozen0 a=true):frozen a=true:=by cases a <;> first|rfl|grind[frozen0]
def bytesLess:LU->LU->Bool
 | _,[]=>false
 | [],_::_=>true
 | a::x,b::y=>a<b||(a==b&&bytesLess x y)
def inr:IntKind->Int->Prop
 | .i64,n=>-9223372036854775808<=n/\n<=9223372036854775807
 | .i32,n=>-2147483648<=n/\n<=2147483647
 | .u8,n=>0<=n/\n<=255
 | .u16,n=>0<=n/\n<=65535
 | k,n=>k.wrap n=n
inductive Res where
 | ok (v:AV)
 | side (p:Prop) (v:AV)
 | sto (p:Prop) (v:AV) (sto:LB)
 | pick (b:Bool) (x y:AV)
 | call (f:FuncId) (args:LY)
 | anyb (p:Prop)
 | stuck
def AvA(wr:Bool)(k:IntKind)(n:Int):Res:=bif wr then .ok (.int k (k.wrap n)) else .side (inr k n) (.int k n)
def xint(wr:Bool)(op:BinOp)(k:IntKind)(a b:Int):Res :=
 match op with
 | .add=>AvA wr k (a+b)
 | .sub=>AvA wr k (a-b)
 | .mul=>AvA wr k (a*b)
 | .quo=>bif wr then .side (b≠0/\inr k (a.tdiv b)) (.int k (a.tdiv b)) else .side (0<=a/\0<b/\inr k (a / b)) (.int k (a / b))
 | .rem=>bif wr then .side (b≠0) (.int k (a.tmod b)) else .side (0<=a/\0<b) (.int k (a%b))
 | .shr=>.side (k=.u64/\b=1) (.int k (a / 2))
 | .eql=>.ok (.bool (a==b))
 | .neq=>.ok (.bool (a != b))
 | .lss=>.ok (.bool (a<b))
 | .leq=>.ok (.bool (a<=b))
 | .gtr=>.ok (.bool (a>b))
 | .geq=>.ok (.bool (a>=b))
 | _=>.stuck
def xstr(op:BinOp)(a b:LU):Res :=
 match op with
 | .add=>.side ((a.length:Int)+b.length<=9223372036854775807) (.str (a++b))
 | .eql=>.ok (.bool (a==b))
 | .neq=>.ok (.bool (a != b))
 | .lss=>.ok (.bool (bytesLess a b))
 | .leq=>.ok (.bool (bytesLess a b||a==b))
 | .gtr=>.ok (.bool (!(bytesLess a b||a==b)))
 | .geq=>.ok (.bool (!bytesLess a b))
 | _=>.stuck
def BiJ(op:BinOp)(a b:Bool)(d:Option TypeDesc):Res :=
 match op,d with
 | .eql,some .bool=>.ok (.bool (a==b))
 | .neq,some .bool=>.ok (.bool (!(a==b)))
 | _,_=>.stuck
def xbin(wr:Bool)(d:Option TypeDesc)(op:BinOp)(x y:AV):Res :=
 match x,y with
 | .int k a,.int k' b=>if k=k' then xint wr op k a b else .stuck
 | .str a,.str b=>xstr op a b
 | .bool a,.bool b=>BiJ op a b d
 | _,_=>.stuck
def AhJ(sto:LB)(neg:Bool)(x:AV):Res:=match x with
 | .fz _ (_::_)=>.ok (.bool neg)
 | .fz _ []=>.anyb True
 | .sl id off _ cap=>match sto.getD id .dead with
  | .arr _ l=>.anyb (off+cap=l.length)
  | _=>.stuck
 | .raw (.slice none 0 0)=>.ok (.bool !neg)
 | _=>.stuck
def ApS(wr:Bool)(sto:LB)(d:Option TypeDesc)(op:BinOp)(x y:AV):Res:=match y,d with
 | .raw (.slice none 0 0),some (.slice _)=>match op with
  | .eql=>AhJ sto false x
  | .neq=>AhJ sto true x
  | _=>.stuck
 | _,_=>xbin wr d op x y
def tsize(P:Program)(t:TypeId):Nat:=((P.info? t).map (·.size)).getD 0
def AdB(P:Program)(t:TypeId):List Value:=match(P.info? t).bind (·.zero)with|some v=>v.cells.toList|none=>[]
def zav(P:Program)(t:TypeId):LY:=(AdB P t).map AdT
def AbB(P:Program)(t:TypeId):Nat:=((P.info? t).map (·.bytes)).getD 0
def isRow:Option TypeDesc->Bool
 | some (.struct _)|some (.array _ _)=>true
 | _=>false
def elemD:Option TypeDesc->TypeId
 | some (.slice e)|some (.array _ e)=>e
 | _=>0
def xnot:AV->Res
 | .bool b=>.ok (.bool !b)
 | _=>.stuck
def xneg:AV->Res
 | .int k n=>.side (inr k (0-n)) (.int k (0-n))
 | _=>.stuck
def A9U(c x y:AV):Res:=match c with|.bool t=>.pick t x y|_=>.stuck
def AiK(x:AV)(i:Nat):Res:=match x with|.tup l=>.side (i<l.length) (l.getD i .any)|_=>.stuck
def AvB(row:Bool)(cs:LY)(off sz:Nat):AV:=bif row then .agg ((cs.drop off).take sz) else cs.getD off .any
def xpartOk(row:Bool)(cs:LY)(off sz:Nat):Prop:=bif row then off+sz<=cs.length else off<cs.length
def has(d:Option TypeDesc):Prop:=d.isSome=true
def AvC(t te:Option TypeDesc)(sz:Nat)(x i:AV):Res:=match t,x,i with
 | some .string,.str l,.int _ n=>.side (0<=n/\n<l.length) (.int .u8 ((l.getD n.toNat 0).toNat))
 | some (.array len _),.agg l,.int _ n=>.side (has te/\(0<=n/\n<len)/\xpartOk (isRow te) l (n.toNat*sz) sz) (AvB (isRow te) l (n.toNat*sz) sz)
 | _,_,_=>.stuck
def AmL(d:Option TypeDesc)(f:Nat):Option (Nat×TypeId):=match d with
 | some (.struct fs)=>(fs[f]?).map fun x=>(x.offset,x.type)
 | _=>none
def AmM(P:Program)(x:AV):Option (Nat×TypeId)->Res
 | some (off,t)=>match x with
  | .agg l=>.side (has (P.underlying t)/\xpartOk (isRow (P.underlying t)) l off (tsize P t)) (AvB (isRow (P.underlying t)) l off (tsize P t))
  | _=>.stuck
 | none=>.stuck
def xnew(sto:LB)(l:LY)(elem:AV):Res:=.sto (0<l.length/\l.all one=true) (.ptr sto.length 1 0 0) (sto++[.arr l.length [elem]])
def xbox(row:Bool)(sto:LB)(v:AV):Res:=match row,v with
 | true,.agg l=>xnew sto l (.agg l)
 | false,v=>bif one v then xnew sto [v] v else .stuck
 | _,_=>.stuck
def BiK(row:Bool)(v:AV):Res:=match row,v with
 | true,.agg l=>.side (0<l.length/\l.all frozen=true/\l.all one=true) (.pin l.length [.agg l] 0 0)
 | false,v=>bif one v&&frozen v then .ok (.pin 1 [v] 0 0) else .stuck
 | _,_=>.stuck
def BpX(frz row:Bool)(sto:LB)(v:AV):Res:=bif frz then BiK row v else xbox row sto v
def AiL(sto:LB)(row:Bool)(z:LY):Res:=bif row then xnew sto z (.agg z) else(match z with|[v]=>xnew sto [v] v|_=>.stuck)
def xptrAddIf(p:Prop)(sto:LB)(x:AV)(k:Nat):Res:=match x with
 | .ptr id n j off=>match sto.getD id .dead with
  | .arr _ l=>.side (p/\n=l.length) (.ptr id n j (off+k))
  | _=>.stuck
 | .pin e l j off=>.side p (.pin e l j (off+k))
 | _=>.stuck
def AcT(P:Program)(d:Option (Nat×TypeId))(sto:LB)(x:AV):Res:=match d with
 | some (off,t)=>xptrAddIf (0<tsize P t) sto x off
 | none=>.stuck
def AbX(d:Option TypeDesc)(sz:Nat)(sto:LB)(x i:AV):Res:=match d,i with
 | some (.array len _),.int _ n=>xptrAddIf (0<sz/\0<=n/\n<len) sto x (n.toNat*sz)
 | some (.slice _),.int _ n=>match x with
  | .fz e l=>.side (0<sz/\e=sz/\0<=n/\n<l.length) (.pin e l n.toNat 0)
  | .sl id off len cap=>match sto.getD id .dead with
   | .arr e l=>.side (0<sz/\e=sz/\off+cap=l.length/\0<=n/\n<len/\len<=cap) (.ptr id l.length (off+n.toNat) 0)
   | _=>.stuck
  | _=>.stuck
 | _,_=>.stuck
def A9V(d:Option TypeDesc)(sz:Nat)(p:Prop)(cs:LY)(off:Nat):Res:=.side (has d/\p/\xpartOk (isRow d) cs off sz) (AvB (isRow d) cs off sz)
def xload(d:Option TypeDesc)(sz:Nat)(sto:LB)(x:AV):Res:=match x with
 | .ptr id n j off=>match sto.getD id .dead with
  | .arr _ l=>A9V d sz (n=l.length/\j<n) (cellsOf (l.getD j .any)) off
  | _=>.stuck
 | .pin _ l j off=>A9V d sz (j<l.length) (cellsOf (l.getD j .any)) off
 | _=>.stuck
def putCells(cs:LY)(off:Nat):LY->LY
 | []=>cs
 | v::r=>putCells (cs.set off v) (off+1) r
def reElem(old:AV)(cs:LY):AV:=match old with
 | .agg _=>.agg cs
 | _=>cs.getD 0 .any
def AzY(sto:LB)(sz id n j off:Nat)(vs:LY):Blk->Res
 | .arr e l=>.sto (0<sz/\n=l.length/\j<n/\vs.length=sz/\off+sz<=(cellsOf (l.getD j .any)).length/\vs.all one=true) (.raw undef) (sto.set id (.arr e (l.set j (reElem (l.getD j .any) (putCells (cellsOf (l.getD j .any)) off vs)))))
 | _=>.stuck
def AqG(sz:Nat)(sto:LB)(x v:AV):Res:=match x with
 | .ptr id n j off=>AzY sto sz id n j off (cellsOf v) (sto.getD id .dead)
 | _=>.stuck
def AkZ:AV->UInt8
 | .int _ n=>UInt8.ofNat n.toNat
 | _=>0
def AeV:AV->Bool
 | .int .u8 _=>true
 | _=>false
def isU8:Option TypeDesc->Bool
 | some (.int .u8)=>true
 | _=>false
def BpY(sto:LB)(x:AV):Res:=match x with
 | .fz e l=>.side (e=1/\l.all AeV=true) (.str (l.map AkZ))
 | .sl id off len cap=>match sto.getD id .dead with
  | .arr e l=>.side (e=1/\off+cap=l.length/\len<=cap/\((l.drop off).take len).all AeV=true) (.str (((l.drop off).take len).map AkZ))
  | _=>.stuck
 | .raw (.slice none 0 0)=>.ok (.str [])
 | _=>.stuck
def A9W(sto:LB):AV->Res
 | .str s=>.sto (s.length<=140737488355328) (.sl sto.length 0 s.length s.length) (sto++[.arr 1 (s.map fun b=>.int .u8 b.toNat)])
 | _=>.stuck
def BiL(wr:Bool)(src dst e e2:Option TypeDesc)(sto:LB)(x:AV):Res:=match dst with
 | some (.int k)=>match src,x with
  | some (.int _),.int _ n=>bif wr then .ok (.int k (k.wrap n)) else .side (inr k n) (.int k n)
  | _,_=>.stuck
 | some .string=>match src,x with
  | some .string,.str s=>.ok (.str s)
  | some (.slice _),x=>bif isU8 e then BpY sto x else .stuck
  | _,_=>.stuck
 | some (.slice _)=>match src with
  | some .string=>bif isU8 e2 then A9W sto x else .stuck
  | _=>.stuck
 | _=>.stuck
def xlen(sto:LB)(x:AV)(d:Option TypeDesc):Res:=match d,x with
 | some .string,.str s=>.ok (.int .i64 s.length)
 | some (.slice _),.fz _ l=>.ok (.int .i64 l.length)
 | some (.slice _),.sl id off n cap=>match sto.getD id .dead with
  | .arr _ l=>.side (off+cap=l.length) (.int .i64 n)
  | _=>.stuck
 | some (.slice _),.raw (.slice none 0 0)=>.ok (.int .i64 0)
 | some (.array n _),_=>.ok (.int .i64 n)
 | some (.map _ _),.mp id=>match sto.getD id .dead with
  | .mp es=>.ok (.int .i64 es.length)
  | _=>.stuck
 | _,_=>.stuck
def AzZ(P:Program)(e:Env)(sto:LB):List Operand->List TypeId->Res
 | x::_,t::_=>xlen sto (ev e x) (P.underlying t)
 | _,_=>.stuck
def xcap(x:AV)(d:Option TypeDesc):Res:=match d,x with
 | some (.slice _),.raw (.slice none 0 0)=>.ok (.int .i64 0)
 | _,_=>.stuck
def A9X(P:Program)(e:Env):List Operand->List TypeId->Res
 | x::_,t::_=>xcap (ev e x) (P.underlying t)
 | _,_=>.stuck
def A9Y(f:AV)(args:LY):Res:=match f with
 | .fn (.func f) cap=>.call f (args++cap)
 | _=>.stuck
def AmN(place:Nat->Option (Nat×Nat))(cells:LY):List (Nat×AV)->Option LY
 | []=>some cells
 | (i,v)::r=>match place i with
  | none=>none
  | some (off,sz)=>bif (cellsOf v).length==sz&&decide (off+sz<=cells.length)&&(cellsOf v).all one then AmN place (putCells cells off (cellsOf v)) r else none
def AhS(P:Program)(fs:Array Field)(i:Nat):Option (Nat×Nat):=(fs[i]?).map fun f=>(f.offset,tsize P f.type)
def A3J(P:Program):List Field->Prop
 | []=>True
 | f::r=>has (P.underlying f.type)/\A3J P r
def AvD(P:Program)(d:Option TypeDesc)(z:LY)(parts:List (Nat×AV)):Res:=match d with
 | some (.struct fs)=>match AmN (AhS P fs) z parts with
  | some cs=>.side (0<z.length/\A3J P fs.toList) (.agg cs)
  | none=>.stuck
 | some (.array _ e)=>match AmN (fun i=>some (i*tsize P e,tsize P e)) z parts with
  | some cs=>.side (0<z.length/\has (P.underlying e)) (.agg cs)
  | none=>.stuck
 | _=>.stuck
def cut(row:Bool)(sz:Nat):Nat->LY->LY
 | 0,_=>[]
 | n+1,cs=>(bif row then .agg (cs.take sz) else cs.getD 0 .any)::cut row sz n (cs.drop sz)
def rep(z:LY):Nat->LY
 | 0=>[]
 | n+1=>z++rep z n
def AdU(frz:Bool)(row:Bool)(sz:Nat)(sto:LB)(z:LY)(len:Nat)(parts:List (Nat×AV)):Res :=
 match AmN (fun i=>some (i*sz,sz)) (rep z len) parts with
 | some cs=>bif frz then .side ((0<sz/\0<len/\z.length=sz/\len*sz<=16777216/\(rep z len).all one=true/\(row=false->sz=1))/\cs.all frozen=true) (.fz sz (cut row sz len cs))
  else .sto (0<sz/\0<len/\z.length=sz/\len*sz<=16777216/\(rep z len).all one=true/\(row=false->sz=1)) (.sl sto.length 0 len len) (sto++[.arr sz (cut row sz len cs)])
 | none=>.stuck
def BoH(frz:Bool)(sto:LB)(sz:Nat):Res :=
 bif frz then .side (0<sz) (.fz sz []) else .sto (0<sz) (.sl sto.length 0 0 0) (sto++[.arr sz []])
def AdC(P:Program)(frz:Bool)(sto:LB)(len:Nat)(parts:List (Nat×AV)):Option TypeDesc->Res
 | some (.slice el)=>match len,parts with
  | 0,[]=>BoH frz sto (tsize P el)
  | len,parts=>AdU frz (isRow (P.underlying el)) (tsize P el) sto (zav P el) len parts
 | _=>.stuck
def srcB(off n cap sz:Nat):Blk->Option (LY×Prop)
 | .arr e l=>some ((l.drop off).take n,(e=sz\/l=[])/\off+cap=l.length/\n<=cap)
 | _=>none
def AqH(b:UInt8):AV:=.int .u8 b.toNat
def A9Z(sto:LB)(sz:Nat):AV->Option (LY×Prop)
 | .fz e l=>some (l,e=sz)
 | .sl id off n cap=>srcB off n cap sz (sto.getD id .dead)
 | .raw (.slice none 0 0)=>some ([],True)
 | .str s=>some (s.map AqH,sz=1)
 | _=>none
def AdN(l:LY)(k:Nat)(vs:LY):LY:=l.take k++vs++l.drop (k+vs.length)
def BaA(sto:LB)(id off len cap sz bytes:Nat)(z:LY)(L:LY)(p:Prop):Blk->Res
 | .arr e l=>bif len==cap then .sto (p/\0<sz/\z.length=sz/\z.all one=true/\off=0/\cap=l.length/\(e=sz\/l=[]/\e=0)/\(l.length+L.length)*bytes<=140737488355328/\l.length+L.length<=9223372036854775807) (.sl id 0 (len+L.length) (cap+L.length)) (sto.set id (.arr sz (l++L)))
  else .sto (p/\0<sz/\e=sz/\off+cap=l.length/\len+L.length<=cap) (.sl id off (len+L.length) cap) (sto.set id (.arr sz (AdN l (off+len) L)))
 | _=>.stuck
def BiM(sto:LB)(sz bytes:Nat)(z:LY)(L:LY)(p:Prop):AV->Res
 | .raw (.slice none 0 0)=>.sto (p/\0<sz/\z.length=sz/\z.all one=true/\L.length*bytes<=140737488355328/\L.length<=9223372036854775807) (.sl sto.length 0 L.length L.length) (sto++[.arr sz L])
 | .sl id off len cap=>BaA sto id off len cap sz bytes z L p (sto.getD id .dead)
 | _=>.stuck
def BiN(sto:LB)(sz bytes:Nat)(z:LY)(dst:AV):Option (LY×Prop)->Res
 | some (L,p)=>BiM sto sz bytes z L p dst
 | none=>.stuck
def A0A(row:Bool)(z:LY):AV:=bif row then .agg z else z.getD 0 .any
def isI:Option TypeDesc->Bool
 | some (.int _)=>true
 | _=>false
def BiO(sto:LB)(row:Bool)(sz bytes:Nat)(z:LY):AV->AV->Res
 | .raw (.slice none 0 0),.int .i64 n=>.sto (0<sz/\z.length=sz/\(row=false->sz=1)/\z.all one=true/\0<=n/\n*bytes<=140737488355328/\n<=9223372036854775807) (.sl sto.length 0 n.toNat n.toNat) (sto++[.arr sz (List.replicate n.toNat (A0A row z))])
 | _,_=>.stuck
def AqI:Option TypeDesc->Bool
 | some (.slice _)|some .string=>true
 | _=>false
def xapp(P:Program)(sto:LB)(dst src:AV)(tx:Option TypeDesc):Option TypeDesc->Res
 | some (.slice el)=>bif AqI tx then BiN sto (tsize P el) (AbB P el) (zav P el) dst (A9Z sto (tsize P el) src) else bif isI tx then BiO sto (isRow (P.underlying el)) (tsize P el) (AbB P el) (zav P el) dst src else .stuck
 | _=>.stuck
def A6Q(P:Program)(e:Env)(sto:LB):List Operand->List TypeId->Res
 | [x,y],[t,u]=>xapp P sto (ev e x) (ev e y) (P.underlying u) (P.underlying t)
 | _,_=>.stuck
def cutL{α:Type}(l:List α):Option AV->Option AV->List α
 | some (.int _ a),some (.int _ b)=>(l.take b.toNat).drop a.toNat
 | some (.int _ a),_=>l.drop a.toNat
 | _,some (.int _ b)=>l.take b.toNat
 | _,_=>l
def loOf:Option AV->Option Int
 | none=>some 0
 | some (.int _ a)=>some a
 | _=>none
def hiOf(n:Int):Option AV->Option Int
 | none=>some n
 | some (.int _ b)=>some b
 | _=>none
def BiP(l:LU)(lo hi:Option AV):Option Int->Option Int->Res
 | some a,some b=>.side (0<=a/\a<=b/\b<=l.length) (.str (cutL l lo hi))
 | _,_=>.stuck
def BiQ(sz e:Nat)(l:LY)(lo hi:Option AV):Option Int->Option Int->Res
 | some a,some b=>.side (0<sz/\e=sz/\0<=a/\a<=b/\b<=l.length) (.fz e (cutL l lo hi))
 | _,_=>.stuck
def BiR(sz id off len cap:Nat):Blk->Option Int->Option Int->Res
 | .arr e l,some a,some b=>.side (0<sz/\e=sz/\off+cap=l.length/\len<=cap/\0<=a/\a<=b/\b<=cap) (.sl id (off+a.toNat) (b-a).toNat (cap-a.toNat))
 | _,_,_=>.stuck
def BiS(sz:Nat):Option Int->Option Int->Res
 | some a,some b=>.side (0<sz/\a=0/\b=0) (.raw (.slice none 0 0))
 | _,_=>.stuck
def xcut(P:Program)(sto:LB)(x:AV)(lo hi mx:Option AV)(d:Option TypeDesc):Res:=match mx,d with
 | none,some .string=>match x with
  | .str l=>BiP l lo hi (loOf lo) (hiOf l.length hi)
  | _=>.stuck
 | none,some (.slice el)=>match x with
  | .fz e l=>BiQ (tsize P el) e l lo hi (loOf lo) (hiOf l.length hi)
  | .sl id off len cap=>BiR (tsize P el) id off len cap (sto.getD id .dead) (loOf lo) (hiOf len hi)
  | .raw (.slice none 0 0)=>BiS (tsize P el) (loOf lo) (hiOf 0 hi)
  | _=>.stuck
 | _,_=>.stuck
def evo(e:Env):Option Operand->Option AV
 | some x=>some (ev e x)
 | none=>none
def BiT(P:Program)(sto:LB):Option TypeDesc->AV->AV->Res
 | some (.slice el),.int _ n,.int _ c=>.sto (0<tsize P el/\(zav P el).length=tsize P el/\(isRow (P.underlying el)=false->tsize P el=1)/\(zav P el).all one=true/\0<=n/\n<=c/\c<=9223372036854775807/\(AbB P el:Int)*c<=140737488355328)
   (.sl sto.length 0 n.toNat n.toNat) (sto++[.arr (tsize P el) (List.replicate n.toNat (A0A (isRow (P.underlying el)) (zav P el)))])
 | _,_,_=>.stuck
def xmax(big:Bool):LY->Res
 | [.int k a,.int k' b]=>bif decide (k=k') then .ok (.int k (bif big then(if b>a then b else a) else(if b<a then b else a))) else .stuck
 | _=>.stuck
def BaB(sto:LB)(id off len cap sz:Nat)(L:LY)(p:Prop):Blk->Res
 | .arr e l=>.sto (p/\0<sz/\e=sz/\off+cap=l.length/\len<=cap) (.int .i64 (min L.length len:Nat)) (sto.set id (.arr sz (AdN l off (L.take len))))
 | _=>.stuck
def BaC(sto:LB)(sz:Nat)(dst:AV):Option (LY×Prop)->Res
 | some (L,p)=>match dst with
  | .sl id off len cap=>BaB sto id off len cap sz L p (sto.getD id .dead)
  | _=>.stuck
 | none=>.stuck
def AvE(P:Program)(e:Env)(sto:LB):List Operand->List TypeId->Res
 | [x,y],[t,_]=>match P.underlying t with
  | some (.slice el)=>BaC sto (tsize P el) (ev e x) (A9Z sto (tsize P el) (ev e y))
  | _=>.stuck
 | _,_=>.stuck
def keyEq:TypeDesc->AV->AV->Option Bool
 | .string,.str a,.str b=>some (a==b)
 | .int _,.int k a,.int k' b=>bif decide (k=k') then some (a==b) else none
 | .bool,.bool a,.bool b=>some (a==b)
 | _,_,_=>none
def AvF:TypeDesc->AV->Bool
 | .string,.str _=>true
 | .int k,.int k' _=>decide (k'=k)
 | .bool,.bool _=>true
 | _,_=>false
def mfind(d:TypeDesc)(k:AV):List (AV×AV)->Nat->Option (Option (Nat×AV))
 | [],_=>some none
 | x::r,i=>match keyEq d k x.1 with
  | some true=>some (some (i,x.2))
  | some false=>mfind d k r (i+1)
  | none=>none
def BaD(sto:LB):Res:=.sto True (.mp sto.length) (sto++[.mp []])
def BoI(sto:LB)(id:Nat)(es:List (AV×AV))(k v:AV):Option (Option (Nat×AV))->Res
 | some (some (i,_))=>.sto True (.raw undef) (sto.set id (.mp (es.set i (k,v))))
 | some none=>.sto True (.raw undef) (sto.set id (.mp (es++[(k,v)])))
 | none=>.stuck
def BaE(d:TypeDesc)(sto:LB)(id:Nat)(k v:AV):Blk->Res
 | .mp es=>bif AvF d k then BoI sto id es k v (mfind d k es 0) else .stuck
 | _=>.stuck
def BiU(P:Program)(sto:LB)(m k v:AV):Option TypeDesc->Res
 | some (.map kt _)=>match P.underlying kt,m with
  | some d,.mp id=>BaE d sto id k v (sto.getD id .dead)
  | _,_=>.stuck
 | _=>.stuck
def zval(P:Program)(t:TypeId):AV:=match(P.info? t).bind (·.zero)with
 | some (.agg cs)=>.agg (cs.toList.map AdT)
 | some v=>AdT v
 | none=>.any
def zok(P:Program)(t:TypeId):Bool:=((P.info? t).bind (·.zero)).isSome
def BaF(ok:Bool)(z:AV)(p:Prop):Option (Option (Nat×AV))->Res
 | some (some (_,v))=>.ok (bif ok then .tup [v,.bool true] else v)
 | some none=>.side p (bif ok then .tup [z,.bool false] else z)
 | none=>.stuck
def A3K(d:TypeDesc)(k:AV)(ok:Bool)(z:AV)(p:Prop):Blk->Res
 | .mp es=>bif AvF d k then BaF ok z p (mfind d k es 0) else .stuck
 | _=>.stuck
def AvG(P:Program)(sto:LB)(m k:AV)(ok:Bool):Option TypeDesc->Res
 | some (.map kt vt)=>match P.underlying kt,m with
  | some d,.mp id=>A3K d k ok (zval P vt) (zok P vt=true) (sto.getD id .dead)
  | _,_=>.stuck
 | _=>.stuck
def xnil(sto:LB)(x:AV):Res:=match x with
 | .ptr id n j off=>match sto.getD id .dead with
  | .arr _ l=>.side (n=l.length) (.ptr id n j off)
  | _=>.stuck
 | .pin e l j off=>.ok (.pin e l j off)
 | _=>.stuck
def xop(wr frz:Bool)(P:Program)(e:Env)(sto:LB)(op:Op):Res :=
 match op with
 | .move x|.assign x=>.ok (ev e x)
 | .pick c a b=>A9U (ev e c) (ev e a) (ev e b)
 | .binOp op t x y _=>ApS (wr&&!frz) sto (P.underlying t) op (ev e x) (ev e y)
 | .unOp .not _ x=>xnot (ev e x)
 | .unOp .neg _ x=>xneg (ev e x)
 | .extract x i=>AiK (ev e x) i
 | .index t x i=>AvC (P.underlying t) (P.underlying (elemD (P.underlying t))) (tsize P (elemD (P.underlying t))) (ev e x) (ev e i)
 | .field t x f=>AmM P (ev e x) (AmL (P.underlying t) f)
 | .box t x=>BpX (wr&&frz) (isRow (P.underlying t)) sto (ev e x)
 | .alloc t=>AiL sto (isRow (P.underlying t)) (zav P t)
 | .fieldAddr t x f=>AcT P (AmL (P.underlying t) f) sto (ev e x)
 | .indexAddr t x i=>AbX (P.underlying t) (tsize P (elemD (P.underlying t))) sto (ev e x) (ev e i)
 | .load t x=>xload (P.underlying t) (tsize P t) sto (ev e x)
 | .store t x v=>AqG (tsize P t) sto (ev e x) (ev e v)
 | .convert a b x=>BiL (wr&&!frz) (P.underlying a) (P.underlying b) (P.underlying (elemD (P.underlying a))) (P.underlying (elemD (P.underlying b))) sto (ev e x)
 | .build t parts=>AvD P (P.underlying t) (zav P t) (evp e parts.toList)
 | .buildSlice t len parts=>AdC P frz sto len (evp e parts.toList) (P.underlying t)
 | .slice t x lo hi mx=>xcut P sto (ev e x) (evo e lo) (evo e hi) (evo e mx) (P.underlying t)
 | .makeSlice t n c=>BiT P sto (P.underlying t) (ev e n) (ev e c)
 | .nilCheck x=>xnil sto (ev e x)
 | .makeMap _ none=>BaD sto
 | .mapUpdate t m k v=>BiU P sto (ev e m) (ev e k) (ev e v) (P.underlying t)
 | .lookup t m k ok=>AvG P sto (ev e m) (ev e k) ok (P.underlying t)
 | .makeFunc f first cap=>match first.toList with|[]=>.ok (.fn f (evs e cap.toList))|_=>.stuck
 | .call c=>match c.callee with
  | .builtin .len=>AzZ P e sto c.args.toList c.argTypes.toList
  | .builtin .cap=>A9X P e c.args.toList c.argTypes.toList
  | .builtin .append=>A6Q P e sto c.args.toList c.argTypes.toList
  | .builtin .copy=>AvE P e sto c.args.toList c.argTypes.toList
  | .builtin .max=>xmax true (evs e c.args.toList)
  | .builtin .min=>xmax false (evs e c.args.toList)
  | .value f=>A9Y (ev e f) (evs e c.args.toList)
  | _=>.stuck
 | _=>.stuck
theorem BpZ{a:UInt8}{l:LU}:((a::l)==[])=false:=rfl
theorem BqA{a:UInt8}{l:LU}:(([]:LU)==(a::l))=false:=rfl
theorem BqB{a:UInt8}{l:LU}:((a::l) != [])=true:=rfl
theorem BqC{a:UInt8}{l:LU}:(([]:LU) != (a::l))=true:=rfl
theorem BqD:(Value.slice none 0 0).oneCell'=true:=rfl
end Go.Av
namespace Go.Av
open RowKit
variable [Tr]
section
variable {h:Mem}{ρ:Own}{sto:LB}{w:World}{P:Program}
def EnvOk(h:Mem)(ρ:Own)(sto:LB)(e:Env)(a:Act):Prop:=∀ t,RV h (Lf ρ sto) false (a.tmps.getD t undef) (get e t)
theorem AaW{fl u k n}(r:RV h (Lf ρ sto) fl u (.int k n)):u=.int k n:=by cases r with|leaf l=>exact l.2.elim|int=>rfl
theorem AbY{fl u b}(r:RV h (Lf ρ sto) fl u (.bool b)):u=.bool b:=by cases r with|leaf l=>exact l.2.elim|bool=>rfl
theorem AbO{fl u s}(r:RV h (Lf ρ sto) fl u (.str s)):u=.string ⟨s.toArray⟩:=by cases r with|leaf l=>exact l.2.elim|str=>rfl
theorem inv_raw{fl u v}(r:RV h (Lf ρ sto) fl u (.raw v)):u=v:=by cases r with|leaf l=>exact l.2.elim|raw=>rfl
theorem inv_agg{fl u l}(r:RV h (Lf ρ sto) fl u (.agg l)):∃ vs:List Value,u=.agg vs.toArray/\RL h (Lf ρ sto) fl vs l:=by
 cases r with|leaf l=>exact l.2.elim|agg vs l r=>grind
theorem AsB{fl u l}(r:RV h (Lf ρ sto) fl u (.tup l)):∃ vs:List Value,u=.tuple vs.toArray/\RL h (Lf ρ sto) fl vs l:=by
 cases r with|leaf l=>exact l.2.elim|tup vs l r=>grind
theorem AvH{fl u f l}(r:RV h (Lf ρ sto) fl u (.fn f l)):∃ vs:List Value,u=.func f #[] vs.toArray/\RL h (Lf ρ sto) fl vs l:=by
 cases r with|leaf l=>exact l.2.elim|fn f vs l r=>grind
theorem AhK{fl u e l}(r:RV h (Lf ρ sto) fl u (.fz e l)):(l=[]/\u=.slice none 0 0) \/
  ∃ b o c vs,u=.slice (some ⟨b,o,none⟩) l.length c/\RL h (Lf ρ sto) true vs (flat l)/\(∀ x∈l,(cellsOf x).length=e)/\(∀ (k:Nat) v,vs[k]? = some v->h b (o+k)=some v)/\l.length<=c:=by
 cases r with
 | leaf l=>exact l.2.elim
 | fznil=>grind
 | fz b o c e l vs h1 h2 h3 h4=>grind
theorem AmO{fl u e l i off}(r:RV h (Lf ρ sto) fl u (.pin e l i off)) :
  ∃ b o vs,u=.pointer (some ⟨b,o+(i*e+off),none⟩)/\RL h (Lf ρ sto) true vs (flat l)/\(∀ x∈l,(cellsOf x).length=e)/\(∀ (k:Nat) v,vs[k]? = some v->h b (o+k)=some v)/\i<l.length:=by
 cases r with
 | leaf l=>exact l.2.elim
 | pin b o e l vs i off h1 h2 h3 h4=>grind
theorem AbL{fl u id off len cap}(r:RV h (Lf ρ sto) fl u (.sl id off len cap)):Lf ρ sto u (.sl id off len cap):=by cases r<;>omega
theorem AcU{fl u id n i off}(r:RV h (Lf ρ sto) fl u (.ptr id n i off)):Lf ρ sto u (.ptr id n i off):=by cases r<;>omega
theorem AlA{fl u id}(r:RV h (Lf ρ sto) fl u (.mp id)):Lf ρ sto u (.mp id):=by cases r<;>omega
theorem AjW{fl:Bool}(v:Value):RV h (Lf ρ sto) fl v (AdT v):=by
 cases v with
 | int k n=>exact .int k n
 | bool b=>exact .bool b
 | string s=>exact .str s.data.toList
 | _=>exact .raw _
theorem AaS{e:Env}{a:Act}(he:EnvOk h ρ sto e a)(x:Operand):RV h (Lf ρ sto) false (a.eval x) (ev e x):=by
 cases x with
 | tmp t=>exact he t
 | const v=>exact AjW v
 | global g=>exact .raw _
 | func f=>exact .fn (.func f) [] [] .nil
theorem BoJ{e:Env}{a:Act}(he:EnvOk h ρ sto e a)(xs:List Operand):RL h (Lf ρ sto) false (xs.map a.eval) (evs e xs):=by
 induction xs with
 | nil=>exact .nil
 | cons x xs ih=>exact .cons (AaS he x) ih
theorem AiM{fl u a}(r:RV h (Lf ρ sto) fl u a)(h1:one a=true):u.oneCell'=true:=by
 cases a with
 | int=>rw[AaW r]; rfl
 | bool=>rw[AbY r]; rfl
 | str=>rw[AbO r]; rfl
 | raw v=>rw[inv_raw r]; exact h1
 | agg=>cases h1
 | tup=>cases h1
 | any=>cases h1
 | fn f l=>obtain⟨vs,rfl,_⟩:=AvH r; rfl
 | fz e l=>rcases AhK r with⟨_,rfl⟩|⟨b,o,c,vs,rfl,_⟩ <;> rfl
 | pin=>obtain⟨b,o,vs,rfl,_⟩:=AmO r; rfl
 | sl=>exact(AbL r).1
 | ptr=>exact(AcU r).1
 | mp=>exact(AlA r).1
end
end Go.Av
namespace Go.Av
open RowKit
variable [Tr]
section
variable {h:Mem}{ρ:Own}{sto:LB}{w:World}{P:Program}
def Okv(h:Mem)(ρ:Own)(sto:LB)(w:World)(r:Result Next)(v:AV)(s:LB):Prop :=
 ∃ u w' h' ρ',(r=.ok (.value u) w'\/(r=.ok .skip w'/\u=undef))/\Mine h' ρ' s w'/\Later h ρ sto w h' ρ' s w'/\RV h' (Lf ρ' s) false u v
theorem AaB(m:Mine h ρ sto w){r:Result Next}{u:Value}{v:AV}(hr:r=.ok (.value u) w)(rv:RV h (Lf ρ sto) false u v):Okv h ρ sto w r v sto :=
 ⟨u,w,h,ρ,.inl hr,m,.refl ..,rv⟩
def AaA(P:Program)(f:FuncId):Bool:=match P.funcs[f]? with
 | some fn=>fn.body.isSome && !(fn.name == "runtime.NumGoroutine")
 | none=>false
def Lt(P:Program)(h:Mem)(ρ:Own)(sto:LB)(w:World)(r:Result Next):Res->Prop
 | .ok v=>Okv h ρ sto w r v sto
 | .side p v=>p->Okv h ρ sto w r v sto
 | .sto p v s=>p->Okv h ρ sto w r v s
 | .pick b x y=>Okv h ρ sto w r (if b then x else y) sto
 | .call f args=>∃ vs:List Value,RL h (Lf ρ sto) false vs args/\(AaA P f=true->r=.ok (.enter f vs.toArray) w)
 | .anyb p=>p->∃ b,Okv h ρ sto w r (.bool b) sto
 | .stuck=>True
theorem AiN{α β γ:Type}(r:Result α)(f:α->World->Result β)(g:β->World->Result γ):(r.andThen f).andThen g=r.andThen fun a w=>(f a w).andThen g:=by
 cases r <;> rfl
theorem info_of_underlying{t:TypeId}{d:TypeDesc}(hd:P.underlying t=some d):∃ i,P.info? t=some i:=by
 grind[Program.underlying]
theorem sizeOf_run{t:TypeId}{d:TypeDesc}(hd:P.underlying t=some d)(w:World):(sizeOf t).run P w=.ok (tsize P t) w:=by
 obtain⟨i,hi⟩:=info_of_underlying hd
 simp_all[sizeOf,typeInfo,tsize]
theorem AbJ{t:TypeId}(ht:0<tsize P t)(w:World):(sizeOf t).run P w=.ok (tsize P t) w:=by
 cases hi:P.info? t<;>simp_all[tsize,sizeOf,typeInfo]
theorem AvI{t:TypeId}{d:TypeDesc}(hd:P.underlying t=some d)(w:World):(isAgg t).run P w=.ok (isRow (some d)) w:=by
 unfold isAgg;rw[Sem.run_bind,run_underlying hd w]
 cases d <;> rfl
theorem AvJ(vs:List Value)(a n:Nat):vs.toArray.extract a (a+n)=((vs.drop a).take n).toArray:=by
 grind
theorem part_run{t:TypeId}{vs:List Value}{cs:LY}{off:Nat}{fl:Bool}(hd:has (P.underlying t))(r:RL h (Lf ρ sto) fl vs cs)
  (ok:xpartOk (isRow (P.underlying t)) cs off (tsize P t)) :
  ∃ u,(part t vs.toArray off).run P w=.ok u w/\RV h (Lf ρ sto) fl u (AvB (isRow (P.underlying t)) cs off (tsize P t)):=by
 cases hq:P.underlying t with
 | none=>grind[has]
 | some d =>
  rw[hq]at ok;unfold part;rw[Sem.run_bind,AvI hq w]
  simp
  cases hr:isRow (some d)with
  | true =>
   simp only[if_true,Sem.run_bind,sizeOf_run hq w,Result.andThen_ok,Sem.run_pure,AvJ];exact⟨_,rfl,.agg _ _ ((r.drop off).take _)⟩
  | false =>
   simp only[hr,xpartOk,cond_false]at ok;have hlen:=r.length;refine⟨vs[off],?_,?_⟩
   .simp_all
   .have:=r.getD off undef
    grind[AvB]
theorem AgR{k:IntKind}{n:Int}(hi:inr k n):k.wrap n=n:=by
 cases k with
 | i64=>exact IntWalk.i64_in n hi
 | i32=>exact IntWalk.i32_in n hi
 | u8=>exact IntWalk.u8_in n hi
 | u16=>exact IntWalk.u16_in n hi
 | _=>exact hi
theorem xarith_ok{wr:Bool}{k:IntKind}{n:Int}(m:Mine h ρ sto w){r:Result Next}(hr:r=.ok (.value (.int k (k.wrap n))) w) :
  Lt P h ρ sto w r (AvA wr k n):=by
 cases wr with
 | true=>exact AaB m hr (.int _ _)
 | false =>
  intro hi;have:=AgR hi;exact AaB m hr (by rw[this]; exact .int _ _)
theorem bytesLess_eq:∀ a b,Op.bytesLess a b=bytesLess a b
 | _,[]=>by grind[Op.bytesLess,bytesLess]
 | [],_::_=>by grind[Op.bytesLess,bytesLess]
 | a::x,b::y=>by simp[Op.bytesLess,bytesLess,bytesLess_eq x y]
theorem BaG(op:BinOp)(t:TypeId)(x y:Operand)(k k':IntKind)(a b:Int):(eqGuard op t x y (.int k a) (.int k' b)).run P w=.ok () w:=by
 simp_all[eqGuard]
theorem BqE{wr:Bool}{op:BinOp}{t:TypeId}{k:IntKind}{a b:Int}(m:Mine h ρ sto w){r:Result Next}
  (hr:r=((Go.binOp op t (.int k a) (.int k b)).run P w).andThen fun v w'=>.ok (.value v) w'):Lt P h ρ sto w r (xint wr op k a b):=by
 cases op <;> simp only[xint] <;> try trivial
 case add=>simp_all[xarith_ok,Go.binOp,Op.intArith]
 case sub=>simp_all[xarith_ok,Go.binOp,Op.intArith]
 case mul=>simp_all[xarith_ok,Go.binOp,Op.intArith]
 case quo =>
  cases wr with
  | true =>
   intro⟨hb,hi⟩;have:=AgR hi;exact AaB m (by simp_all[Go.binOp,Op.intDiv]) (.int _ _)
  | false =>
   intro⟨ha,hb,hi⟩;have h0:b≠0:=by omega
   have h1:a.tdiv b=a / b:=Int.tdiv_eq_ediv_of_nonneg ha;have:=AgR hi;exact AaB m (by simp_all[Go.binOp,Op.intDiv]) (.int _ _)
 case rem =>
  cases wr with
  | true =>
   intro hb;exact AaB m (by simp_all[Go.binOp,Op.intDiv]) (.int _ _)
  | false =>
   intro⟨ha,hb⟩;have h0:b≠0:=by omega
   have h1:a.tmod b=a%b:=Int.tmod_eq_emod_of_nonneg ha;exact AaB m (by simp_all[Go.binOp,Op.intDiv]) (.int _ _)
 case shr =>
  rintro⟨rfl,rfl⟩;exact AaB m (by simp_all[Go.binOp,Op.shift,IntKind.bits,Int.fdiv_eq_ediv_of_nonneg]) (.int _ _)
 all_goals exact AaB m (by simp_all[Go.binOp,Op.intCmp]) (.bool _)
theorem BqF{op:BinOp}{t:TypeId}{a b:LU}(m:Mine h ρ sto w){r:Result Next}
  (hr:r=((Go.binOp op t (.string ⟨a.toArray⟩) (.string ⟨b.toArray⟩)).run P w).andThen fun v w'=>.ok (.value v) w'):Lt P h ρ sto w r (xstr op a b):=by
 cases op <;> simp only[xstr] <;> try trivial
 case add =>
  intro hb;have h2:(ByteArray.mk a.toArray).size=a.length:=rfl;have h3:(ByteArray.mk b.toArray).size=b.length:=rfl;have h4:(ByteArray.mk a.toArray)++(ByteArray.mk b.toArray)=ByteArray.mk (a++b).toArray:=by
   apply ByteArray.ext; simp_all
  refine AaB m ?_ (.str _)
  simp_all[Go.binOp,Op.stringOp]
 all_goals exact AaB m (by rw[hr]; simp[Go.binOp,Op.stringOp,bytesLess_eq,bne]) (.bool _)
theorem AvK{t:TypeId}(hd:P.underlying t=some .bool)(d:Nat)(p q:Bool):(Op.equalIn (d+1) t (.bool p) (.bool q)).run P w=.ok (p==q) w:=by
 simp_all[Op.equalIn,run_underlying]
theorem AqJ{t:TypeId}(hd:P.underlying t=some .bool)(p q:Bool):(Op.equal t (.bool p) (.bool q)).run P w=.ok (p==q) w :=
 AvK hd 9999 p q
theorem BqG{wr:Bool}{op:BinOp}{t yt:TypeId}{x y:Operand}{o:Oper}{e:Env}{a:Act}(ho:o.op=.binOp op t x y yt)(m:Mine h ρ sto w)(he:EnvOk h ρ sto e a) :
  Lt P h ρ sto w ((execOp a.eval o).run P w) (xbin wr (P.underlying t) op (ev e x) (ev e y)):=by
 have hx:=AaS he x;have hy:=AaS he y;have hrun:(execOp a.eval o).run P w=((do eqGuard op t x y (a.eval x) (a.eval y); Go.binOp op t (a.eval x) (a.eval y):Sem Value).run P w).andThen fun v w'=>.ok (.value v) w':=by
  simp_all[execOp,AiN]
 rw[hrun];unfold xbin
 split
 .rename_i k p k' q h1 h2
  rw[h1]at hx; rw[h2]at hy;rw[AaW hx,AaW hy]
  split
  .rename_i hk; subst hk
   exact BqE (t:=t) m (by simp[BaG])
  .trivial
 .rename_i p q h1 h2
  rw[h1]at hx; rw[h2]at hy;rw[AbO hx,AbO hy];exact BqF (t:=t) m (by
   simp_all[eqGuard])
 .rename_i p q h1 h2
  rw[h1]at hx; rw[h2]at hy;rw[AbY hx,AbY hy];have hg:(eqGuard op t x y (.bool p) (.bool q)).run P w=.ok () w:=by simp_all[eqGuard]
  unfold BiJ
  split
  .rename_i hd
   exact AaB m (by
    rw[Sem.run_bind,hg]
    show((do pure (Value.bool (<- Op.equal t (.bool p) (.bool q))):Sem Value).run P w).andThen _=_
    simp_all[AqJ]) (.bool _)
  .rename_i hd
   exact AaB m (by
    rw[Sem.run_bind,hg]
    show((do pure (Value.bool (!(<- Op.equal t (.bool p) (.bool q)))):Sem Value).run P w).andThen _=_
    simp_all[AqJ]) (.bool _)
  .trivial
 .trivial
theorem ptr_place(m:Mine h ρ sto w){u:Value}{id n j off:Nat}{e:Nat}{l:LY}(hb:sto.getD id .dead=.arr e l)(r:RV h (Lf ρ sto) false u (.ptr id n j off))(hn:n=l.length) :
  ∃ g tot cur t,ρ id=some (g,tot)/\u=.pointer (some ⟨g,j*e+off,none⟩)/\HRow w g cur t/\cur.size=tot*e/\l.length<=tot/\tot<=maxLen/\0<e/\j<n /\
   sto[id]? = some (.arr e l)/\(∀ x∈l,(cellsOf x).length=e)/\(∀ v∈cur.toList,v.oneCell'=true)/\RL h (Lf ρ sto) false (cur.toList.take (l.length*e)) (flat l):=by
 have hs:sto[id]? = some (.arr e l):=by
  grind
 have hl:=(AcU r).2;simp only[LfC,hs]at hl;obtain⟨_,hl⟩:=hl;obtain⟨hj,g,tot,h1,h2⟩:=hl hn
 rcases m.own id _ hs with⟨_,hno⟩|⟨g',tot',cur,t,h3,h4,h5,h6,h7,h8,h9,h10,h11⟩
 .grind
 .rw [h3]at h1
  simp at h1
  obtain⟨rfl,rfl⟩:=h1;exact⟨g',tot',cur,t,h3,h2,h4,h5,h6,h7,h8,hj,hs,h9,h10,h11⟩
theorem AlV{t:TypeId}{u:Value}{b o:Nat}{cs:LY}{vs:List Value}{off:Nat}{fl:Bool}(hd:has (P.underlying t))(hu:u=.pointer (some ⟨b,o+off,none⟩))
  (r:RL h (Lf ρ sto) fl vs cs) (hc:∀ (k:Nat) v,vs[k]? = some v->w.cell? ⟨b,o+k,none⟩=some v) (ok:xpartOk (isRow (P.underlying t)) cs off (tsize P t)) :
  ∃ v,(Instr.loadAt t u).run P w=.ok v w/\RV h (Lf ρ sto) fl v (AvB (isRow (P.underlying t)) cs off (tsize P t)):=by
 subst hu
 cases hq:P.underlying t with
 | none=>grind[has]
 | some d =>
  rw[hq]at ok
  cases hr:isRow (some d)with
  | true =>
   simp only[hr,xpartOk,cond_true]at ok;have hlen:=r.length;have hsz:(P.info? t).map (·.size)=some ((vs.drop off).take (tsize P t)).length:=by
    grind[info_of_underlying,tsize]
   have hrow:d.isRow=true:=by cases d <;> simp_all [isRow,TypeDesc.isRow]
   refine⟨_,run_loadAt_mid w b (o+off) t ((vs.drop off).take (tsize P t)) d ?_ hq hrow hsz,.agg _ _ ((r.drop off).take _)⟩;intro j v hj
   grind
  | false =>
   simp only[hr,xpartOk,cond_false]at ok;have hlen:=r.length;refine⟨vs[off],?_,?_⟩
   .have hag:(isAgg t).run P w=.ok false w:=by grind[AvI]
    simp_all[Instr.loadAt,Instr.sureAddr,loadVar]
   .have:=r.getD off undef
    grind[AvB]
def LdOk(P:Program)(h:Mem)(ρ:Own)(sto:LB)(w:World)(t:TypeId)(u:Value):Res->Prop
 | .side p z=>p->∃ v,(Instr.loadAt t u).run P w=.ok v w/\RV h (Lf ρ sto) false v z
 | _=>True
theorem BiV{t:TypeId}{u:Value}{y:AV}(m:Mine h ρ sto w)(hx:RV h (Lf ρ sto) false u y):LdOk P h ρ sto w t u (xload (P.underlying t) (tsize P t) sto y):=by
 unfold xload
 split
 .rename_i id n j off
  split
  .rename_i ee l hb
   intro⟨hd,⟨hn,hj⟩,ok⟩;obtain⟨g,tot,cur,tt,h1,h2,h3,h4,h5,h6,h7,h8,h9,h10,h11,h12⟩:=ptr_place m hb hx hn;have hel:l[j]? = some (l.getD j .any):=by grind
   have hcs:RL h (Lf ρ sto) false (((cur.toList.take (l.length*ee)).drop (j*ee)).take ee) (cellsOf (l.getD j .any)):=by
    have:=(h12.drop (j*ee)).take ee;rw[AaV h10 j]at this
    grind[lcg,flat]
   obtain⟨v,hv,rv⟩:=AlV hd h2 hcs (fun k v hk=>by
    rw[h3.cell]
    grind) ok
   grind
  .trivial
 .rename_i ee l j off
  intro⟨hd,hj,ok⟩;obtain⟨b,o,vs,h2,h3,h4,h5,h6⟩:=AmO hx;have hel:l[j]? = some (l.getD j .any):=by grind
  have hec:(cellsOf (l.getD j .any)).length=ee:=h4 _ (lar hel);have hcs:RL h (Lf ρ sto) true ((vs.drop (j*ee)).take ee) (cellsOf (l.getD j .any)):=by
   have:=(h3.drop (j*ee)).take ee;rw[AaV h4 j]at this
   grind[lcg,flat]
  obtain⟨v,hv,rv⟩:=AlV (u:=u) (b:=b) (o:=o+j*ee) hd (by grind) hcs (fun k v hk=>by
   rw[lcd]at hk
   split at hk
   .rw [List.getElem?_drop]at hk
    rw[Nat.add_assoc];exact(m.mem b _ v (h5 _ v hk)).1
   grind) ok
  exact⟨v,hv,rv.thaw (fun _ _ _ x=>x)⟩
 .trivial
theorem BqH{t:TypeId}{x:Operand}{o:Oper}{e:Env}{a:Act}(ho:o.op=.load t x)(m:Mine h ρ sto w)(he:EnvOk h ρ sto e a) :
  Lt P h ρ sto w ((execOp a.eval o).run P w) (xload (P.underlying t) (tsize P t) sto (ev e x)):=by
 have hx:=AaS he x;have hrun:(execOp a.eval o).run P w=((Instr.loadAt t (a.eval x)).run P w).andThen fun v w'=>.ok (.value v) w':=by
  simp_all[execOp]
 generalize a.eval x=u at *;unfold xload
 split
 .rename_i id n j off h1
  rw[h1]at hx
  split
  .rename_i ee l hb
   intro⟨hd,⟨hn,hj⟩,ok⟩;obtain⟨g,tot,cur,tt,h1,h2,h3,h4,h5,h6,h7,h8,h9,h10,h11,h12⟩:=ptr_place m hb hx hn;have hel:l[j]? = some (l.getD j .any):=by grind
   have hcs:RL h (Lf ρ sto) false (((cur.toList.take (l.length*ee)).drop (j*ee)).take ee) (cellsOf (l.getD j .any)):=by
    have:=(h12.drop (j*ee)).take ee;rw[AaV h10 j]at this
    grind[lcg,flat]
   obtain⟨v,hv,rv⟩:=AlV hd h2 hcs (fun k v hk=>by
    rw[h3.cell]
    grind) ok
   simp_all[AaB]
  .trivial
 .rename_i ee l j off h1
  rw[h1]at hx;intro⟨hd,hj,ok⟩;obtain⟨b,o,vs,h2,h3,h4,h5,h6⟩:=AmO hx;have hel:l[j]? = some (l.getD j .any):=by grind
  have hec:(cellsOf (l.getD j .any)).length=ee:=h4 _ (lar hel);have hcs:RL h (Lf ρ sto) true ((vs.drop (j*ee)).take ee) (cellsOf (l.getD j .any)):=by
   have:=(h3.drop (j*ee)).take ee;rw[AaV h4 j]at this
   grind[lcg,flat]
  obtain⟨v,hv,rv⟩:=AlV (u:=u) (b:=b) (o:=o+j*ee) hd (by grind) hcs (fun k v hk=>by
   rw[lcd]at hk
   split at hk
   .rw [List.getElem?_drop]at hk
    rw[Nat.add_assoc];exact(m.mem b _ v (h5 _ v hk)).1
   grind) ok
  exact AaB m (by simp_all) (rv.thaw (fun _ _ _ x=>x))
 .trivial
end
