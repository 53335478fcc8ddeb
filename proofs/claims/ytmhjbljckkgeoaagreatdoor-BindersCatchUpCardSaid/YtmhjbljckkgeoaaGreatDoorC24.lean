/- Numbers of scenes compared, where what was drawn never grows less; slices.SortFunc of. -/
import Derived.Test.YtmhjbljckkgeoaaGreatDoorC21
import Derived.Test.YtmhjbljckkgeoaaGreatDoorC23
import Derived.Test.YtmhjbljckkgeoaaGreatDoorC17
set_option maxRecDepth 100000
set_option maxHeartbeats 4000000
set_option linter.all false
namespace Go.Proofs.YtmhjbljckkgeoaaGreatDoor
open Av RowKit Proofs.Tryz
section strict
attribute [local instance] trUp
def AbT:=@AaJ trUp
def AbE:=@AaI trUp
def goBU:=@goB trUp
def AcJ:=@AaL trUp
def BwE:=@BqW trUp
def AiC:=@aret trUp
def BpD:=@AbF trUp
def BsD:=@AcE trUp
def A1C:=@around trUp
def BcW:=@AdY trUp
def A1D:=@AlB trUp
def AtD:=@ainv trUp
theorem BwF{f:FuncId}{args:LY}{r:AV}(vs:List Value)(v:Value)(hb:AaA prog f=true)(ha:∀ h vs',RL h Lf0 true vs' args->vs'=vs)(hr:∀ h,RV h Lf0 true v r)
  (H:∀ w,Calls prog f vs.toArray w fun e w'=>e=.returned v/\Same w w'):Pc prog f args (· = r):=by
 refine⟨hb,fun h w vs' hm hv=>?_⟩;have:=ha h vs' hv;subst this;refine(H w).mono ?_;rintro e w' ⟨rfl,hs⟩;exact⟨v,r,h,rfl,rfl,fun b o v e=>⟨hs.cell (hm b o v e).1,(hm b o v e).2⟩,fun _ _ _ x=>x,fun b o e n=>(n e).elim,hs,hr h⟩
theorem AlK(s p:LU):Pc prog 81 [.str s,.str p] (· = .int .i64 (Lib.compareBytes s p)) :=
 BwF [_,_] (.int .i64 (Lib.compareBytes s p)) hB81 (AcA s p) (fun h=>.int _ _) fun w=>(Any.strings_Compare Tryz.lays106 ⟨s.toArray⟩ ⟨p.toArray⟩ w).mono fun e w' ⟨h1,h2⟩=>⟨h1,h2▸.refl w⟩
theorem A1E(w:World)(e:TypeId)(s:ByteArray):w.drawn<=(Lib.bytesWorld w e s).drawn:=Nat.le_succ w.drawn
theorem AtE(s:LU)(n:Int)(hl:s.length<=18)(h:Lib.atoi s=some n):Pc prog 78 [.str s] (· = .tup [.int .i64 n,.raw .nilIface]) :=
 BwF [_] (.tuple #[.int .i64 n,.nilIface]) hB78 (AnH s) (fun h=>.tup [_,_] [_,_] (.cons (.int _ _) (.cons (.raw _) .nil)))
  fun w=>(Any.strconv_Atoi Tryz.lays172 ⟨s.toArray⟩ n (by grind[ByteArray.size]) h w).mono fun e w' ⟨h1,t,h2⟩=>⟨h1,h2▸(let b:=Lib.bytesWorld_below _ _ _; ⟨b.os,b.tape,⟨b.output,A1E _ _ _⟩,b.size,b.block⟩)⟩
theorem AwU(s:LU)(hs:s.length<1000000)(hd:okD s):Pc prog 85 [.str s] (· = .agg [.int .i64 (pN s),.str (caps s)]):=by
 refine AbT (AbE func85 rfl ntmps85 hB85 (by simp) fun h ρ w=>goBU rfl 300 ?_);simp only[go_sem];refine A1D (ι:=Nat) (κ:=Unit) (fun i=>s.length-i) (fun i=>[(3,.int .i64 i),(2,.ptr 0 1 0 0),(0,.str s)]) (fun _=>[.arr 2 [.agg [.int .i64 0,.str []]]]) (fun i=>i<=s.length/\(s.take i).all digB=true)
  (fun _=>[(3,.int .i64 (digs s).length),(2,.ptr 0 1 0 0),(0,.str s)]) (fun _=>[.arr 2 [.agg [.int .i64 0,.str []]]]) (fun _=>s=digs s++caps s) 0 ⟨by omega,by simp⟩ ?_ ?_ ?_
 .refine Ls ?_
  simp only[go_sem]
 .rintro-hd'
  have hdl:(digs s).length<=s.length:=(congrArg List.length hd').symm▸by simp
  have edr:List.drop (digs s).length s=caps s:=(congrArg (List.drop (digs s).length) hd').trans (by simp);have etk:List.take (digs s).length s=digs s:=(congrArg (List.take (digs s).length) hd').trans (by simp);refine goBU rfl 300 ?_;simp only[go_sem,etk];refine⟨by omega,by omega,?_⟩;refine AcJ (AtE (digs s) (pN s) hd.2 (AdE hd)) rfl rfl rfl ?_;refine goBU rfl 300 ?_;simp only[go_sem,edr];refine⟨by omega,by omega,?_⟩;refine⟨by omega,BpD [.cell 2 124] rfl [.agg [.int .i64 (pN s),.str (caps s)]] ⟨?_,trivial⟩ ⟨rfl,rfl⟩⟩;simp only[go_sem,sideIs]
 .rintro i ⟨g1,g2⟩ J Q hJ hQ
  have out:(i=s.length\/digB (s.getD i 0)=false)->((digs s).length=i/\s=digs s++caps s):=fun e=>by
   obtain⟨e1,e2⟩:=AdD g1 g2 e;exact⟨by rw[digs,e1]; simp; omega,by simp[digs,caps]⟩
  refine goBU rfl 300 ?_
  by_cases hi:(i:Int)<s.length
  .have hil:i<s.length:=by omega
   have hgd:s.getD i 0=s[i]:=by simp[List.getD,hil]
   have hb:digB s[i]=(decide ((s[i].toNat:Int)>=48)&&decide ((s[i].toNat:Int)<=57)):=rfl
   cases c1:decide ((s[i].toNat:Int)>=48)with
   | true =>
    cases c2:decide ((s[i].toNat:Int)<=57)with
    | true =>
     simp only[go_sem,hi,hgd,c1,c2];rw[ic i]
     repeat refine ao ?_
     refine AtD (hJ (i+1) ⟨by omega,AaK hil g2 (by rw[hb,c1,c2]; rfl)⟩ (by omega)) (Ls ?_);simp only[go_sem]
    | false =>
     obtain⟨e1,e2⟩:=out (.inr (by rw[hgd,hb,c1,c2]; rfl));simp only[go_sem,hi,hgd,c1,c2]
     repeat refine ao ?_
     refine AtD (hQ () e2) (Ls ?_);rw[e1];simp only[go_sem]
   | false =>
    obtain⟨e1,e2⟩:=out (.inr (by rw[hgd,hb,c1]; rfl));simp only[go_sem,hi,hgd,c1]
    repeat refine ao ?_
    refine AtD (hQ () e2) (Ls ?_);rw[e1];simp only[go_sem]
  .simp only [go_sem,hi]
   obtain⟨e1,e2⟩:=out (.inl (by omega));refine AtD (hQ () e2) (Ls ?_);rw[e1];simp only[go_sem]
theorem AwV(n:Int):Pc prog 131 [.int .i64 n] (· = .bool false):=by
 refine AbT (AbE func131 rfl ntmps131 hB131 (by simp) fun h ρ w=>goBU rfl 300 ?_);simp only[go_sem];exact AiC [2] rfl ⟨rfl,rfl⟩
theorem AlL(a b:Int):Pc prog 80 [.int .i64 a,.int .i64 b] (· = .int .i64 (cmpI a b)):=by
 refine AbT (AbE func80 rfl ntmps80 hB80 (by simp) fun h ρ w=>goBU rfl 300 ?_);simp only[go_sem];refine AcJ (AwV a) rfl rfl rfl ?_;refine goBU rfl 300 ?_;simp only[go_sem];refine AcJ (AwV b) rfl rfl rfl ?_;refine goBU rfl 300 ?_
 by_cases h1:a<b
 .have d1:decide (a<b)=true:=by simpa using h1
  simp only[go_sem,d1];exact AiC [4] rfl ⟨by simp[resV,Av.get,Av.put,cmpI,h1],rfl⟩
 .have d1:decide (a<b)=false:=by simpa using h1
  by_cases h2:a>b
  .have d2:decide (a>b)=true:=by simpa using h2
   simp only[go_sem,d1,d2];exact AiC [4] rfl ⟨by simp[resV,Av.get,Av.put,cmpI,h1,h2],rfl⟩
  .have d2:decide (a>b)=false:=by simpa using h2
   simp only[go_sem,d1,d2];exact AiC [4] rfl ⟨by simp[resV,Av.get,Av.put,cmpI,h1,h2],rfl⟩
theorem BpE(a b:Int):Pc prog 79 [.fz 1 [.int .i64 a,.int .i64 b]] (· = .int .i64 (orI a b)):=by
 refine AbT (AbE func79 rfl ntmps79 hB79 (by simp) fun h ρ w=>goBU rfl 300 ?_);simp only[go_sem];refine BsD (A1C ?_)
 by_cases h1:a=0
 .have d1:(a != 0)=false:=by simpa using h1
  refine goBU rfl 300 ?_;simp only[go_sem,d1];refine BcW (A1C ?_)
  by_cases h2:b=0
  .have d2:(b != 0)=false:=by simpa using h2
   refine goBU rfl 300 ?_;simp only[go_sem,d2];refine BcW (A1C ?_);refine goBU rfl 300 ?_;simp only[go_sem];exact AiC [2] rfl ⟨by simp[resV,Av.get,Av.put,orI,h1,h2],rfl⟩
  .have d2:(b != 0)=true:=by simpa using h2
   refine goBU rfl 300 ?_;simp only[go_sem,d2];exact AiC [2] rfl ⟨by simp[resV,Av.get,Av.put,orI,h1],rfl⟩
 .have d1:(a != 0)=true:=by simpa using h1
  refine goBU rfl 300 ?_;simp only[go_sem,d1];exact AiC [2] rfl ⟨by simp[resV,Av.get,Av.put,orI,h1],rfl⟩
theorem AwW(a b:LU)(ha:a.length<1000000)(hb:b.length<1000000)(da:okD a)(db:okD b):Pc prog 40 [.str a,.str b] (· = .int .i64 (compareN a b)):=by
 refine AbT (AbE func40 rfl ntmps40 hB40 (by simp) fun h ρ w=>goBU rfl 300 ?_);simp only[go_sem];refine AcJ (AwU a ha da) rfl rfl rfl ?_;refine goBU rfl 300 ?_;simp only[go_sem];refine AcJ (AwU b hb db) rfl rfl rfl ?_;refine goBU rfl 300 ?_;simp only[go_sem];refine BwE [.int .i64 (cmpI (pN a) (pN b)),.int .i64 (Lib.compareBytes (caps a) (caps b)),.int .i64 (compareN a b)] AaF ?d1 rfl ?d2 100 ?d3
 case d1=>decide
 case d2=>rfl
 simp only[go_sem];have ho:=BpE (cmpI (pN a) (pN b)) (Lib.compareBytes (caps a) (caps b));refine⟨(AlL _ _).at,rfl,rfl,(AlK _ _).at,rfl,rfl,ho.at,rfl,?_⟩;refine goBU rfl 300 ?_;simp only[go_sem];exact AiC [4] rfl ⟨by simp[resV,Av.get],rfl⟩
abbrev Nu:={ s:LU // numberL s=true }
theorem AtF(h:Mem)(ρ:Go.Av.Own)(s:LB)(x y:Nu)(v u:Value)(r1:RL h (Lf ρ s) false [v] [.str x.1])(r2:RL h (Lf ρ s) false [u] [.str y.1])(o1:v.oneCell'=true)(o2:u.oneCell'=true)(W:World) :
  Calls prog 40 #[v,u] W fun e w'=>e=.returned (.int .i64 (compareN x.1 y.1)) /\ @Same trUp W w':=by
 have nx:=AaM x.2;have ny:=AaM y.2;have lx:=number_okA x.2;have ly:=number_okA y.2;have e1:v=.string ⟨x.1.toArray⟩:=by cases r1<;>grind[AbO]
 have e2:u=.string ⟨y.1.toArray⟩:=by cases r2<;>grind[AbO]
 subst e1 e2;have hp:=AwW x.1 y.1 (by omega) (by omega) nx.1 ny.1;have hq:=@Pc.calls trUp _ _ _ _ hp W [.string ⟨x.1.toArray⟩,.string ⟨y.1.toArray⟩] fun h=>.cons (.str _) (.cons (.str _) .nil)
 refine Calls.mono hq ?_;rintro e w' ⟨⟨v,h',rfl,rv⟩,hs⟩
 cases rv<;>grind
end strict
theorem BlA:Go.Sort.SWO (Go.Proofs.ltOf fun x y:Nu=>compareN x.1 y.1):=by
 have e:∀ x y:Nu,Go.Proofs.ltOf (fun x y:Nu=>compareN x.1 y.1) x y=true ↔ nLt x.1 y.1:=fun x y=>by
  grind[Go.Proofs.ltOf,compareN_lt]
 have e':∀ x y:Nu,Go.Proofs.ltOf (fun x y:Nu=>compareN x.1 y.1) x y=false ↔ ¬ nLt x.1 y.1:=fun x y=>by
  grind
 refine⟨fun x=>(e' x x).2 (nLt_irrefl _),fun x y z h1 h2=>(e x z).2 (nLt_trans ((e x y).1 h1) ((e y z).1 h2)),fun x y z h1 h2=>(e' x z).2 fun h=>?_⟩<;>grind[nLt_trans,number_eq,AkI]
theorem BcX{s:LB}{bid:Nat}{l:List Nu}(hs:s[bid]? = some (.arr 1 (l.map fun x=>.str x.1)))(hl:l.length<1000000) :
  Ct prog 122 [.sl bid 0 l.length l.length,.fn (.func 40) []] s (fun r s'=>r=.tup []/\∃ l':List Nu,s'=s.set bid (.arr 1 (l'.map fun x=>.str x.1))/\l'.Perm l/\l'.Pairwise (fun x y=>¬ nLt y.1 x.1)):=by
 have h:=BkZ Tryz.sortStr hB122 (fun x:Nu=>AV.str x.1) (fun _=>rfl) (fun x y:Nu=>compareN x.1 y.1) BlA hB40 AtF hs (by omega);refine⟨h.1,fun hh ρ w vs m r=>(h.2 hh ρ w vs m r).mono ?_⟩<;>simp_all[compareN_lt]
end Go.Proofs.YtmhjbljckkgeoaaGreatDoor
namespace Go.Av
open RowKit
variable [Tr]
section
variable {h:Mem}{L:Value->AV->Prop}{fl:Bool}
end
section
variable {P:Program}{g:Std}{f:FuncId}{args args':LY}{post:AV->Prop}
theorem RL.last2{h:Mem}{ρ:Own}{s0:LB}{fl:Bool}{X Y:AV}(hX:one X=true)(hY:one Y=true):∀ {cs:LY}{vs:List Value},RL h (Lf ρ s0) fl vs (cs++[X,Y])->∃ v w:Value,v.oneCell'=true/\w.oneCell'=true/\RL h (Lf ρ s0) fl vs (cs++[.raw v,.raw w])
 | [],_,r=>by
  cases r with
  | cons r1 r2 =>
   cases r2 with
   | cons r2 r3=>cases r3; exact⟨_,_,AiM r1 hX,AiM r2 hY,.cons (.raw _) (.cons (.raw _) .nil)⟩
 | c::cs,_,r=>by
  cases r with
  | cons r1 r2 =>
   obtain⟨v,w,h1,h2,h3⟩:=RL.last2 hX hY r2;exact⟨v,w,h1,h2,.cons r1 h3⟩
theorem CtH.last2{cs rest:LY}{X Y:AV}{s:LB}{post:AV->LB->Prop}(hX:one X=true)(hY:one Y=true)
  (H:∀ v w:Value,v.oneCell'=true->w.oneCell'=true->CtH P g f (.agg (cs++[.raw v,.raw w])::rest) s post):CtH P g f (.agg (cs++[X,Y])::rest) s post:=by
 refine⟨(H (.slice none 0 0) (.slice none 0 0) rfl rfl).1,fun h ρ w vs hs hm hv=>?_⟩
 cases hv with
 | cons r1 r2 =>
  obtain⟨us,rfl,q1⟩:=inv_agg r1;obtain⟨a,b,h1,h2,h3⟩:=RL.last2 hX hY q1;exact(H a b h1 h2).2 h ρ w _ hs hm (.cons (.agg _ _ h3) r2)
theorem RL.last2z{h:Mem}{X Y:AV}(hX:one X=true)(hY:one Y=true):∀ {cs:LY}{vs:List Value},RL h Lf0 true vs (cs++[X,Y])->∃ v w:Value,v.oneCell'=true/\w.oneCell'=true/\RL h Lf0 true vs (cs++[.raw v,.raw w])
 | [],_,r=>by
  cases r with
  | cons r1 r2 =>
   cases r2 with
   | cons r2 r3 =>
    cases r3
    have q1:=AiM (ρ:=fun _=>none) (sto:=[]) (r1.thaw (fun _ _ _ x=>x) (fl:=false)) hX;have q2:=AiM (ρ:=fun _=>none) (sto:=[]) (r2.thaw (fun _ _ _ x=>x) (fl:=false)) hY;exact⟨_,_,q1,q2,.cons (.raw _) (.cons (.raw _) .nil)⟩
 | c::cs,_,r=>by
  cases r with
  | cons r1 r2 =>
   obtain⟨v,w,h1,h2,h3⟩:=RL.last2z hX hY r2;exact⟨v,w,h1,h2,.cons r1 h3⟩
theorem PcH.last2{cs rest:LY}{X Y:AV}(hX:one X=true)(hY:one Y=true)
  (H:∀ v w:Value,v.oneCell'=true->w.oneCell'=true->PcH P g f (.agg (cs++[.raw v,.raw w])::rest) post):PcH P g f (.agg (cs++[X,Y])::rest) post:=by
 refine⟨(H (.slice none 0 0) (.slice none 0 0) rfl rfl).1,fun h w vs hs hm hv=>?_⟩
 cases hv with
 | cons r1 r2 =>
  cases r1 with
  | agg us _ q1 =>
   obtain⟨a,b,h1,h2,h3⟩:=RL.last2z hX hY q1;exact(H a b h1 h2).2 h w _ hs hm (.cons (.agg _ _ h3) r2)
theorem RL.last1{h:Mem}{ρ:Own}{s0:LB}{fl:Bool}{Y:AV}(hY:one Y=true):∀ {cs:LY}{vs:List Value},RL h (Lf ρ s0) fl vs (cs++[Y])->∃ w:Value,w.oneCell'=true/\RL h (Lf ρ s0) fl vs (cs++[.raw w])
 | [],_,r=>by
  cases r with
  | cons r1 r2=>cases r2; exact⟨_,AiM r1 hY,.cons (.raw _) .nil⟩
 | c::cs,_,r=>by
  cases r with
  | cons r1 r2 =>
   obtain⟨w,h2,h3⟩:=RL.last1 hY r2;exact⟨w,h2,.cons r1 h3⟩
theorem RL.last1z{h:Mem}{Y:AV}(hY:one Y=true):∀ {cs:LY}{vs:List Value},RL h Lf0 true vs (cs++[Y])->∃ w:Value,w.oneCell'=true/\RL h Lf0 true vs (cs++[.raw w])
 | [],_,r=>by
  cases r with
  | cons r1 r2 =>
   cases r2
   exact⟨_,AiM (ρ:=fun _=>none) (sto:=[]) (r1.thaw (fun _ _ _ x=>x) (fl:=false)) hY,.cons (.raw _) .nil⟩
 | c::cs,_,r=>by
  cases r with
  | cons r1 r2 =>
   obtain⟨w,h2,h3⟩:=RL.last1z hY r2;exact⟨w,h2,.cons r1 h3⟩
theorem Ct.last1{cs rest:LY}{Y:AV}{s:LB}{post:AV->LB->Prop}(hY:one Y=true)
  (H:∀ w:Value,w.oneCell'=true->Ct P f (.agg (cs++[.raw w])::rest) s post):Ct P f (.agg (cs++[Y])::rest) s post:=by
 refine⟨(H (.slice none 0 0) rfl).1,fun h ρ w vs hm hv=>?_⟩
 cases hv with
 | cons r1 r2 =>
  obtain⟨us,rfl,q1⟩:=inv_agg r1;obtain⟨b,h2,h3⟩:=RL.last1 hY q1;exact(H b h2).2 h ρ w _ hm (.cons (.agg _ _ h3) r2)
theorem Pc.last1{cs rest:LY}{Y:AV}{post:AV->Prop}(hY:one Y=true)
  (H:∀ w:Value,w.oneCell'=true->Pc P f (.agg (cs++[.raw w])::rest) post):Pc P f (.agg (cs++[Y])::rest) post:=by
 refine⟨(H (.slice none 0 0) rfl).1,fun h w vs hm hv=>?_⟩
 cases hv with
 | cons r1 r2 =>
  cases r1 with
  | agg us _ q1 =>
   obtain⟨b,h2,h3⟩:=RL.last1z hY q1;exact(H b h2).2 h w _ hm (.cons (.agg _ _ h3) r2)
end
end Go.Av
namespace Go.Proofs.YtmhjbljckkgeoaaGreatDoor
open Av RowKit Proofs.Tryz
structure Le' where
 name:LU
 Lj:Int
 first:LU
 Lb:List LU
def leA(f:Le'):AV:=.agg [.str f.name,.int .i64 f.Lj,.str f.first,.fz 1 (f.Lb.map .str)]
structure Dr where
 no:Int
 Lk:LU
 Lc:List Sc
 Lp:List LU
 La:List Le'
def drA(d:Dr):AV:=.agg [.int .i64 d.no,.str d.Lk,.fz 5 (d.Lc.map scA),.fz 1 (d.Lp.map .str),.fz 4 (d.La.map leA)]
def nosL(xs:List Sc):List LU:=xs.map (·.no)
structure EntOf(d:Dr)(E:List LU):Prop where
 perm:E.Perm (d.Lp++nosL d.Lc)
 sorted:E.Pairwise nLt
 num:∀ x∈E,numberL x=true
theorem sorted_eq{α:Type}{lt:α->α->Prop}(irr:∀ a,¬ lt a a)(tr:∀ a b c,lt a b->lt b c->lt a c):∀ {l m:List α},l.Pairwise lt->m.Pairwise lt->(∀ x,x∈l ↔ x∈m)->l=m
 | [],[],_,_,_=>rfl
 | [],b::m,_,_,h=>absurd ((h b).2 (by simp)) (by simp)
 | a::l,[],_,_,h=>absurd ((h a).1 (by simp)) (by simp)
 | a::l,b::m,h1,h2,h=>by
  obtain⟨a1,a2⟩:=List.pairwise_cons.1 h1;obtain⟨b1,b2⟩:=List.pairwise_cons.1 h2;have e:a=b:=by
   rcases List.mem_cons.1 ((h a).1 (by simp))with e|e
   .exact e
   .rcases List.mem_cons.1 ((h b).2 (by simp))with e'|e'
    .exact e'.symm
    .exact absurd (tr _ _ _ (a1 _ e') (b1 _ e)) (irr _)
  subst e;rw[sorted_eq irr tr a2 b2 fun x=>?_]
  constructor
  .intro hx
   rcases List.mem_cons.1 ((h x).1 (by simp[hx]))with e|e
   .subst e; exact absurd (a1 _ hx) (irr _)
   .exact e
  .intro hx
   rcases List.mem_cons.1 ((h x).2 (by simp[hx]))with e|e
   .subst e; exact absurd (b1 _ hx) (irr _)
   .exact e
theorem A4W:∀ (l:List LU),(∀ x∈l,numberL x=true)->∃ L:List Nu,L.map (·.1)=l
 | [],_=>⟨[],rfl⟩
 | a::l,h=>by
  obtain⟨L,e⟩:=A4W l fun x hx=>h x (by grind)
  exact⟨⟨a,h a (by simp)⟩::L,by grind⟩
theorem AnQ{l':List Nu}{E:List LU}(hE:E.Pairwise nLt)(hp:(l'.map (·.1)).Perm E)(hs:l'.Pairwise (fun x y=>¬ nLt y.1 x.1)):l'.map (·.1)=E:=by
 have hd:E.Nodup:=hE.imp fun h e=>by grind[nLt_irrefl]
 have hd2:l'.Pairwise (fun x y=>x.1≠y.1):=by
  grind
 have h2:(l'.map (·.1)).Pairwise nLt:=by
  rw[List.pairwise_map];refine(hs.and hd2).imp fun{x y} h=>?_<;>grind[number_eq,AkI]
 grind[sorted_eq,nLt_irrefl,nLt_trans]
theorem getD_endP(s:LB)(b d:Blk):(s++[b]).getD s.length d=b:=by simp
theorem set_endP(s:LB)(b b':Blk):(s++[b]).set s.length b'=s++[b']:=by simp
theorem AnR(sto:LB)(l:LY)(hs:∀ a∈l,∃ t,a=.str t)(hl:l.length<=1000000) :
  Ct prog 56 [.fz 1 l] sto (fun r s=>r=.sl sto.length 0 l.length l.length/\s=sto++[.arr 1 l]):=by
 cases l with
 | nil =>
  refine zcIN func56 rfl fun h ρ w=>?_
  simp only[go_sem];intro b;apply zgN
  cases b with
  | true =>
   simp only[go_sem,getD_endP,set_endP];refine ARet.shift (Lv 2 1 rfl) (aret [2] rfl ⟨rfl,rfl⟩)
  | false =>
   simp only[go_sem,getD_endP,set_endP];exact⟨.inl trivial,aret [2] rfl ⟨rfl,rfl⟩⟩
 | cons x ls =>
  refine zcIN func56 rfl fun h ρ w=>?_
  simp only[go_sem,getD_endP,set_endP];refine⟨by simp,by simp at hl |-; omega,by simp at hl |-; omega,aret [2] rfl ⟨by simp[resV,Av.get],rfl⟩⟩
theorem AtG(l:List LU):∀ a∈l.map AV.str,∃ t,a=.str t:=by grind
theorem AcY(l:List LU):(flat (l.map AV.str)).all Av.frozen=true:=by
 induction l<;>grind[flat,cellsOf,Av.frozen]
theorem AfP(n:Nat)(l:List LU):lowB n (.arr 1 (l.map .str))=true:=AaH (AcY l)
theorem A1F(no:Int)(ti:LU)(xs:List Sc)(go:List LU)(E:List LU)(hE:EntOf ⟨no,ti,xs,go,[]⟩ E)(hg:go.length<=1000)(hl:xs.length<=1000)(v6:Value)(h6:v6.oneCell'=true):Pc prog 67 [.agg [.int .i64 no,.str ti,.fz 5 (xs.map scA),.fz 1 (go.map .str),.raw v6]] (· = .fz 1 (E.map .str)):=by
 refine zpIB func67 rfl fun h ρ w=>?_
 simp only[go_sem,h6];refine za (AnR [] (go.map .str) (AtG go) (by simp; omega)) ?_;rintro _ _ ⟨rfl,rfl⟩;apply zgB;simp only[go_sem,laa];have hlen:∀ i,i<=xs.length->((go++(nosL xs).take i).map AV.str).length=go.length+i:=fun i h=>by simp[nosL]; omega
 refine AaC (ι:=Nat) (fun i=>xs.length-i)
  (fun i=>[(13,.int .i64 i),(12,.int .i64 xs.length),(11,.fz 5 (xs.map scA)),(3,.sl 0 0 (go.length+i) (go.length+i))])
  (fun i=>[.arr 1 ((go++(nosL xs).take i).map .str)]) (fun i=>i<=xs.length) 0 (by simp) ?_ ?_
 .refine Lu ?_ (by simp)
  simp only[go_sem]
 .intro i g1 J hJ
  by_cases gi:i<xs.length
  .have di:decide ((i:Int)<(xs.length:Int))=true:=by simp; omega
   have hg':List.getD (List.map scA xs) i .any=.agg [.str xs[i].no,.int .i64 xs[i].place,.str xs[i].set,.int .i64 xs[i].time,.fz 2 (xs[i].Ld.map paA)]:=by simp[List.getD,gi,scA]
   have hln:=hlen i g1;have hsu:List.map AV.str (go++(nosL xs).take i)++[.str xs[i].no]=List.map AV.str (go++(nosL xs).take (i+1)):=by
    rw[lad (by simpa[nosL]using gi)]
    simp[nosL]
   have hfin:=hJ (i+1) (by omega) (by omega);apply zgB;simp only[go_sem,di,hg',hln,laa,hsu]
   repeat refine aqb ?_
   rw[show(i:Int)+1=((i+1:Nat):Int) by omega,show go.length+i+1=go.length+(i+1) by omega];refine ainv hfin (Shift.low 1 (by simp) (by simp) ?_ ?_)
   .simp only [lbk,lcc,las,lba,lau]
    exact AaH (AcY _)
   .simp only[go_sem]
  .have di:decide ((i:Int)<(xs.length:Int))=false:=by simp; omega
   have hi:i=xs.length:=by omega
   subst hi;have ht:(nosL xs).take xs.length=nosL xs:=lae (by simp[nosL]);have hln:=hlen _ (lab xs.length);rw[ht]at hln |-;have hall:∀ x∈go++nosL xs,numberL x=true:=fun x hx=>hE.num x (hE.perm.mem_iff.2 hx)
   obtain⟨L,hL⟩:=A4W _ hall;have hLl:L.length=go.length+xs.length:=by rw[<- laa (f:=fun x:Nu=>x.1),hL]; simp[nosL]
   have hLm:(go++nosL xs).map AV.str=L.map fun x=>.str x.1:=by rw[<- hL,lbb]; rfl
   rw[hLm,<- hLl];apply zgB;simp only[go_sem,di];refine za (BcX (s:=[.arr 1 (L.map fun x=>.str x.1)]) (bid:=0) (l:=L) rfl (by omega)) ?_;rintro _ _ ⟨rfl,l',rfl,hp,hs⟩;have hfe:l'.map (·.1)=E:=AnQ hE.sorted ((hp.map _).trans (hL▸hE.perm.symm)) hs;have hfm:(l'.map fun x=>AV.str x.1)=E.map .str:=by rw[<- hfe,lbb]; rfl
   have hll:L.length=E.length:=by rw[<- hfe,laa,hp.length_eq]
   simp only[lby,hfm,hll];refine AWp.shift (Shift.frz 0 rfl (AcY _)) ?_;have htk:List.take E.length (List.map AV.str E)=List.map AV.str E:=lae (by simp);simp only[go_sem,frzE,frzC,frz,frz1,frzB,laa,lab,htk];apply zgB;simp only[go_sem];exact zt [2]
theorem A7U(d:Dr)(E:List LU)(hE:EntOf d E)(hg:d.Lp.length<=1000)(hl:d.Lc.length<=1000):Pc prog 67 [drA d] (· = .fz 1 (E.map .str)) :=
 Pc.last1 (cs:=[.int .i64 d.no,.str d.Lk,.fz 5 (d.Lc.map scA),.fz 1 (d.Lp.map .str)]) rfl fun v6 h6=>A1F d.no d.Lk d.Lc d.Lp E ⟨hE.perm,hE.sorted,hE.num⟩ hg hl v6 h6
def consW(c:UInt8):List LU->List LU
 | []=>[[c]]
 | w::ws=>(c::w)::ws
def splitW:LU->List LU
 | []=>[[]]
 | c::r=>if c==32 then[]::splitW r else consW c (splitW r)
theorem AwX:∀ q:LU,(Lib.index q [32]=-1/\splitW q=[q])\/∃ i:Nat,Lib.index q [32]=i/\i<q.length/\splitW q=q.take i::splitW (q.drop (i+1))
 | []=>.inl ⟨rfl,rfl⟩
 | c::r=>by
  by_cases hc:c=32
  .subst hc
   exact .inr ⟨0,by simp[Lib.index],by simp,by simp[splitW]⟩
  .have h1:(c==32)=false:=by simpa using hc
   have h2:((32:UInt8)==c)=false:=by simpa using fun e=>hc e.symm
   rcases AwX r with⟨h3,h4⟩|⟨i,h3,h4,h5⟩
   .refine .inl ⟨?_,by simp[splitW,h1,h4,consW]⟩
    simp[Lib.index,h3]
    exact fun e=>hc e.symm
   .refine .inr ⟨i+1,?_,by simpa using h4,by simp[splitW,h1,h5,consW]⟩
    have:((i:Int)==-1)=false:=by rw[lax]; omega
    simp[Lib.index,h3,this]
    exact fun e=>(hc e.symm).elim
theorem BcY{S:Std}(hS:LibOk S)(s p:LU)(hs:s.length<4294967281):PcH prog S 163 [.str s,.str p] (· = .int .i64 (Lib.index s p)) :=
 AsO [_,_] (.int .i64 (Lib.index s p)) hB163 (AcA s p) (fun h=>.int _ _) fun w H=>(Any.strings_Index { Tryz.lays144 with } ⟨s.toArray⟩ ⟨p.toArray⟩ _ w hs (hS.cell.choose_spec w H)).mono fun e w' ⟨h1,h2⟩=>⟨h1,h2▸.refl w⟩
theorem A1G(sto:LB)(t p:LU):Ct prog 293 [.str t,.str p,.int .i64 0] sto (fun r s=>r=.fn (.func 315) [.ptr (sto.length+1) 1 0 0,.ptr sto.length 1 0 0,.ptr (sto.length+1+1) 1 0 0]/\s=sto++[.arr 1 [.str t]]++[.arr 1 [.str p]]++[.arr 1 [.int .i64 0]]):=by
 refine zcIN func293 rfl fun h ρ w=>?_
 simp only[go_sem];exact zt [6]
theorem AwY(sto:LB)(t p:LU):Ct prog 242 [.str t,.str p] sto (fun r s=>r=.fn (.func 315) [.ptr (sto.length+1) 1 0 0,.ptr sto.length 1 0 0,.ptr (sto.length+1+1) 1 0 0]/\s=sto++[.arr 1 [.str t]]++[.arr 1 [.str p]]++[.arr 1 [.int .i64 0]]):=by
 refine zcIN func242 rfl fun h ρ w=>?_
 simp only[go_sem];refine za (A1G sto t p) ?_;rintro _ _ ⟨rfl,rfl⟩;apply zgN;simp only[go_sem];exact zt [4]
theorem A1H{St:Std}(hS:LibOk St)(text:LU)(hl:text.length<100000000)(S:Nat->LU->LB)(ip is iz:Nat)(h1:∀ j q,(S j q).getD ip .dead=.arr 1 [.str [32]])(h2:∀ j q,(S j q).getD is .dead=.arr 1 [.str q])
  (h3:∀ j q,(S j q).getD iz .dead=.arr 1 [.int .i64 0]) (h4:∀ j q q',(S j q).set is (.arr 1 [.str q'])=S j q') :
  ItC prog St 315 [.ptr ip 1 0 0,.ptr is 1 0 0,.ptr iz 1 0 0] ((splitW text).map .str) S text:=by
 refine BcV func315 rfl ntmps315 hB315 rfl (by simp) fun l c out hP hfn hsto hg hY hfin=>?_
 obtain⟨P,fn,h,ρ,sto,w,post,x,hx⟩:=c;simp only at hP hfn hsto hg hY;subst hP; subst hfn; subst hsto;refine goR ntmps315 300 ?_;simp only[go_sem,h1,h2,h3];refine BcS (ι:=Nat×LU) (fun y=>y.2.length) (fun _=>[(0,.raw (.func (.yield l) #[] #[])),(1,.ptr ip 1 0 0),(2,.ptr is 1 0 0),(3,.ptr iz 1 0 0)]) (fun y=>S y.1 y.2)
  (fun y=>(splitW text).drop y.1=splitW y.2/\y.2.length<=text.length) (0,text) ⟨rfl,lab _⟩ ?_ ?_
 .refine Ls ?_
  simp only[go_sem]
 .rintro ⟨j,q⟩ ⟨g1,g2⟩ J hJ
  simp only at g1 g2 hJ |-;have hidx:=BcY hS q [32] (by omega);have hat:∀ a r,splitW q=a::r->(List.map AV.str (splitW text))[j]? = some (.str a):=fun a r e=>by
   rw[e]at g1;have:(splitW text)[j]? = some a:=by
    have:=congrArg (·[0]?) g1
    simpa using this
   simp[this]
  rcases AwX q with⟨e1,e2⟩|⟨i,e1,e2,e3⟩
  .rw [e1]at hidx
   have hn:(List.map AV.str (splitW text)).length=j+1:=by
    rw[e2]at g1;have:=congrArg List.length g1
    simp at this |-; omega
   refine goR ntmps315 300 ?_;simp only[go_sem,h1,h2,h3];refine A4U hg (hidx) rfl ntmps315 rfl (goR ntmps315 300 ?_);simp only[go_sem,h1,h2,h3];refine BpC (f:=?f) (x:=?x) (ts:=?ts) (s':=S (j+1) q) (l:=l) ?ho ?hf ?_ ?_
   case ho=>rfl
   case hf=>rfl
   .intro a1 a2 a3 a4 b1 b2 b3 b4
    exact hY j q (.str q) (hat q [] e2) a1 a2 a3 a4 b1 b2 b3 b4
   refine goR ntmps315 300 ?_;simp only[go_sem];rw[<- hn];exact AOut.shift (e':=[]) (Ls trivial) (hfin .normal q (.inl rfl))
  .rw [e1]at hidx
   have hlt:decide ((i:Int)<0)=false:=by simp
   refine goR ntmps315 300 ?_;simp only[go_sem,h1,h2,h3];refine A4U hg (hidx) rfl ntmps315 rfl (goR ntmps315 300 ?_);simp only[go_sem,h1,h2,h3,hlt]
   repeat refine al ?_
   refine BpC (f:=?f2) (x:=?x2) (ts:=?ts2) (s':=S (j+1) q) (l:=l) ?ho2 ?hf2 ?_ ?_
   case ho2=>rfl
   case hf2=>rfl
   .intro a1 a2 a3 a4 b1 b2 b3 b4
    exact hY j q (.str (q.take i)) (hat _ _ e3) a1 a2 a3 a4 b1 b2 b3 (by simpa[ev,Av.get,Av.put,cutL]using b4)
   refine goR ntmps315 300 ?_;simp only[go_sem,h1,h2,h3,h4]
   repeat refine al ?_
   refine AwR (hJ (j+1,q.drop (i+1)) ⟨?_,by simp; omega⟩ (by simp; omega)) (Ls ?_)
   .rw [e3]at g1
    rw[<- List.drop_drop,g1];rfl
   .simp only [go_sem]
def letB(n:Int):Bool:=capI n||(decide (n>=97)&&decide (n<=122))
structure Wst where
 letters:Bool
 word:LU
 out:List LU
def BwG(c:UInt8):UInt8:=if capI c.toNat then c+32 else c
def wstep(s:Wst)(c:UInt8):Wst :=
 if letB c.toNat||digI c.toNat then⟨true,s.word++[BwG c],s.out⟩
 else if((c.toNat:Int)==39) then⟨s.letters,s.word++[c],s.out⟩
 else⟨false,[],if s.letters then s.out++[s.word] else s.out⟩
def AwZ(s:LU):List LU:=((s++[32]).foldl wstep ⟨false,[],[]⟩).out
theorem AaD(l:List LU):(flat (l.map AV.str)).all Av.frozen=true:=by
 induction l with
 | nil=>rfl
 | cons y l ih=>simpa[flat,cellsOf,Av.frozen]using ih
theorem A4X(n:Nat)(l:List LU):lowB n (.arr 1 (l.map .str))=true:=AaH (AaD l)
def chop(W:Nat)(w:LU):List LU×LU :=
 if h:W<w.length/\0<W then(w.take W::(chop W (w.drop W)).1,(chop W (w.drop W)).2) else([],w)
termination_by w.length
decreasing_by all_goals(simp; omega)
def wrapS(W:Nat)(s:List LU×LU)(w:LU):List LU×LU :=
 if w==[] then s
 else if s.2 != []&&decide (s.2.length+1+w.length<=W) then(s.1,s.2++(32::w))
 else((if s.2 != [] then s.1++[s.2] else s.1)++(chop W w).1,(chop W w).2)
def wrapF(W:Nat)(t:LU):List LU×LU:=(splitW t).foldl (wrapS W) ([],[])
def wrapL(W:Nat)(t:LU):List LU:=if(wrapF W t).2 != [] then(wrapF W t).1++[(wrapF W t).2] else(wrapF W t).1
def wrapTo(W:Nat)(t:LU)(j:Nat):List LU×LU:=((splitW t).take j).foldl (wrapS W) ([],[])
theorem AdG{W:Nat}{w:LU}(h:W<w.length)(h0:0<W):chop W w=(w.take W::(chop W (w.drop W)).1,(chop W (w.drop W)).2):=by
 grind[chop]
theorem chop_end{W:Nat}{w:LU}(h:¬ W<w.length):chop W w=([],w):=by
 grind[chop]
theorem A4Y(W:Nat):∀ (n:Nat)(w:LU),w.length<=n->(chop W w).1.length+(chop W w).2.length<=w.length
 | 0,w,h=>by grind[chop_end]
 | n+1,w,h=>by
  by_cases hc:W<w.length/\0<W
  .have:=A4Y W n (w.drop W) (by grind)
   grind[AdG]
  grind[chop]
theorem splitW_sum:∀ q:LU,((splitW q).map List.length).sum+(splitW q).length=q.length+1
 | []=>rfl
 | c::r=>by
  have ih:=splitW_sum r;rw[splitW]
  split
  .simp; omega
  .cases h:splitW r with
   | nil=>rw[h]at ih; simp at ih
   | cons w ws=>rw[h]at ih; simp[consW]at ih |-; omega
def sumTo(t:LU)(j:Nat):Nat:=(((splitW t).take j).map List.length).sum+j
theorem AkL{t:LU}{j:Nat}{w:LU}(h:(splitW t)[j]? = some w):sumTo t (j+1)=sumTo t j+w.length+1:=by
 grind[sumTo,lad]
theorem AmE(t:LU)(j:Nat)(hj:j<=(splitW t).length):sumTo t j<=t.length+1:=by
 grind[splitW_sum,lbd,sumTo]
theorem wrapTo_step{W:Nat}{t:LU}{j:Nat}{w:LU}(h:(splitW t)[j]? = some w):wrapTo W t (j+1)=wrapS W (wrapTo W t j) w:=by
 grind[wrapTo,lad]
theorem AxA(W:Nat)(s:List LU×LU)(w:LU):(wrapS W s w).1.length+(wrapS W s w).2.length<=s.1.length+s.2.length+w.length+1:=by
 unfold wrapS
 .split
  .grind
  .have:=A4Y W w.length w (lab _)
   grind
theorem AfC(W:Nat)(t:LU):∀ j,j<=(splitW t).length->(wrapTo W t j).1.length+(wrapTo W t j).2.length<=sumTo t j
 | 0,_=>by grind[wrapTo]
 | j+1,hj=>by
  have ih:=AfC W t j (by omega);have:=AxA W (wrapTo W t j) ((splitW t)[j])
  grind[wrapTo_step,AkL]
def BsE(W:Int)(s:List LU×LU)(q:LU):LB :=
 [.arr 1 [.int .i64 W],.arr 1 [.sl 6 0 s.1.length s.1.length],.arr 1 [.str s.2],.arr 1 [.str q],.arr 1 [.str [32]],.arr 1 [.int .i64 0],.arr 1 (s.1.map .str)]
theorem AmF{St:Std}(hS:LibOk St)(t:LU)(W:Nat)(hl:t.length<100000000)(hW:0<W)(hW2:W<100000):PcH prog St 175 [.str t,.int .i64 (W:Int)] (· = .fz 1 ((wrapL W t).map .str)):=by
 refine AcF (A7T func175 rfl ntmps175 hB175 (by simp) fun h ρ w hg=>?_);refine goR ntmps175 300 ?_;simp only[go_sem];refine BwB (AwY _ t [32]) ntmps175 rfl ?_;rintro _ _ ⟨rfl,rfl⟩;refine goR ntmps175 300 ?_;simp only[go_sem];refine AWpR.shift (Shift.cells 1 1 [.sl 6 0 0 0] rfl rfl (by simp[cellsOf]) ⟨.sl,trivial⟩) ?_;refine BwC (S:=fun j q=>BsE W (wrapTo W t j) q) (q0:=t) (xs:=(splitW t).map .str) (E1:=fun j=>[(7,.str ((splitW t).getD j [])),(3,.ptr 0 1 0 0),(5,.ptr 1 1 0 0),(6,.ptr 2 1 0 0)]) hg rfl rfl
  (A1H hS t (by omega) _ 4 3 5 (fun _ _=>rfl) (fun _ _=>rfl) (fun _ _=>rfl) (fun _ _ _=>rfl)) (by decide) ?_ ?_ ?_
 .intro j q x h1 ρ1 w1 l id J hx hle hJ
  obtain⟨v,hv,rfl⟩:∃ v,(splitW t)[j]? = some v/\x=.str v:=by
   rw[lbw]at hx;obtain⟨v,h1,h2⟩:=Option.map_eq_some_iff.1 hx;exact⟨v,h1,h2.symm⟩
  have hgd:(splitW t).getD j []=v:=by simp[List.getD,hv]
  simp only[hgd]at hJ;refine goR ntmps175 300 ?_;simp only[go_sem];refine AwR hJ (Ls ?_);simp only[go_sem]
 .intro j q x h1 ρ1 w1 l id J hx hle hJ
  obtain⟨v,hv,rfl⟩:∃ v,(splitW t)[j]? = some v/\x=.str v:=by
   rw[lbw]at hx;obtain⟨v,h1,h2⟩:=Option.map_eq_some_iff.1 hx;exact⟨v,h1,h2.symm⟩
  have hgd:(splitW t).getD j []=v:=by simp[List.getD,hv]
  have hjl:=(List.getElem?_eq_some_iff.1 hv).1;have hst:=wrapTo_step (W:=W) hv;have hb:=AfC W t j (by omega);have hb2:=AmE t j (by omega);have hb3:=AmE t (j+1) (by omega);have hb4:=AkL hv;rw[hst]at hJ;rw[hgd];generalize wrapTo W t j=st at *;obtain⟨ls,ln⟩:=st;simp only[BsE]at hJ |-;simp only at hb
  cases hv0:v==[]with
  | true =>
   have hS1:wrapS W (ls,ln) v=(ls,ln):=by simp only[wrapS,hv0,if_true]
   rw[hS1]at hJ;refine goR ntmps175 300 ?_;simp only[go_sem,hv0];exact AwR hJ (Ls trivial)
  | false =>
   cases hln:ln != []with
   | true =>
    by_cases hfit:ln.length+1+v.length<=W
    .have hS1:wrapS W (ls,ln) v=(ls,ln++(32::v)):=by simp[wrapS,hv0,hln,hfit]
     rw[hS1]at hJ;have hd:decide ((ln.length:Int)+1+(v.length:Int)<=(W:Int))=true:=by simp; omega
     refine goR ntmps175 300 ?_;simp only[go_sem,hv0,hln,hd]
     repeat refine al ?_
     exact AwR hJ (Ls trivial)
    .have hd:decide ((ln.length:Int)+1+(v.length:Int)<=(W:Int))=false:=by simp; omega
     have hS1:wrapS W (ls,ln) v=((ls++[ln])++(chop W v).1,(chop W v).2):=by simp[wrapS,hv0,hln,hfit]
     rw[hS1]at hJ;refine goFR ntmps175 300 ?_;simp only[go_sem,hv0,hln,hd]
     repeat refine aqb ?_
     refine BcS (ι:=List LU×LU) (fun y=>y.2.length) (fun y=>[(7,.str y.2),(3,.ptr 0 1 0 0),(5,.ptr 1 1 0 0),(6,.ptr 2 1 0 0)])
      (fun y=>[.arr 1 [.int .i64 W],.arr 1 [.sl 6 0 y.1.length y.1.length],.arr 1 [.str ln],.arr 1 [.str q],.arr 1 [.str [32]],.arr 1 [.int .i64 0],.arr 1 (y.1.map .str)])
      (fun y=>y.1++(chop W y.2).1=(ls++[ln])++(chop W v).1/\(chop W y.2).2=(chop W v).2/\y.1.length+y.2.length<=(ls++[ln]).length+v.length) (ls++[ln],v) ⟨rfl,rfl,lab _⟩ ?_ ?_
     .refine Lu ?_ ?_
      .simp only [go_sem]
      .simp
     .rintro ⟨L,u⟩ ⟨f1,f2,f3⟩ J2 hJ2
      simp only at f1 f2 f3 hJ2 |-;have hLl:(ls++[ln]).length<=ls.length+1:=by simp
      by_cases hu:W<u.length
      .have du:decide ((u.length:Int)>(W:Int))=true:=by simp; omega
       have hch:=AdG hu hW;rw[hch]at f1 f2;refine goR ntmps175 300 ?_;simp only[go_sem,du];refine BpB [] AaF (by decide) ntmps175 (by decide) 100 ?_;simp only[go_sem,laa]
       repeat refine aqb ?_
       refine goR ntmps175 300 ?_;simp only[go_sem]
       repeat refine aqb ?_
       refine AwR (hJ2 (L++[u.take W],u.drop W) ⟨by rw[<- f1]; simp,f2,by simp; omega⟩ (by simp; omega)) (Lu ?_ ?_)
       .simp only[go_sem]
        first|done|simp
       .simp [cutL]
      .have du:decide ((u.length:Int)>(W:Int))=false:=by simp; omega
       have hch:=chop_end hu;rw[hch]at f1 f2;simp only[lbp]at f1 f2;refine goR ntmps175 300 ?_;simp only[go_sem,du];rw[f1,f2];exact AwR hJ (Ls trivial)
   | false =>
    have hS1:wrapS W (ls,ln) v=(ls++(chop W v).1,(chop W v).2):=by simp[wrapS,hv0,hln]
    rw[hS1]at hJ;refine goFR ntmps175 300 ?_;simp only[go_sem,hv0,hln];refine BcS (ι:=List LU×LU) (fun y=>y.2.length) (fun y=>[(7,.str y.2),(3,.ptr 0 1 0 0),(5,.ptr 1 1 0 0),(6,.ptr 2 1 0 0)])
     (fun y=>[.arr 1 [.int .i64 W],.arr 1 [.sl 6 0 y.1.length y.1.length],.arr 1 [.str ln],.arr 1 [.str q],.arr 1 [.str [32]],.arr 1 [.int .i64 0],.arr 1 (y.1.map .str)])
     (fun y=>y.1++(chop W y.2).1=(ls)++(chop W v).1/\(chop W y.2).2=(chop W v).2/\y.1.length+y.2.length<=(ls).length+v.length) (ls,v) ⟨rfl,rfl,lab _⟩ ?_ ?_
    .refine Lu ?_ ?_
     .simp only [go_sem]
     .simp
    .rintro ⟨L,u⟩ ⟨f1,f2,f3⟩ J2 hJ2
     simp only at f1 f2 f3 hJ2 |-;have hLl:(ls).length<=ls.length+1:=by simp
     by_cases hu:W<u.length
     .have du:decide ((u.length:Int)>(W:Int))=true:=by simp; omega
      have hch:=AdG hu hW;rw[hch]at f1 f2;refine goR ntmps175 300 ?_;simp only[go_sem,du];refine BpB [] AaF (by decide) ntmps175 (by decide) 100 ?_;simp only[go_sem,laa]
      repeat refine aqb ?_
      refine goR ntmps175 300 ?_;simp only[go_sem]
      repeat refine aqb ?_
      refine AwR (hJ2 (L++[u.take W],u.drop W) ⟨by rw[<- f1]; simp,f2,by simp; omega⟩ (by simp; omega)) (Lu ?_ ?_)
      .simp only[go_sem]
       first|done|simp
      .simp [cutL]
     .have du:decide ((u.length:Int)>(W:Int))=false:=by simp; omega
      have hch:=chop_end hu;rw[hch]at f1 f2;simp only[lbp]at f1 f2;refine goR ntmps175 300 ?_;simp only[go_sem,du];rw[f1,f2];exact AwR hJ (Ls trivial)
 .intro D q hD
  have hn:(List.map AV.str (splitW t)).length=(splitW t).length:=by simp
  have htot:wrapTo W t (splitW t).length=wrapF W t:=by simp[wrapTo,wrapF]
  have hb:=AfC W t _ (lab _);have hb2:=AmE t _ (lab _);rw[htot]at hb;simp only[hn,htot];unfold wrapL;generalize wrapF W t=st at *;obtain⟨ls,ln⟩:=st;simp only[BsE];simp only at hb
  cases hln:ln != []with
  | true =>
   refine goFR ntmps175 300 ?_;simp only[go_sem,hln]
   repeat refine aqb ?_
   refine AOut.shift (Shift.freeze 4 (id:=6) rfl rfl (by simp) (lab _) ?_) (BwD (.inr rfl) hD [4] rfl ⟨?_,rfl⟩)
   .have:=AaD (ls++[ln]); simpa using this
   .simp [resV,Av.get,Av.put,lae]
  | false =>
   refine goFR ntmps175 300 ?_;simp only[go_sem,hln];refine AOut.shift (Shift.freeze 4 (id:=6) rfl rfl (by simp) (lab _) ?_) (BwD (.inr rfl) hD [4] rfl ⟨?_,rfl⟩)
   .exact AaD ls
   .simp [resV,Av.get,Av.put,lae]
