/- Numbers of scenes compared, where what was drawn never grows less; slices.SortFunc of. -/
import Derived.Test.YtlldmgboedknfaaGreatDoorC22
import Derived.Shelf.Strings.IndexAnyAll
import Derived.Shelf.Strings.SlTrimAscii
import Derived.Shelf.Strconv.AtoiErr
set_option maxRecDepth 100000
set_option linter.unusedSimpArgs false
set_option linter.unusedVariables false
set_option linter.defProp false
namespace Go.Proofs.YtlldmgboedknfaaGreatDoor
open Go Go.Av Go.RowKit _root_.Go.Proofs.Tryz
section strict
attribute [local instance] trUp
def AgF:=@AbM trUp
def AgG:=@AaV trUp
def goBU:=@goB trUp
def AoI:=@AcS trUp
def BsR:=@BsG trUp
def AxC:=@aret trUp
def BsS:=@AbB trUp
def BpH:=@AcT trUp
def A1K:=@around trUp
def BcQ:=@AdZ trUp
def BpI:=@AlK trUp
def BiU:=@ainv trUp
theorem BsT{f:FuncId}{args:List AV}{r:AV}(vs:List Value)(v:Value)(hb:AaB prog f=true)(ha:∀ h vs',RL h Lf0 true vs' args->vs'=vs)(hr:∀ h,RV h Lf0 true v r)
  (H:∀ w,Calls prog f vs.toArray w fun e w'=>e=.returned v/\Same w w'):Pc prog f args (· = r):=by
 refine⟨hb,fun h w vs' hm hv=>?_⟩;have:=ha h vs' hv;subst this;refine(H w).mono ?_;rintro e w' ⟨rfl,hs⟩;exact⟨v,r,h,rfl,rfl,fun b o v e=>⟨hs.cell (hm b o v e).1,(hm b o v e).2⟩,fun _ _ _ x=>x,fun b o e n=>(n e).elim,hs,hr h⟩
theorem AxD(s p:List UInt8):Pc prog 81 [.str s,.str p] (· = .int .i64 (Lib.compareBytes s p)) :=
 BsT [_,_] (.int .i64 (Lib.compareBytes s p)) hB81 (AcA s p) (fun h=>.int _ _) fun w=>(Any.strings_Compare Tryz.lays106 ⟨s.toArray⟩ ⟨p.toArray⟩ w).mono fun e w' ⟨h1,h2⟩=>⟨h1,h2▸.refl w⟩
theorem A1L(w:World)(e:TypeId)(s:ByteArray):w.drawn<=(Lib.bytesWorld w e s).drawn:=Nat.le_succ w.drawn
theorem BiV(s:List UInt8)(n:Int)(hl:s.length<=18)(h:Lib.atoi s=some n):Pc prog 65 [.str s] (· = .tup [.int .i64 n,.raw .nilIface]) :=
 BsT [_] (.tuple #[.int .i64 n,.nilIface]) hB65 (A1B s) (fun h=>.tup [_,_] [_,_] (.cons (.int _ _) (.cons (.raw _) .nil)))
  fun w=>(Any.strconv_Atoi Tryz.lays172 ⟨s.toArray⟩ n (by simpa[ByteArray.size]using hl) h w).mono fun e w' ⟨h1,t,h2⟩=>⟨h1,h2▸(let b:=Lib.bytesWorld_below _ _ _; ⟨b.os,b.tape,⟨b.output,A1L _ _ _⟩,b.size,b.block⟩)⟩
theorem AxE(s:List UInt8)(hs:s.length<1000000)(hd:okD s):Pc prog 101 [.str s] (· = .agg [.int .i64 (pN s),.str (caps s)]):=by
 refine AgF (AgG func101 rfl ntmps101 hB101 (by simp) fun h ρ w=>goBU rfl 300 ?_);simp only[go_sem];refine BpI (ι:=Nat) (κ:=Unit) (fun i=>s.length-i) (fun i=>[(3,.int .i64 i),(2,.ptr 0 1 0 0),(0,.str s)]) (fun _=>[.arr 2 [.agg [.int .i64 0,.str []]]]) (fun i=>i<=s.length/\(s.take i).all digB=true)
  (fun _=>[(3,.int .i64 (digs s).length),(2,.ptr 0 1 0 0),(0,.str s)]) (fun _=>[.arr 2 [.agg [.int .i64 0,.str []]]]) (fun _=>s=digs s++caps s) 0 ⟨by omega,by simp⟩ ?_ ?_ ?_
 .refine Shift.weak ?_
  simp only[go_sem]
 .rintro-hd'
  have hdl:(digs s).length<=s.length:=(congrArg List.length hd').symm▸by simp
  have edr:List.drop (digs s).length s=caps s:=(congrArg (List.drop (digs s).length) hd').trans (by simp);have etk:List.take (digs s).length s=digs s:=(congrArg (List.take (digs s).length) hd').trans (by simp);refine goBU rfl 300 ?_;simp only[go_sem,etk];refine⟨by omega,by omega,?_⟩;refine AoI (BiV (digs s) (pN s) hd.2 (AfB hd)) rfl rfl rfl ?_;refine goBU rfl 300 ?_;simp only[go_sem,edr];refine⟨by omega,by omega,?_⟩;refine⟨by omega,BsS [.cell 2 155] rfl [.agg [.int .i64 (pN s),.str (caps s)]] ⟨?_,trivial⟩ ⟨rfl,rfl⟩⟩;simp only[go_sem,sideIs]
 .rintro i ⟨g1,g2⟩ J Q hJ hQ
  have out:(i=s.length\/digB (s.getD i 0)=false)->((digs s).length=i/\s=digs s++caps s):=fun e=>by
   obtain⟨e1,e2⟩:=AdF g1 g2 e;exact⟨by rw[digs,e1]; simp; omega,by simp[digs,caps]⟩
  refine goBU rfl 300 ?_
  by_cases hi:(i:Int)<s.length
  .have hil:i<s.length:=by omega
   have hgd:s.getD i 0=s[i]:=by simp[List.getD,hil]
   have hb:digB s[i]=(decide ((s[i].toNat:Int)>=48)&&decide ((s[i].toNat:Int)<=57)):=rfl
   cases c1:decide ((s[i].toNat:Int)>=48)with
   | true =>
    cases c2:decide ((s[i].toNat:Int)<=57)with
    | true =>
     simp only[go_sem,hi,hgd,c1,c2];rw[ic i]
     repeat refine ao ?_
     refine BiU (hJ (i+1) ⟨by omega,AaO hil g2 (by rw[hb,c1,c2]; rfl)⟩ (by omega)) (Shift.weak ?_);simp only[go_sem]
    | false =>
     obtain⟨e1,e2⟩:=out (.inr (by rw[hgd,hb,c1,c2]; rfl));simp only[go_sem,hi,hgd,c1,c2]
     repeat refine ao ?_
     refine BiU (hQ () e2) (Shift.weak ?_);rw[e1];simp only[go_sem]
   | false =>
    obtain⟨e1,e2⟩:=out (.inr (by rw[hgd,hb,c1]; rfl));simp only[go_sem,hi,hgd,c1]
    repeat refine ao ?_
    refine BiU (hQ () e2) (Shift.weak ?_);rw[e1];simp only[go_sem]
  .simp only [go_sem,hi]
   obtain⟨e1,e2⟩:=out (.inl (by omega));refine BiU (hQ () e2) (Shift.weak ?_);rw[e1];simp only[go_sem]
theorem AxF(n:Int):Pc prog 137 [.int .i64 n] (· = .bool false):=by
 refine AgF (AgG func137 rfl ntmps137 hB137 (by simp) fun h ρ w=>goBU rfl 300 ?_);simp only[go_sem];exact AxC [2] rfl ⟨rfl,rfl⟩
theorem AxG(a b:Int):Pc prog 80 [.int .i64 a,.int .i64 b] (· = .int .i64 (cmpI a b)):=by
 refine AgF (AgG func80 rfl ntmps80 hB80 (by simp) fun h ρ w=>goBU rfl 300 ?_);simp only[go_sem];refine AoI (AxF a) rfl rfl rfl ?_;refine goBU rfl 300 ?_;simp only[go_sem];refine AoI (AxF b) rfl rfl rfl ?_;refine goBU rfl 300 ?_
 by_cases h1:a<b
 .have d1:decide (a<b)=true:=by simpa using h1
  simp only[go_sem,d1];exact AxC [4] rfl ⟨by simp[resV,Av.get,Av.put,cmpI,h1],rfl⟩
 .have d1:decide (a<b)=false:=by simpa using h1
  by_cases h2:a>b
  .have d2:decide (a>b)=true:=by simpa using h2
   simp only[go_sem,d1,d2];exact AxC [4] rfl ⟨by simp[resV,Av.get,Av.put,cmpI,h1,h2],rfl⟩
  .have d2:decide (a>b)=false:=by simpa using h2
   simp only[go_sem,d1,d2];exact AxC [4] rfl ⟨by simp[resV,Av.get,Av.put,cmpI,h1,h2],rfl⟩
theorem BsU(a b:Int):Pc prog 79 [.fz 1 [.int .i64 a,.int .i64 b]] (· = .int .i64 (orI a b)):=by
 refine AgF (AgG func79 rfl ntmps79 hB79 (by simp) fun h ρ w=>goBU rfl 300 ?_);simp only[go_sem];refine BpH (A1K ?_)
 by_cases h1:a=0
 .have d1:(a != 0)=false:=by simpa using h1
  refine goBU rfl 300 ?_;simp only[go_sem,d1];refine BcQ (A1K ?_)
  by_cases h2:b=0
  .have d2:(b != 0)=false:=by simpa using h2
   refine goBU rfl 300 ?_;simp only[go_sem,d2];refine BcQ (A1K ?_);refine goBU rfl 300 ?_;simp only[go_sem];exact AxC [2] rfl ⟨by simp[resV,Av.get,Av.put,orI,h1,h2],rfl⟩
  .have d2:(b != 0)=true:=by simpa using h2
   refine goBU rfl 300 ?_;simp only[go_sem,d2];exact AxC [2] rfl ⟨by simp[resV,Av.get,Av.put,orI,h1],rfl⟩
 .have d1:(a != 0)=true:=by simpa using h1
  refine goBU rfl 300 ?_;simp only[go_sem,d1];exact AxC [2] rfl ⟨by simp[resV,Av.get,Av.put,orI,h1],rfl⟩
theorem AxH(a b:List UInt8)(ha:a.length<1000000)(hb:b.length<1000000)(da:okD a)(db:okD b):Pc prog 47 [.str a,.str b] (· = .int .i64 (AaC a b)):=by
 refine AgF (AgG func47 rfl ntmps47 hB47 (by simp) fun h ρ w=>goBU rfl 300 ?_);simp only[go_sem];refine AoI (AxE a ha da) rfl rfl rfl ?_;refine goBU rfl 300 ?_;simp only[go_sem];refine AoI (AxE b hb db) rfl rfl rfl ?_;refine goBU rfl 300 ?_;simp only[go_sem];refine BsR [.int .i64 (cmpI (pN a) (pN b)),.int .i64 (Lib.compareBytes (caps a) (caps b)),.int .i64 (AaC a b)] mixed ?d1 rfl ?d2 100 ?d3
 case d1=>decide
 case d2=>rfl
 simp only[go_sem];have ho:=BsU (cmpI (pN a) (pN b)) (Lib.compareBytes (caps a) (caps b));refine⟨(AxG _ _).at,rfl,rfl,(AxD _ _).at,rfl,rfl,ho.at,rfl,?_⟩;refine goBU rfl 300 ?_;simp only[go_sem];exact AxC [4] rfl ⟨by simp[resV,Av.get],rfl⟩
abbrev Nu:={ s:List UInt8 // numberL s=true }
theorem AtW(h:Mem)(ρ:Go.Av.Own)(s:List Blk)(x y:Nu)(v u:Value)(r1:RL h (Lf ρ s) false [v] [.str x.1])(r2:RL h (Lf ρ s) false [u] [.str y.1])(o1:v.oneCell'=true)(o2:u.oneCell'=true)(W:World) :
  Calls prog 47 #[v,u] W fun e w'=>e=.returned (.int .i64 (AaC x.1 y.1)) /\ @Same trUp W w':=by
 have nx:=AbS x.2;have ny:=AbS y.2;have lx:=AaG x.2;have ly:=AaG y.2;have e1:v=.string ⟨x.1.toArray⟩:=by cases r1 with|cons r _=>exact AaY r
 have e2:u=.string ⟨y.1.toArray⟩:=by cases r2 with|cons r _=>exact AaY r
 subst e1 e2;have hp:=AxH x.1 y.1 (by omega) (by omega) nx.1 ny.1;have hq:=@Pc.calls trUp _ _ _ _ hp W [.string ⟨x.1.toArray⟩,.string ⟨y.1.toArray⟩] fun h=>.cons (.str _) (.cons (.str _) .nil)
 refine Calls.mono hq ?_;rintro e w' ⟨⟨v,h',rfl,rv⟩,hs⟩;refine⟨?_,hs⟩
 cases rv with|int=>rfl
end strict
theorem BiW:Go.Sort.SWO (Go.Proofs.ltOf fun x y:Nu=>AaC x.1 y.1):=by
 have e:∀ x y:Nu,Go.Proofs.ltOf (fun x y:Nu=>AaC x.1 y.1) x y=true ↔ nLt x.1 y.1:=fun x y=>by
  simp only[Go.Proofs.ltOf,decide_eq_true_eq]; exact compareN_lt
 have e':∀ x y:Nu,Go.Proofs.ltOf (fun x y:Nu=>AaC x.1 y.1) x y=false ↔ ¬ nLt x.1 y.1:=fun x y=>by
  rw[<- e,Bool.not_eq_true]
 refine⟨fun x=>(e' x x).2 (AaH _),fun x y z h1 h2=>(e x z).2 (AaF ((e x y).1 h1) ((e y z).1 h2)),fun x y z h1 h2=>(e' x z).2 fun h=>?_⟩;have n1:=(e' x y).1 h1;have n2:=(e' y z).1 h2
 by_cases h3:nLt y.1 x.1
 .exact n2 (AaF h3 h)
 .have:=AjE x.2 y.2 (AoA n1 h3)
  rw[<- this]at n2;exact n2 h
theorem BcR{s:List Blk}{bid:Nat}{l:List Nu}(hs:s[bid]? = some (.arr 1 (l.map fun x=>.str x.1)))(hl:l.length<1000000) :
  Ct prog 61 [.sl bid 0 l.length l.length,.fn (.func 47) []] s (fun r s'=>r=.tup []/\∃ l':List Nu,s'=s.set bid (.arr 1 (l'.map fun x=>.str x.1))/\l'.Perm l/\l'.Pairwise (fun x y=>¬ nLt y.1 x.1)):=by
 have h:=BiT Tryz.sortStr hB61 (fun x:Nu=>AV.str x.1) (fun _=>rfl) (fun x y:Nu=>AaC x.1 y.1) BiW hB47 AtW hs (by omega);refine⟨h.1,fun hh ρ w vs m r=>(h.2 hh ρ w vs m r).mono ?_⟩;rintro e w' ⟨v,r,s1,h',ρ',h1,⟨h2,l',h3,h4,h5⟩,h6⟩;exact⟨v,r,s1,h',ρ',h1,⟨h2,l',h3,h4,h5.imp fun hh=>by rwa [compareN_lt]at hh⟩,h6⟩
end Go.Proofs.YtlldmgboedknfaaGreatDoor
namespace Go.Proofs
open Go.Shelf _root_.Go.Proofs.Tryz
def Tryz.lays150_ren:Go.Shelf.Ren:=⟨fun|150=>155|153=>202|152=>230|226=>231|227=>179|228=>213|137=>195|119=>244|224=>228|225=>227|217=>224|266=>240|n=>n,fun|9=>9|4=>4|3=>3|5=>5|21=>21|117=>211|116=>210|0=>0|46=>140|124=>214|n=>n,fun|n=>n⟩
theorem Tryz.lays150:Go.Proofs.Lays.n150 prog Tryz.lays150_ren:={
 mixed:=by kernel_rfl
 f119:=func244.trans (congrArg some (by kernel_rfl))
 f137:=func195.trans (congrArg some (by kernel_rfl))
 f150:=func155.trans (congrArg some (by kernel_rfl))
 f152:=func230.trans (congrArg some (by kernel_rfl))
 f153:=func202.trans (congrArg some (by kernel_rfl))
 f217:=func224.trans (congrArg some (by kernel_rfl))
 f224:=func228.trans (congrArg some (by kernel_rfl))
 f225:=func227.trans (congrArg some (by kernel_rfl))
 f226:=func231.trans (congrArg some (by kernel_rfl))
 f227:=func179.trans (congrArg some (by kernel_rfl))
 f228:=func213.trans (congrArg some (by kernel_rfl))
 f266:=func240.trans (congrArg some (by kernel_rfl))
 t0:=underlying0
 a0:=Tryz.isAgg0
 z0:=Tryz.sizeOf0
 v0:=Tryz.zeroValue0
 t3:=underlying3
 a3:=Tryz.isAgg3
 z3:=Tryz.sizeOf3
 v3:=Tryz.zeroValue3
 t4:=underlying4
 a4:=Tryz.isAgg4
 z4:=Tryz.sizeOf4
 v4:=Tryz.zeroValue4
 t5:=underlying5
 a5:=Tryz.isAgg5
 z5:=Tryz.sizeOf5
 v5:=Tryz.zeroValue5
 t9:=underlying9
 a9:=Tryz.isAgg9
 z9:=Tryz.sizeOf9
 v9:=Tryz.zeroValue9
 t21:=underlying21
 a21:=Tryz.isAgg21
 z21:=Tryz.sizeOf21
 v21:=Tryz.zeroValue21
 t46:=underlying140
 a46:=Tryz.isAgg140
 z46:=Tryz.sizeOf140
 v46:=Tryz.zeroValue140
 t116:=underlying210
 a116:=Tryz.isAgg210
 z116:=Tryz.sizeOf210
 t117:=underlying211
 a117:=Tryz.isAgg211
 z117:=Tryz.sizeOf211
 v117:=Tryz.zeroValue211
 t124:=underlying214
 a124:=Tryz.isAgg214
 z124:=Tryz.sizeOf214
 v124:=Tryz.zeroValue214 }
def Tryz.lays160_ren:Go.Shelf.Ren:=⟨fun|160=>187|232=>219|231=>178|227=>179|234=>220|233=>180|236=>221|235=>181|228=>213|271=>239|151=>215|197=>214|120=>245|152=>230|260=>236|137=>195|119=>244|224=>228|225=>227|217=>224|266=>240|n=>n,fun|9=>9|4=>4|3=>3|5=>5|117=>211|116=>210|0=>0|124=>214|21=>21|105=>239|46=>140|119=>261|139=>264|138=>263|n=>n,fun|3=>6|4=>7|n=>n⟩
theorem Tryz.lays160:Go.Proofs.Lays.n160 prog Tryz.lays160_ren:={
 mixed:=by kernel_rfl
 f119:=func244.trans (congrArg some (by kernel_rfl))
 f120:=func245.trans (congrArg some (by kernel_rfl))
 f137:=func195.trans (congrArg some (by kernel_rfl))
 f151:=func215.trans (congrArg some (by kernel_rfl))
 f152:=func230.trans (congrArg some (by kernel_rfl))
 f160:=func187.trans (congrArg some (by kernel_rfl))
 f197:=func214.trans (congrArg some (by kernel_rfl))
 f217:=func224.trans (congrArg some (by kernel_rfl))
 f224:=func228.trans (congrArg some (by kernel_rfl))
 f225:=func227.trans (congrArg some (by kernel_rfl))
 f227:=func179.trans (congrArg some (by kernel_rfl))
 f228:=func213.trans (congrArg some (by kernel_rfl))
 f231:=func178.trans (congrArg some (by kernel_rfl))
 f232:=func219.trans (congrArg some (by kernel_rfl))
 f233:=func180.trans (congrArg some (by kernel_rfl))
 f234:=func220.trans (congrArg some (by kernel_rfl))
 f235:=func181.trans (congrArg some (by kernel_rfl))
 f236:=func221.trans (congrArg some (by kernel_rfl))
 f260:=func236.trans (congrArg some (by kernel_rfl))
 f266:=func240.trans (congrArg some (by kernel_rfl))
 f271:=func239.trans (congrArg some (by kernel_rfl))
 t0:=underlying0
 a0:=Tryz.isAgg0
 z0:=Tryz.sizeOf0
 v0:=Tryz.zeroValue0
 t3:=underlying3
 a3:=Tryz.isAgg3
 z3:=Tryz.sizeOf3
 v3:=Tryz.zeroValue3
 t4:=underlying4
 a4:=Tryz.isAgg4
 z4:=Tryz.sizeOf4
 v4:=Tryz.zeroValue4
 t5:=underlying5
 a5:=Tryz.isAgg5
 z5:=Tryz.sizeOf5
 v5:=Tryz.zeroValue5
 t9:=underlying9
 a9:=Tryz.isAgg9
 z9:=Tryz.sizeOf9
 v9:=Tryz.zeroValue9
 t21:=underlying21
 a21:=Tryz.isAgg21
 z21:=Tryz.sizeOf21
 v21:=Tryz.zeroValue21
 t46:=underlying140
 a46:=Tryz.isAgg140
 z46:=Tryz.sizeOf140
 v46:=Tryz.zeroValue140
 t105:=underlying239
 a105:=Tryz.isAgg239
 z105:=Tryz.sizeOf239
 v105:=Tryz.zeroValue239
 t116:=underlying210
 a116:=Tryz.isAgg210
 z116:=Tryz.sizeOf210
 t117:=underlying211
 a117:=Tryz.isAgg211
 z117:=Tryz.sizeOf211
 v117:=Tryz.zeroValue211
 t119:=underlying261
 a119:=Tryz.isAgg261
 z119:=Tryz.sizeOf261
 t124:=underlying214
 a124:=Tryz.isAgg214
 z124:=Tryz.sizeOf214
 v124:=Tryz.zeroValue214
 t138:=underlying263
 a138:=Tryz.isAgg263
 z138:=Tryz.sizeOf263
 v138:=Tryz.zeroValue263
 t139:=underlying264
 a139:=Tryz.isAgg264
 z139:=Tryz.sizeOf264
 v139:=Tryz.zeroValue264
 g3:=by kernel_rfl
 g4:=by kernel_rfl }
def Tryz.lays161_ren:Go.Shelf.Ren:=⟨fun|161=>129|231=>178|227=>179|233=>180|235=>181|228=>213|197=>214|151=>215|260=>236|152=>230|137=>195|119=>244|224=>228|225=>227|217=>224|266=>240|n=>n,fun|9=>9|4=>4|3=>3|5=>5|117=>211|116=>210|0=>0|124=>214|105=>239|21=>21|119=>261|46=>140|139=>264|138=>263|n=>n,fun|3=>6|4=>7|n=>n⟩
theorem Tryz.lays161:Go.Proofs.Lays.n161 prog Tryz.lays161_ren:={
 mixed:=by kernel_rfl
 f119:=func244.trans (congrArg some (by kernel_rfl))
 f137:=func195.trans (congrArg some (by kernel_rfl))
 f151:=func215.trans (congrArg some (by kernel_rfl))
 f152:=func230.trans (congrArg some (by kernel_rfl))
 f161:=func129.trans (congrArg some (by kernel_rfl))
 f197:=func214.trans (congrArg some (by kernel_rfl))
 f217:=func224.trans (congrArg some (by kernel_rfl))
 f224:=func228.trans (congrArg some (by kernel_rfl))
 f225:=func227.trans (congrArg some (by kernel_rfl))
 f227:=func179.trans (congrArg some (by kernel_rfl))
 f228:=func213.trans (congrArg some (by kernel_rfl))
 f231:=func178.trans (congrArg some (by kernel_rfl))
 f233:=func180.trans (congrArg some (by kernel_rfl))
 f235:=func181.trans (congrArg some (by kernel_rfl))
 f260:=func236.trans (congrArg some (by kernel_rfl))
 f266:=func240.trans (congrArg some (by kernel_rfl))
 t0:=underlying0
 a0:=Tryz.isAgg0
 z0:=Tryz.sizeOf0
 v0:=Tryz.zeroValue0
 t3:=underlying3
 a3:=Tryz.isAgg3
 z3:=Tryz.sizeOf3
 v3:=Tryz.zeroValue3
 t4:=underlying4
 a4:=Tryz.isAgg4
 z4:=Tryz.sizeOf4
 v4:=Tryz.zeroValue4
 t5:=underlying5
 a5:=Tryz.isAgg5
 z5:=Tryz.sizeOf5
 v5:=Tryz.zeroValue5
 t9:=underlying9
 a9:=Tryz.isAgg9
 z9:=Tryz.sizeOf9
 v9:=Tryz.zeroValue9
 t21:=underlying21
 a21:=Tryz.isAgg21
 z21:=Tryz.sizeOf21
 v21:=Tryz.zeroValue21
 t46:=underlying140
 a46:=Tryz.isAgg140
 z46:=Tryz.sizeOf140
 v46:=Tryz.zeroValue140
 t105:=underlying239
 a105:=Tryz.isAgg239
 z105:=Tryz.sizeOf239
 v105:=Tryz.zeroValue239
 t116:=underlying210
 a116:=Tryz.isAgg210
 z116:=Tryz.sizeOf210
 t117:=underlying211
 a117:=Tryz.isAgg211
 z117:=Tryz.sizeOf211
 v117:=Tryz.zeroValue211
 t119:=underlying261
 a119:=Tryz.isAgg261
 z119:=Tryz.sizeOf261
 t124:=underlying214
 a124:=Tryz.isAgg214
 z124:=Tryz.sizeOf214
 v124:=Tryz.zeroValue214
 t138:=underlying263
 a138:=Tryz.isAgg263
 z138:=Tryz.sizeOf263
 v138:=Tryz.zeroValue263
 t139:=underlying264
 a139:=Tryz.isAgg264
 z139:=Tryz.sizeOf264
 v139:=Tryz.zeroValue264
 g3:=by kernel_rfl
 g4:=by kernel_rfl }
def Tryz.laysC172_ren:Go.Shelf.Ren:=⟨fun|172=>65|244=>130|245=>131|247=>182|279=>183|280=>184|281=>185|282=>186|287=>216|316=>217|171=>22|205=>218|321=>237|322=>238|243=>62|246=>128|283=>174|284=>175|285=>176|286=>177|129=>173|317=>209|318=>210|319=>211|320=>212|337=>234|338=>235|n=>n,fun|9=>9|3=>3|75=>116|76=>117|4=>4|5=>5|167=>215|37=>144|0=>0|85=>216|2=>2|168=>218|53=>181|175=>242|46=>140|210=>246|127=>184|145=>256|143=>254|21=>21|171=>204|173=>206|212=>237|51=>178|20=>20|213=>238|232=>259|233=>260|80=>149|n=>n,fun|15=>2|16=>3|17=>1|18=>4|19=>5|n=>n⟩
theorem Tryz.laysC172:Go.Proofs.LaysC.n172 prog Tryz.laysC172_ren:={
 mixed:=by kernel_rfl
 f129:=func173.trans (congrArg some (by kernel_rfl))
 f171:=func22.trans (congrArg some (by kernel_rfl))
 f172:=func65.trans (congrArg some (by kernel_rfl))
 f205:=func218.trans (congrArg some (by kernel_rfl))
 f243:=func62.trans (congrArg some (by kernel_rfl))
 f244:=func130.trans (congrArg some (by kernel_rfl))
 f245:=func131.trans (congrArg some (by kernel_rfl))
 f246:=func128.trans (congrArg some (by kernel_rfl))
 f247:=func182.trans (congrArg some (by kernel_rfl))
 f279:=func183.trans (congrArg some (by kernel_rfl))
 f280:=func184.trans (congrArg some (by kernel_rfl))
 f281:=func185.trans (congrArg some (by kernel_rfl))
 f282:=func186.trans (congrArg some (by kernel_rfl))
 f283:=func174.trans (congrArg some (by kernel_rfl))
 f284:=func175.trans (congrArg some (by kernel_rfl))
 f285:=func176.trans (congrArg some (by kernel_rfl))
 f286:=func177.trans (congrArg some (by kernel_rfl))
 f287:=func216.trans (congrArg some (by kernel_rfl))
 f316:=func217.trans (congrArg some (by kernel_rfl))
 f317:=func209.trans (congrArg some (by kernel_rfl))
 f318:=func210.trans (congrArg some (by kernel_rfl))
 f319:=func211.trans (congrArg some (by kernel_rfl))
 f320:=func212.trans (congrArg some (by kernel_rfl))
 f321:=func237.trans (congrArg some (by kernel_rfl))
 f322:=func238.trans (congrArg some (by kernel_rfl))
 f337:=func234.trans (congrArg some (by kernel_rfl))
 f338:=func235.trans (congrArg some (by kernel_rfl))
 t0:=underlying0
 a0:=Tryz.isAgg0
 z0:=Tryz.sizeOf0
 v0:=Tryz.zeroValue0
 t2:=underlying2
 a2:=Tryz.isAgg2
 z2:=Tryz.sizeOf2
 v2:=Tryz.zeroValue2
 t3:=underlying3
 a3:=Tryz.isAgg3
 z3:=Tryz.sizeOf3
 v3:=Tryz.zeroValue3
 t4:=underlying4
 a4:=Tryz.isAgg4
 z4:=Tryz.sizeOf4
 v4:=Tryz.zeroValue4
 t5:=underlying5
 a5:=Tryz.isAgg5
 z5:=Tryz.sizeOf5
 v5:=Tryz.zeroValue5
 t9:=underlying9
 a9:=Tryz.isAgg9
 z9:=Tryz.sizeOf9
 v9:=Tryz.zeroValue9
 t20:=underlying20
 a20:=Tryz.isAgg20
 z20:=Tryz.sizeOf20
 v20:=Tryz.zeroValue20
 t21:=underlying21
 a21:=Tryz.isAgg21
 z21:=Tryz.sizeOf21
 v21:=Tryz.zeroValue21
 t37:=underlying144
 a37:=Tryz.isAgg144
 z37:=Tryz.sizeOf144
 v37:=Tryz.zeroValue144
 t46:=underlying140
 a46:=Tryz.isAgg140
 z46:=Tryz.sizeOf140
 v46:=Tryz.zeroValue140
 t51:=underlying178
 a51:=Tryz.isAgg178
 z51:=Tryz.sizeOf178
 v51:=Tryz.zeroValue178
 t53:=underlying181
 a53:=Tryz.isAgg181
 z53:=Tryz.sizeOf181
 v53:=Tryz.zeroValue181
 t75:=underlying116
 a75:=Tryz.isAgg116
 z75:=Tryz.sizeOf116
 v75:=Tryz.zeroValue116
 t76:=underlying117
 a76:=Tryz.isAgg117
 z76:=Tryz.sizeOf117
 v76:=Tryz.zeroValue117
 t85:=underlying216
 a85:=Tryz.isAgg216
 z85:=Tryz.sizeOf216
 v85:=Tryz.zeroValue216
 t127:=underlying184
 a127:=Tryz.isAgg184
 z127:=Tryz.sizeOf184
 v127:=Tryz.zeroValue184
 t143:=underlying254
 a143:=Tryz.isAgg254
 z143:=Tryz.sizeOf254
 v143:=Tryz.zeroValue254
 t145:=underlying256
 a145:=Tryz.isAgg256
 z145:=Tryz.sizeOf256
 v145:=Tryz.zeroValue256
 t167:=underlying215
 a167:=Tryz.isAgg215
 z167:=Tryz.sizeOf215
 v167:=Tryz.zeroValue215
 t168:=underlying218
 a168:=Tryz.isAgg218
 z168:=Tryz.sizeOf218
 v168:=Tryz.zeroValue218
 t171:=underlying204
 a171:=Tryz.isAgg204
 z171:=Tryz.sizeOf204
 v171:=Tryz.zeroValue204
 t173:=underlying206
 a173:=Tryz.isAgg206
 z173:=Tryz.sizeOf206
 v173:=Tryz.zeroValue206
 t175:=underlying242
 a175:=Tryz.isAgg242
 z175:=Tryz.sizeOf242
 v175:=Tryz.zeroValue242
 t210:=underlying246
 a210:=Tryz.isAgg246
 z210:=Tryz.sizeOf246
 v210:=Tryz.zeroValue246
 t212:=underlying237
 a212:=Tryz.isAgg237
 z212:=Tryz.sizeOf237
 v212:=Tryz.zeroValue237
 t213:=underlying238
 a213:=Tryz.isAgg238
 z213:=Tryz.sizeOf238
 t232:=underlying259
 a232:=Tryz.isAgg259
 z232:=Tryz.sizeOf259
 v232:=Tryz.zeroValue259
 t233:=underlying260
 a233:=Tryz.isAgg260
 z233:=Tryz.sizeOf260
 v233:=Tryz.zeroValue260
 g15:=by kernel_rfl
 g16:=by kernel_rfl
 g17:=by kernel_rfl
 g18:=by kernel_rfl
 g19:=by kernel_rfl
 t80:=underlying149
 a80:=Tryz.isAgg149
 z80:=Tryz.sizeOf149
 v80:=Tryz.zeroValue149
 i0:=by kernel_rfl
 i2:=by kernel_rfl
 i3:=by kernel_rfl
 i4:=by kernel_rfl
 i5:=by kernel_rfl
 i9:=by kernel_rfl
 i20:=by kernel_rfl
 i21:=by kernel_rfl
 i37:=by kernel_rfl
 i46:=by kernel_rfl
 i51:=by kernel_rfl
 i53:=by kernel_rfl
 i75:=by kernel_rfl
 i76:=by kernel_rfl
 i80:=by kernel_rfl
 i85:=by kernel_rfl
 i127:=by kernel_rfl
 i143:=by kernel_rfl
 i145:=by kernel_rfl
 i167:=by kernel_rfl
 i168:=by kernel_rfl
 i171:=by kernel_rfl
 i173:=by kernel_rfl
 i175:=by kernel_rfl
 i210:=by kernel_rfl
 i212:=by kernel_rfl
 i232:=by kernel_rfl
 i233:=by kernel_rfl
 m15:=by kernel_rfl
 m16:=by kernel_rfl
 m17:=by kernel_rfl
 m18:=by kernel_rfl
 m19:=by kernel_rfl
 c0:=by kernel_rfl
 c2:=by kernel_rfl
 c3:=by kernel_rfl
 c4:=by kernel_rfl
 c5:=by kernel_rfl
 c9:=by kernel_rfl
 c20:=by kernel_rfl
 c21:=by kernel_rfl
 c37:=by kernel_rfl
 c46:=by kernel_rfl
 c51:=by kernel_rfl
 c53:=by kernel_rfl
 c75:=by kernel_rfl
 c76:=by kernel_rfl
 c80:=by kernel_rfl
 c85:=by kernel_rfl
 c127:=by kernel_rfl
 c143:=by kernel_rfl
 c145:=by kernel_rfl
 c167:=by kernel_rfl
 c168:=by kernel_rfl
 c171:=by kernel_rfl
 c173:=by kernel_rfl
 c175:=by kernel_rfl
 c210:=by kernel_rfl
 c212:=by kernel_rfl
 c213:=by kernel_rfl
 c232:=by kernel_rfl
 c233:=by kernel_rfl }
end Go.Proofs
namespace Go.Proofs.YtlldmgboedknfaaGreatDoor
open Go Go.Av Go.RowKit _root_.Go.Proofs.Tryz
theorem A1M{f:FuncId}{args:List AV}{r:AV}(vs:List Value)(v:Value)(hb:AaB prog f=true)(ha:∀ h vs',RL h Lf0 true vs' args->vs'=vs)(hr:∀ h,RV h Lf0 true v r)
  (H:∀ w,Calls prog f vs.toArray w fun e w'=>e=.returned v/\Below w.heap.size w w'):Pc prog f args (· = r):=by
 refine⟨hb,fun h w vs' hm hv=>?_⟩;have:=ha h vs' hv;subst this;refine(H w).mono ?_;rintro e w' ⟨rfl,hs⟩;have hs:Same w w':=⟨hs.os,hs.tape,⟨hs.output,trivial⟩,hs.size,hs.block⟩;exact⟨v,r,h,rfl,rfl,fun b o v e=>⟨hs.cell (hm b o v e).1,(hm b o v e).2⟩,fun _ _ _ x=>x,fun b o e n=>(n e).elim,hs,hr h⟩
def AlR(s:List UInt8):Prop:=∀ b∈s,b.toNat<128
theorem AmN{s:List UInt8}(h:AlR s):∀ (j:Nat) b,(⟨s.toArray⟩:ByteArray).data.toList[j]? = some b->b.toNat<128:=fun j b hb=>h b (List.mem_of_getElem? hb)
theorem AjF{s:List UInt8}(h:s.all (fun b=>decide (b.toNat<128))=true):AlR s:=fun b hb=>of_decide_eq_true (List.all_eq_true.1 h b hb)
theorem BiX{s:List UInt8}(h:s.all okB=true):AlR s:=fun b hb=>by
 have:=List.all_eq_true.1 h b hb;simp only[okB,Bool.and_eq_true,Bool.not_eq_true',decide_eq_false_iff_not]at this;omega
theorem BsV:(prog.info? (Tryz.lays150_ren.t 116)).map (fun i=>(i.zero,i.size))=some (some (.agg (Array.replicate 256 (.bool false))),256):=by kernel_rfl
theorem BsW:(prog.info? (Tryz.lays160_ren.t 116)).map (fun i=>(i.zero,i.size))=some (some (.agg (Array.replicate 256 (.bool false))),256):=by kernel_rfl
theorem BsX:(prog.info? (Tryz.lays161_ren.t 116)).map (fun i=>(i.zero,i.size))=some (some (.agg (Array.replicate 256 (.bool false))),256):=by kernel_rfl
theorem AqU(s p:List UInt8)(hs:s.length<4294967281)(hp:p.length<4294967281)(h1:AlR s)(h2:AlR p):Pc prog 155 [.str s,.str p] (· = .bool (Lib.containsAny s p)) :=
 A1M [_,_] (.bool (Lib.containsAny s p)) hB155 (AcA s p) (fun h=>.bool _) fun w=>Any.strings_ContainsAny_laid Tryz.lays150 BsV ⟨s.toArray⟩ ⟨p.toArray⟩ w hs hp (AmN h1) (AmN h2)
theorem BpJ(s p:List UInt8)(hs:s.length<4294967281)(hp:p.length<4294967281)(h2:AlR p):Pc prog 187 [.str s,.str p] (· = .str (Lib.trimS s p)) :=
 A1M [_,_] (.string ⟨(Lib.trimS s p).toArray⟩) hB187 (AcA s p) (fun h=>.str _) fun w=>Any.strings_Trim_laid Tryz.lays160 BsW ⟨s.toArray⟩ ⟨p.toArray⟩ w (show s.length<=_ by omega) hp (AmN h2)
theorem AoJ(s p:List UInt8)(hp:p.length<4294967281)(h2:AlR p):Pc prog 129 [.str s,.str p] (· = .str (Lib.trimLeftS s p)) :=
 A1M [_,_] (.string ⟨(Lib.trimLeftS s p).toArray⟩) hB129 (AcA s p) (fun h=>.str _) fun w=>Any.strings_TrimLeft_laid Tryz.lays161 BsX ⟨s.toArray⟩ ⟨p.toArray⟩ w hp (AmN h2)
def A7Q(c:UInt8):Bool:=capI c.toNat||(((c.toNat:Int)==32)||((c.toNat:Int)==46))
def isTurnL(s:List UInt8):Bool:=s.all A7Q&&decide ((s.length:Int)<=40)
theorem BcS(s:List UInt8)(hs:s.length<1000000):Pc prog 156 [.str s] (· = .bool (isTurnL s)):=by
 refine zpIN func156 rfl fun h ρ w=>?_
 simp only[go_sem];refine AaI (ι:=Nat) (fun i=>s.length-i) (fun i=>[(6,.int .i64 i),(5,.int .i64 s.length),(0,.str s)]) (fun _=>[]) (fun i=>i<=s.length/\(s.take i).all A7Q=true) 0 ⟨by omega,by simp⟩ ?_ ?_
 .refine Shift.weak ?_
  simp only[go_sem]
 .rintro i ⟨g1,g2⟩ J hJ
  refine zgN ?_
  by_cases hi:i<s.length
  .have d1:decide ((i:Int)<(s.length:Int))=true:=by simp; omega
   have hx:s.getD i 0=s[i]:=by simp[List.getD,hi]
   simp only[go_sem,d1,hx];refine⟨by omega,by simpa using hi,?_⟩;refine zpN (AbP _) ?_;have bad:A7Q s[i]=false->isTurnL s=false:=fun h=>by simp only[isTurnL,AdE hi h,Bool.false_and]
   have again:A7Q s[i]=true->(s.take (i+1)).all A7Q=true:=fun h=>AaO hi g2 h
   have e1:(i:Int)+1=((i+1:Nat):Int):=by omega
   unfold A7Q at bad again
   cases q1:capI s[i].toNat with
   | true =>
    simp only[go_sem];rw[e1]
    repeat refine ao ?_
    refine ainv (hJ (i+1) ⟨by omega,again (by rw[q1]; rfl)⟩ (by omega)) (Shift.weak ?_);simp only[go_sem]
   | false =>
    cases q2:((s[i].toNat:Int)==32)with
    | true =>
     have q2':((s[i].toNat:Int) != 32)=false:=by rw[bne,q2]; rfl
     simp only[go_sem,q2',hx];rw[e1]
     repeat refine ao ?_
     refine ainv (hJ (i+1) ⟨by omega,again (by rw[q1,q2]; rfl)⟩ (by omega)) (Shift.weak ?_);simp only[go_sem]
    | false =>
     have q2':((s[i].toNat:Int) != 32)=true:=by rw[bne,q2]; rfl
     cases q3:((s[i].toNat:Int)==46)with
     | true =>
      have q3':((s[i].toNat:Int) != 46)=false:=by rw[bne,q3]; rfl
      simp only[go_sem,q2',q3',hx];rw[e1]
      repeat refine ao ?_
      refine ainv (hJ (i+1) ⟨by omega,again (by rw[q1,q2,q3]; rfl)⟩ (by omega)) (Shift.weak ?_);simp only[go_sem]
     | false =>
      have q3':((s[i].toNat:Int) != 46)=true:=by rw[bne,q3]; rfl
      simp only[go_sem,q2',q3',hx]
      repeat refine ao ?_
      exact aret [2] rfl ⟨by rw[bad (by rw[q1,q2,q3]; rfl)]; rfl,rfl⟩
  .have d1:decide ((i:Int)<(s.length:Int))=false:=by simp; omega
   have:i=s.length:=by omega
   subst this;simp only[go_sem,d1];refine aret [2] rfl ⟨?_,rfl⟩;rw[List.take_length]at g2
   simp[resV,Av.get,isTurnL,g2]
def BsY(s:List UInt8):Bool:=properL s 30 [39,46,45]
theorem A7R{S:Std}(hS:LibOk S)(s:List UInt8)(hs:s.length<1000000):PcH prog S 154 [.str s] (· = .bool (BsY s)):=by
 refine zqIN func154 rfl fun h ρ w hg=>?_
 simp only[go_sem];refine zqN hg (ArL hS s 30 _ hs) ?_;simp only[go_sem];exact zt [2]
def followsL(k l:Int):Bool:=if k==3 then l==2||l==4 else if k==4 then l==2||(l==3||l==4) else l != 2&&l != 3
theorem A7S(k l:Int):Pc prog 110 [.int .i64 k,.int .i64 l] (· = .bool (followsL k l)):=by
 refine zpIN func110 rfl fun h ρ w=>?_
 unfold followsL
 cases q3:k==3 with
 | true =>
  cases q:l==2 <;>
  .simp only [go_sem,q3,q]
   exact zt [4]
 | false =>
  cases q4:k==4 with
  | true =>
   cases q:l==2 <;> cases q':l==3 <;>
   .simp only [go_sem,q3,q4,q,q']
    exact zt [4]
  | false =>
   cases q:l != 2 <;>
   .simp only [go_sem,q3,q4,q]
    exact zt [4]
structure Pa where
 kind:Int
 text:List UInt8
structure Sc where
 no:List UInt8
 place:Int
 set:List UInt8
 time:Int
 paras:List Pa
structure Sr where
 title:List UInt8
 scenes:List Sc
def paA(p:Pa):AV:=.agg [.int .i64 p.kind,.str p.text]
def scA(x:Sc):AV:=.agg [.str x.no,.int .i64 x.place,.str x.set,.int .i64 x.time,.fz 2 (x.paras.map paA)]
def srA(x:Sr):AV:=.agg [.str x.title,.fz 5 (x.scenes.map scA)]
def paraOk(p:Pa):Bool:=decide (1<=p.kind)&&(decide (p.kind<=5)&&(p.text != []&&(plainL p.text&&(decide (p.text.length<=2000) &&
 ((p.kind != 2||BsY p.text)&&((p.kind != 3||(decide (p.text.length<=200)&&!Lib.containsAny p.text [40,41]))&&(p.kind != 5||isTurnL p.text)))))))
theorem AtX{S:Std}(hS:LibOk S)(p:Pa)(h:paraOk p=true):PcH prog S 109 [paA p] (· = .int .i64 0):=by
 obtain⟨k,s⟩:=p;simp only[paraOk,Bool.and_eq_true,decide_eq_true_eq,bne_iff_ne,ne_eq,Bool.or_eq_true,Bool.not_eq_true']at h;obtain⟨h1,h2,h3,h4,h5,h6,h7,h8⟩:=h;have e0:(s==[])=false:=by simpa using h3
 have hs:s.length<1000000:=by omega
 have d2:decide ((s.length:Int)>2000)=false:=by simp; omega
 have hasc:AlR s:=BiX (by simp only[plainL,Bool.and_eq_true]at h4; exact h4.1);unfold paA;have hk:k=1\/k=2\/k=3\/k=4\/k=5:=by omega
 refine zqIN func109 rfl fun h ρ w hg=>?_
 rcases hk with rfl|rfl|rfl|rfl|rfl
 .simp only [go_sem,e0,d2]
  refine zqN hg (AcO hS s hs) ?_;rw[h4];simp only[go_sem,e0,d2];exact zt [2]
 .simp only [go_sem,e0,d2]
  refine zqN hg (AcO hS s hs) ?_;rw[h4];simp only[go_sem,e0,d2];refine zqN hg (A7R hS s hs) ?_;rw[h6.resolve_left (by simp)];simp only[go_sem];exact zt [2]
 .have h7:=h7.resolve_left (by simp)
  have d3:decide ((s.length:Int)>200)=false:=by simp; omega
  simp only[go_sem,e0,d2,d3];refine zqN hg (AcO hS s hs) ?_;rw[h4];simp only[go_sem,e0,d2,d3];refine zpN (AqU s [40,41] (by omega) (by decide) hasc (AjF rfl)) ?_;rw[h7.2];simp only[go_sem];exact zt [2]
 .simp only [go_sem,e0,d2]
  refine zqN hg (AcO hS s hs) ?_;rw[h4];simp only[go_sem,e0,d2];exact zt [2]
 .simp only [go_sem,e0,d2]
  refine zqN hg (AcO hS s hs) ?_;rw[h4];simp only[go_sem,e0,d2];refine zpN (BcS s hs) ?_;rw[h8.resolve_left (by simp)];simp only[go_sem];exact zt [2]
set_option maxRecDepth 100000
set_option linter.unusedSimpArgs false
set_option linter.unusedVariables false
theorem AtY(x n:Int)(h1:1<=n)(h2:n<=9223372036854775807) :
  Pc prog 78 [.int .i64 x,.int .i64 n] (· = .int .i64 (x%n)):=by
 refine AbM (AaV func78 rfl ntmps78 hB78 (by simp) fun h ρ w=>goW rfl 200 ?_);have hm:x.tmod n=if 0<=x\/n ∣ x then x%n else x%n-n.natAbs:=by
  rw[Int.tmod_eq_emod]; split <;> simp
 have hlt:=Int.emod_lt_of_pos x (show 0<n by omega);have hge:=Int.emod_nonneg x (show n≠0 by omega);have hna:(n.natAbs:Int)=n:=by omega
 rw[hna]at hm;simp only[go_sem];refine⟨fun _=>by omega,fun _=>⟨by omega,fun h3=>?_,fun h3=>?_⟩⟩
 .refine aret [4] rfl ⟨?_,rfl⟩
  show AV.int .i64 _=_
  rw[hm]at h3 |-
  split at h3
  .omega
  .rw [if_neg (by assumption),show x%n-n+n=x%n by omega]
   exact congrArg _ (IntWalk.i64_in _ ⟨by omega,by omega⟩)
 .refine aret [4] rfl ⟨?_,rfl⟩
  show AV.int .i64 _=_
  rw[hm]at h3 |-
  split at h3
  .rw [if_pos (by assumption)]
  .omega
def str(L:List Int)(at':Int):AV:=.agg [.fz 1 (L.map (.int .i64)),.int .i64 at']
theorem AgH(L:List Int)(k n:Int)(h1:1<=n)(h2:n<=9223372036854775807)(h3:0<=k)(h4:k<=1000000) :
  Mc prog 31 2 (str L k) [.int .i64 n] (fun r s=>(∃ v,r=.int .i64 v/\0<=v/\v<n)/\s=str L (k+1)):=by
 refine AaV func31 rfl ntmps31 hB31 (by simp) fun h ρ w=>goW rfl 200 ?_
 have hw:IntKind.i64.wrap (k+1)=k+1:=IntWalk.i64_in _ ⟨by omega,by omega⟩;have hk:k+1-1=k:=by omega
 have hwk:IntKind.i64.wrap k=k:=IntWalk.i64_in _ ⟨by omega,by omega⟩;have fin:∀ x:Int,0<=x%n/\x%n<n:=fun x=>⟨Int.emod_nonneg x (by omega),Int.emod_lt_of_pos x (by omega)⟩
 simp only[go_sem,str,hw];refine⟨fun h5=>?_,fun h5=>?_⟩
 .refine AcS (AtY _ n h1 h2) rfl rfl rfl (goW rfl 200 ?_)
  simp only[go_sem];exact aret [4] rfl ⟨_,_,rfl,⟨_,rfl,fin _⟩,rfl,rfl,rfl⟩
 .refine zr [] mixed ?_
  simp only[go_sem,hw,hk,hwk];have hm0:0<((List.map (AV.int .i64) L).length:Int):=by omega
  have hmL:((List.map (AV.int .i64) L).length:Int)=L.length:=by simp
  generalize hM:((List.map (AV.int .i64) L).length:Int)=M at *;have d1:0<=k / M:=Int.ediv_nonneg h3 (by omega);have d2:k / M<=k:=Int.ediv_le_self _ h3;have d3:0<=k%M:=Int.emod_nonneg k (by omega);have d4:k%M<M:=Int.emod_lt_of_pos k hm0;have d5:k%M<=k:=by
   have q1:=Int.mul_ediv_add_emod k M;have q2:0<=M*(k / M):=Int.mul_nonneg (by omega) d1;omega
  have d6:0<=k / M*(7919+k%M):=Int.mul_nonneg d1 (by omega);have d7:k / M*(7919+k%M)<=1000000*1007919:=Int.mul_le_mul (by omega) (by omega) (by omega) (by omega);refine⟨by omega,by omega,by omega,by omega,?_⟩;refine goW rfl 200 ?_;simp only[go_sem,hw,hk,hwk,hM];refine zr [] mixed ?_;simp only[go_sem,hw,hk,hwk,hM];refine⟨by omega,by omega,by omega,by omega,by omega,by omega,?_⟩;have hx:∃ x,(List.map (AV.int .i64) L).getD (k%M).toNat .any=.int .i64 x:=by
   have:(k%M).toNat<L.length:=by omega
   exact⟨L[(k%M).toNat],by simp[List.getD,this]⟩
  obtain⟨x,hx⟩:=hx;have f1:0<=x%1073741824:=Int.emod_nonneg x (by omega);have f2:x%1073741824<1073741824:=Int.emod_lt_of_pos x (by omega);refine goW rfl 200 ?_;simp only[go_sem,hw,hk,hwk,hM,hx];refine⟨by omega,by omega,by simp; omega,?_⟩;refine AcS (AtY _ _ (by omega) (by omega)) rfl rfl rfl (goW rfl 200 ?_);simp only[go_sem];refine AcS (AtY _ n h1 h2) rfl rfl rfl (goW rfl 200 ?_);simp only[go_sem];exact aret [4] rfl ⟨_,_,rfl,⟨_,rfl,fin _⟩,rfl,rfl,rfl⟩
theorem AlS(L:List Int)(k:Int)(ls:List (List UInt8))(h1:1<=ls.length)(h2:ls.length<=1000)(h3:0<=k)(h4:k<=1000000) :
  Mc prog 27 2 (str L k) [.fz 1 (ls.map .str)] (fun r s=>(∃ x∈ls,r=.str x)/\s=str L (k+1)):=by
 refine AaV func27 rfl ntmps27 hB27 (by simp) fun h ρ w=>goW rfl 200 ?_
 simp only[go_sem];have hlen:((List.map AV.str ls).length:Int)=ls.length:=by simp
 refine zm 0 (AgH L k _ (by omega) (by omega) h3 h4) ?_;rintro _ _ ⟨⟨v,rfl,hv0,hv1⟩,rfl⟩;refine goW rfl 200 ?_;have hv:v.toNat<ls.length:=by omega
 have hx:(List.map AV.str ls).getD v.toNat .any=.str ls[v.toNat]:=by simp[List.getD,hv]
 simp only[go_sem,hx];refine⟨by omega,by omega,by simpa using hv,?_⟩;exact aret [4] rfl ⟨_,_,rfl,⟨_,List.getElem_mem hv,rfl⟩,rfl,rfl,rfl⟩
def noDbl:List UInt8->Bool
 | a::b::r=>!(a==32&&b==32)&&noDbl (b::r)
 | _=>true
structure TextOk(p:UInt8->Bool)(t:List UInt8):Prop where
 ne:t≠[]
 all:t.all p=true
 dbl:noDbl t=true
 hd:t.head?≠some 32
 lst:t.getLast?≠some 32
theorem AxI:∀ t:List UInt8,noDbl t=true->Lib.index t [32,32]=-1
 | [],_=>rfl
 | [a],_=>by
  have h:([32,32]:List UInt8).isPrefixOf [a]=false:=by simp[List.isPrefixOf]
  simp only[Lib.index,h,if_false,Bool.false_eq_true];rfl
 | a::b::r,h=>by
  simp only[noDbl,Bool.and_eq_true,Bool.not_eq_true']at h;have h1:([32,32]:List UInt8).isPrefixOf (a::b::r)=false:=by
   cases hq:([32,32]:List UInt8).isPrefixOf (a::b::r)with
   | false=>rfl
   | true =>
    simp[List.isPrefixOf]at hq
    obtain⟨rfl,rfl⟩:=hq
    simp at h
  rw[Lib.index];simp only[h1,Bool.false_eq_true,if_false];rw[AxI (b::r) h.2];rfl
theorem BcT{t:List UInt8}(h:t.head?≠some 32):Lib.hasPrefix t [32]=false:=by
 cases t with
 | nil=>rfl
 | cons a r =>
  simp only[Lib.hasPrefix,List.isPrefixOf,Bool.and_true]
  simp at h
  simpa using fun e=>h e.symm
theorem BcU{t:List UInt8}(h:t.getLast?≠some 32):Lib.hasSuffix t [32]=false:=by
 unfold Lib.hasSuffix
 cases hq:([32]:List UInt8).isSuffixOf t with
 | false=>rfl
 | true =>
  rw[List.isSuffixOf_iff_suffix]at hq;obtain⟨r,rfl⟩:=hq
  simp at h
theorem A4O{p:UInt8->Bool}{t:List UInt8}(hp:∀ c,p c=true->okB c=true)(h:TextOk p t):plainL t=true:=by
 have h1:t.all okB=true:=by
  have:=h.all;rw[List.all_eq_true]at this |-;exact fun c hc=>hp c (this c hc)
 simp[plainL,h1,BcT h.hd,BcU h.lst,Lib.contains,AxI t h.dbl]
theorem AeJ:∀ {a b:List UInt8},noDbl a=true->noDbl b=true->a.getLast?≠some 32\/b.head?≠some 32->noDbl (a++b)=true
 | [],b,_,h,_=>h
 | [x],[],_,_,_=>rfl
 | [x],y::b,_,h,e=>by
  simp only[List.cons_append,List.nil_append,noDbl,h,Bool.and_true,Bool.not_eq_true',Bool.and_eq_false_iff]
  rcases e with e|e
  .left; simpa using e
  .right; simpa using e
 | x::y::a,b,h,h',e=>by
  simp only[noDbl,Bool.and_eq_true]at h;have ih:=AeJ (a:=y::a) h.2 h' (by simpa using e);simp only[List.cons_append,noDbl,Bool.and_eq_true]at ih |-;exact⟨h.1,ih⟩
theorem TextOk.join{p:UInt8->Bool}{a b:List UInt8}(hb:p 32=true)(x:TextOk p a)(y:TextOk p b):TextOk p (a++32::b):=by
 refine⟨by simp,?_,?_,?_,?_⟩
 .simp only [List.all_append,List.all_cons,x.all,y.all,hb,Bool.and_self]
 .have h:noDbl (32::b)=true:=by
   have:=AeJ (a:=[32]) (b:=b) rfl y.dbl (.inr y.hd)
   simpa using this
  exact AeJ x.dbl h (.inl x.lst)
 .have:=x.ne
  cases a with
  | nil=>exact(this rfl).elim
  | cons c a=>simpa using x.hd
 .rw [List.getLast?_append]
  have:=y.lst
  cases b with
  | nil=>exact(y.ne rfl).elim
  | cons c b =>
   simp only[List.getLast?_cons_cons]
   cases hq:(c::b).getLast? with
   | none=>simp at hq
   | some z=>rw[hq]at this; simpa using this
theorem TextOk.pre{p q:UInt8->Bool}{a b:List UInt8}(hpq:∀ c,q c=true->p c=true)(ha:a.all p=true)(h1:noDbl a=true)(h2:a.head?≠some 32)(h0:a≠[])(y:TextOk q b):TextOk p (a++b):=by
 refine⟨by simp[h0],?_,AeJ h1 y.dbl (.inr y.hd),?_,?_⟩
 .have:b.all p=true:=by
   have:=y.all;rw[List.all_eq_true]at this |-;exact fun c hc=>hpq c (this c hc)
  simp only[List.all_append,ha,this,Bool.and_self]
 .cases a with
  | nil=>exact(h0 rfl).elim
  | cons c a=>simpa using h2
 .rw [List.getLast?_append]
  have:=y.lst
  cases hq:b.getLast? with
  | none=>exact(y.ne (List.getLast?_eq_none_iff.1 hq)).elim
  | some z=>rw[hq]at this; simpa using this
theorem TextOk.weak{p q:UInt8->Bool}{b:List UInt8}(hpq:∀ c,q c=true->p c=true)(y:TextOk q b):TextOk p b :=
 ⟨y.ne,by have:=y.all; rw[List.all_eq_true]at this |-; exact fun c hc=>hpq c (this c hc),y.dbl,y.hd,y.lst⟩
def textB(p:UInt8->Bool)(t:List UInt8):Bool:=t != []&&(t.all p&&(noDbl t&&(t.head? != some 32&&t.getLast? != some 32)))
theorem AtZ{p:UInt8->Bool}{t:List UInt8}(h:textB p t=true):TextOk p t:=by
 simp only[textB,Bool.and_eq_true,bne_iff_ne,ne_eq]at h;exact⟨h.1,h.2.1,h.2.2.1,h.2.2.2.1,h.2.2.2.2⟩
