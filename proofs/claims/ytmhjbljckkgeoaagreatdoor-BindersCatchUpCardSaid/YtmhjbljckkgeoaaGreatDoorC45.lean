/- Entries of a draft in order, as the reference sorts them: numbers compared where what was. -/
import Derived.Test.YtmhjbljckkgeoaaGreatDoorC44
set_option maxRecDepth 100000
set_option maxHeartbeats 2000000
set_option linter.all false
namespace Go.Proofs.YtmhjbljckkgeoaaGreatDoor
open Av RowKit Proofs.Tryz
def setD(i:Nat):LY:=(List.range 256).map fun k=>AV.bool ((DIG.take i).any fun c=>c.toNat==k)
theorem setD_len(i:Nat):(setD i).length=256:=by simp[setD]
theorem setD_one(i:Nat):(setD i).all Av.one=true:=by grind[setD,Av.one]
theorem setD_take(i:Nat):List.take 256 (setD i)=setD i:=by grind[lae,setD]
theorem BpT(i:Nat)(hi:i<10):DIG.getD i 0=UInt8.ofNat (48+i)/\(DIG.getD i 0).toNat=48+i:=by
 have:∀ i:Fin 10,DIG.getD i.1 0=UInt8.ofNat (48+i.1)/\(DIG.getD i.1 0).toNat=48+i.1:=by decide +kernel
 exact this ⟨i,hi⟩
theorem BnL(i:Nat)(hi:i<10):(setD i).set (48+i) (.bool true)=setD (i+1):=by
 have hd:=BpT i hi;have hl:i<DIG.length:=by simp_all[DIG]
 refine List.ext_getElem (by simp[setD]) fun k h1 h2=>?_
 simp only[List.getElem_set,setD,List.getElem_map,List.getElem_range]
 grind[lad]
theorem BnM(c:UInt8):List.getD (setD 10) c.toNat .any=.bool (digB c):=by
 have hc:=c.toNat_lt;have h:=A4Q (p:=fun c=>digB c==((DIG.take 10).any fun d=>d.toNat==c.toNat)) (by decide +kernel) c
 grind[setD]
theorem tsSet:tsize prog 214=256:=by kernel_rfl
theorem unSet:prog.underlying 214=some (.array 256 4):=by simp_all
theorem zaSet:zav prog 214=setD 0:=by kernel_rfl
theorem BgW(c:UInt8)(r:LU):caps (c::r)=if digB c=true then caps r else c::r:=by
 grind[caps,List.dropWhile_cons]
theorem A6J:∀ (l pre post:LY),putCells (pre++l++post) pre.length l=pre++l++post
 | [],_,_=>rfl
 | v::r,pre,post=>by
  have e:(pre++v::r++post).set pre.length v=(pre++[v])++r++post:=by simp
  have ih:=A6J r (pre++[v]) post;rw[lah]at ih
  show putCells ((pre++v::r++post).set pre.length v) (pre.length+1) r=_
  rw[e];exact ih.trans (by simp)
theorem A6K:∀ (l pre old:LY),old.length=l.length->putCells (pre++old) pre.length l=pre++l
 | [],_,old,h=>by
  have:=lbn h;subst this; rfl
 | v::r,pre,old,h=>by
  match old,h with
  | o::old,h =>
   have e:(pre++o::old).set pre.length v=(pre++[v])++old:=by simp
   have ih:=A6K r (pre++[v]) old (by simpa using h);rw[lah]at ih
   show putCells ((pre++o::old).set pre.length v) (pre.length+1) r=_
   rw[e];exact ih.trans (by simp)
theorem BuM:putCells (setD 0) 0 (setD 10)=setD 10:=A6K (setD 10) [] (setD 0) (by grind[setD_len])
theorem put_all(l:LY):putCells l 0 l=l:=by
 have:=A6J l [] []
 grind
section strict
attribute [local instance] trUp
def BgX:=@A0H trUp
theorem A2T:Pc prog 184 [.str DIG] (· = .tup [.agg (setD 10),.bool true]):=by
 refine AbT (AbE func184 rfl ntmps184 hB184 (by simp) fun h ρ w=>goBU rfl 300 ?_);simp only[go_sem,tsSet,zaSet,unSet,setD_len,setD_one];refine A1D (ι:=Nat) (κ:=Unit) (fun i=>10-i) (fun i=>[(4,.int .i64 i),(2,.ptr 0 1 0 0),(0,.str DIG),(3,.bool false)]) (fun i=>[.arr 256 [.agg (setD i)]]) (fun i=>i<=10)
  (fun _=>[(2,.ptr 0 1 0 0),(0,.str DIG),(3,.bool false)]) (fun _=>[.arr 256 [.agg (setD 10)]]) (fun _=>True) 0 (by omega) ?_ ?_ ?_
 .refine Ls ?_
  simp only[go_sem]
 .rintro - -
  refine goBU rfl 300 ?_;simp only[go_sem,unSet,tsSet,setD_len];rw[setD_take,put_all];refine⟨setD_len 10,setD_one 10,BpD [.cell 2 214,.tmp 3] rfl [.agg (setD 10),.bool true] ⟨?_,rfl,trivial⟩ ⟨rfl,rfl⟩⟩;simp only[go_sem,sideIs,unSet,tsSet,setD_len,setD_take]
 .intro i g1 J Q hJ hQ
  have hdl:DIG.length=10:=rfl
  by_cases gi:i<10
  .have di:decide ((i:Int)<10)=true:=by simp; omega
   obtain⟨d1,d2⟩:=BpT i gi;have hset:=BnL i gi;have hfin:=hJ (i+1) (by omega) (by omega);refine goBU rfl 300 ?_;simp only[go_sem,di,d2,hset,setD_len,hdl,unSet,tsSet];refine⟨by omega,by omega,fun h=>by omega,fun _=>⟨by omega,by omega,by omega,by omega,by omega,?_⟩⟩;rw[ic i];refine AtD hfin (Ls ?_);simp only[go_sem]
  .have hi:i=10:=by omega
   subst hi;have hfin:=hQ () trivial;refine goBU rfl 300 ?_;simp only[go_sem,hdl];refine AtD hfin (Ls ?_);simp only[go_sem]
theorem AlS(c:UInt8):Ct prog 249 [.ptr 0 1 0 0,.int .u8 (c.toNat:Int)] [.arr 256 [.agg (setD 10)]] (fun r s=>r=.bool (digB c)/\s=[.arr 256 [.agg (setD 10)]]):=by
 have hg:=BnM c;have hc:=c.toNat_lt;refine AbE func249 rfl ntmps249 hB249 (by simp) fun h ρ w=>goBU rfl 300 ?_
 simp only[go_sem,hg,setD_len,unSet,tsSet];exact⟨by omega,by omega,by omega,AiC [4] rfl ⟨rfl,rfl⟩⟩
theorem BgY(s:LU)(hs:s.length<1000000):Ct prog 185 [.str s,.ptr 0 1 0 0] [.arr 256 [.agg (setD 10)]] (fun r s'=>r=.str (caps s)/\s'=[.arr 256 [.agg (setD 10)]]):=by
 refine AbE func185 rfl ntmps185 hB185 (by simp) fun h ρ w=>goBU rfl 300 ?_
 simp only[go_sem];refine A1D (ι:=LU) (κ:=Unit) (fun t=>t.length) (fun t=>[(0,.str t),(1,.ptr 0 1 0 0)]) (fun _=>[.arr 256 [.agg (setD 10)]]) (fun t=>caps t=caps s/\t.length<=s.length)
  (fun _=>[(0,.str (caps s))]) (fun _=>[.arr 256 [.agg (setD 10)]]) (fun _=>True) s ⟨rfl,lab _⟩ ?_ ?_ ?_
 .refine Ls ?_
  simp only[go_sem]
 .rintro - -
  refine goBU rfl 300 ?_;simp only[go_sem];exact AiC [4] rfl ⟨rfl,rfl⟩
 .rintro t ⟨g1,g2⟩ J Q hJ hQ
  have hq:=hQ () trivial
  cases t with
  | nil =>
   have e:caps s=[]:=g1.symm;rw[e]at hq;refine goBU rfl 300 ?_;simp only[go_sem];refine AtD hq (Ls ?_);simp only[go_sem]
  | cons c r =>
   have hcc:=BgW c r;have hlr:r.length+1<=s.length:=g2;have h0:(c::r).getD 0 0=c:=rfl;have htk:List.take r.length r=r:=lap
   cases hd:digB c with
   | true =>
    rw[hd,if_pos rfl,g1]at hcc;have hj:=hJ r ⟨hcc.symm,by omega⟩ (by simp);have hct:=AlS c;rw[hd]at hct;refine goBU rfl 300 ?_;simp only[go_sem,h0];refine⟨fun _=>⟨by omega,?_⟩,fun h=>by omega⟩;refine BgX hct rfl rfl ?_;rintro _ _ ⟨rfl,rfl⟩;refine goBU rfl 300 ?_;simp only[go_sem]
    repeat refine aj ?_
    refine AtD hj (Ls ?_);simp only[go_sem,htk]
   | false =>
    rw[hd,if_neg (by simp),g1]at hcc;rw[hcc]at hq;have hct:=AlS c;rw[hd]at hct;refine goBU rfl 300 ?_;simp only[go_sem,h0];refine⟨fun _=>⟨by omega,?_⟩,fun h=>by omega⟩;refine BgX hct rfl rfl ?_;rintro _ _ ⟨rfl,rfl⟩;refine goBU rfl 300 ?_;simp only[go_sem];refine AtD hq (Ls ?_);simp only[go_sem]
theorem AzF(s:LU)(hs:s.length<1000000):Pc prog 127 [.str s,.str DIG] (· = .str (caps s)):=by
 have hdl:DIG.length=10:=rfl;have hdn:(DIG==[])=false:=rfl
 by_cases h0:s=[]
 .subst h0
  have e:caps []=[]:=rfl;rw[e];refine AbT (AbE func127 rfl ntmps127 hB127 (by simp) fun h ρ w=>goBU rfl 300 ?_);simp only[go_sem];exact AiC [4] rfl ⟨rfl,rfl⟩
 .have e0:(s==[])=false:=by simpa using h0
  refine AbT (AbE func127 rfl ntmps127 hB127 (by simp) fun h ρ w=>goBU rfl 300 ?_);simp only[go_sem,e0,hdl,hdn];refine AcJ (A2T) rfl rfl rfl ?_;refine goBU rfl 300 ?_;simp only[go_sem,tsSet,zaSet,unSet,setD_len,setD_one,put_all,setD_take];rw[BuM];refine BgX (BgY s hs) rfl rfl ?_;rintro _ _ ⟨rfl,rfl⟩;refine goBU rfl 300 ?_;simp only[go_sem];exact AiC [4] rfl ⟨rfl,rfl⟩
theorem ArZ(s:LU)(hs:s.length<1000000):Pc prog 75 [.str s] (· = .tup [.str (digs s),.str (caps s)]):=by
 have hl:(digs s).length+(caps s).length=s.length:=by rw[<- lah,<- AbD]
 have htk:List.take (digs s).length s=digs s:=by
  have h:=List.takeWhile_append_dropWhile (p:=digB) (l:=s)
  conv=>lhs; arg 2; rw[<- h]
  exact List.take_left
 have e1:((s.length:Int)-((caps s).length:Int)).toNat=(digs s).length:=by omega
 refine AbT (AbE func75 rfl ntmps75 hB75 (by simp) fun h ρ w=>goBU rfl 300 ?_);simp only[go_sem];refine AcJ (AzF s hs) rfl rfl rfl ?_;refine goBU rfl 300 ?_;simp only[go_sem,e1,htk];refine⟨by omega,by omega,by omega,by omega,?_⟩;refine AiC [2,3] rfl ⟨?_,rfl⟩
 simp[resV,Av.get]
theorem A9B(a b:LU)(ha:numberL a=true)(hb:numberL b=true):Pc prog 31 [.str a,.str b] (· = .int .i64 (compareN a b)):=by
 have h1:=number_okA ha;have h2:=number_okA hb;have hor:=BpE (cmpI (pN a) (pN b)) (Lib.compareBytes (caps a) (caps b));refine AbT (AbE func31 rfl ntmps31 hB31 (by simp) fun h ρ w=>goBU rfl 300 ?_);simp only[go_sem];refine AcJ (ArZ a (by omega)) rfl rfl rfl ?_;refine goBU rfl 300 ?_;simp only[go_sem];refine AcJ (ArZ b (by omega)) rfl rfl rfl ?_;refine goBU rfl 300 ?_;simp only[go_sem];refine AcJ (AtE (digs a) (pN a) h1.1.2 (AdE h1.1)) rfl rfl rfl ?_;refine goBU rfl 300 ?_;simp only[go_sem];refine AcJ (AtE (digs b) (pN b) h2.1.2 (AdE h2.1)) rfl rfl rfl ?_;refine goBU rfl 300 ?_;simp only[go_sem];refine AcJ (AlL (pN a) (pN b)) rfl rfl rfl ?_;refine goBU rfl 300 ?_;simp only[go_sem];refine AcJ (AlK (caps a) (caps b)) rfl rfl rfl ?_;refine goBU rfl 300 ?_;simp only[go_sem];refine AcJ (hor) rfl rfl rfl ?_;refine goBU rfl 300 ?_;simp only[go_sem];exact AiC [4] rfl ⟨rfl,rfl⟩
abbrev En:={ p:LU×List Bl // numberL p.1=true }
def enB(p:En):AV:=enA p.1
theorem A2U(a b:LU)(v u:Value)(ha:numberL a=true)(hb:numberL b=true)(hv:v.oneCell'=true)(hu:u.oneCell'=true):Pc prog 156 [.agg [.str a,.raw v],.agg [.str b,.raw u]] (· = .int .i64 (compareN a b)):=by
 refine AbT (AbE func156 rfl ntmps156 hB156 (by simp) fun h ρ w=>goBU rfl 300 ?_);simp only[go_sem,hv,hu];refine AcJ (A9B a b ha hb) rfl rfl rfl ?_;refine goBU rfl 300 ?_;simp only[go_sem];exact AiC [4] rfl ⟨rfl,rfl⟩
theorem AzG{h:Mem}{ρ:Go.Av.Own}{s:LB}{x:En}{vs:List Value}(r:RL h (Lf ρ s) false vs (cellsOf (enB x))):∃ v,vs=[.string ⟨x.1.1.toArray⟩,v]:=by
 cases r with|cons a0 r =>
 cases r with|cons a1 r =>
 cases r
 have e0:=AbO a0
 simp_all
theorem AuX(h:Mem)(ρ:Go.Av.Own)(s:LB)(x y:En)(vs us:List Value)(r1:RL h (Lf ρ s) false vs (cellsOf (enB x)))(r2:RL h (Lf ρ s) false us (cellsOf (enB y)))(o1:∀ v∈vs,v.oneCell'=true)(o2:∀ v∈us,v.oneCell'=true)(W:World) :
  Calls prog 156 #[.agg vs.toArray,.agg us.toArray] W fun e w'=>e=.returned (.int .i64 (compareN x.1.1 y.1.1)) /\ @Same trUp W w':=by
 obtain⟨v,rfl⟩:=AzG r1;obtain⟨u,rfl⟩:=AzG r2
 simp at o1 o2
 have hp:=A2U x.1.1 y.1.1 v u x.2 y.2 o1.2 o2.2;have hq:=@Pc.calls trUp _ _ _ _ hp W ( [.agg [.string ⟨x.1.1.toArray⟩,v].toArray,.agg [.string ⟨y.1.1.toArray⟩,u].toArray]) fun h=>.cons (.agg _ _ (.cons (.str _) (.cons (.raw _) .nil))) (.cons (.agg _ _ (.cons (.str _) (.cons (.raw _) .nil))) .nil)
 refine Calls.mono hq ?_;rintro e w' ⟨⟨v,h',rfl,rv⟩,hs⟩;refine⟨?_,hs⟩
 cases rv<;>grind
end strict
theorem BuN:Go.Sort.SWO (Go.Proofs.ltOf fun x y:En=>compareN x.1.1 y.1.1):=by
 have e:∀ x y:En,Go.Proofs.ltOf (fun x y:En=>compareN x.1.1 y.1.1) x y=true ↔ nLt x.1.1 y.1.1:=fun x y=>by
  grind[Go.Proofs.ltOf,compareN_lt]
 have e':∀ x y:En,Go.Proofs.ltOf (fun x y:En=>compareN x.1.1 y.1.1) x y=false ↔ ¬ nLt x.1.1 y.1.1:=fun x y=>by
  grind
 refine⟨fun x=>(e' x x).2 (nLt_irrefl _),fun x y z h1 h2=>(e x z).2 (nLt_trans ((e x y).1 h1) ((e y z).1 h2)),fun x y z h1 h2=>(e' x z).2 fun h=>?_⟩<;>grind[nLt_trans,number_eq,AkI]
theorem BgZ{s:LB}{bid:Nat}{l:List En}(hs:s[bid]? = some (.arr 2 (l.map enB)))(hl:l.length<1000000) :
  Ct prog 155 [.sl bid 0 l.length l.length,.fn (.func 156) []] s (fun r s'=>r=.tup []/\∃ l':List En,s'=s.set bid (.arr 2 (l'.map enB))/\l'.Perm l/\l'.Pairwise (fun x y=>¬ nLt y.1.1 x.1.1)):=by
 have h:=BsC Tryz.sortEn Tryz.isAgg190 Tryz.sizeOf190 hB155 enB (by decide) (fun _=>rfl) (fun x y:En=>compareN x.1.1 y.1.1) BuN hB156 AuX hs (by omega);refine⟨h.1,fun hh ρ w vs m r=>(h.2 hh ρ w vs m r).mono ?_⟩<;>simp_all[compareN_lt]
end Go.Proofs.YtmhjbljckkgeoaaGreatDoor
namespace Go.Proofs.YtmhjbljckkgeoaaGreatDoor
open Av RowKit Proofs.Tryz
theorem BhA{S:Std}(hS:LibOk S){a:LU}(ha:a=[]\/numberL a=true):PcH prog S 78 [.str (digs a)] (· = .tup [.int .i64 (pA a),.any]):=by
 by_cases h0:a=[]
 .subst h0
  exact AwK hS
 .have hn:=ha.resolve_left h0
  have hp:pA a=pN a:=if_neg h0;rw[hp];refine⟨hB78,fun h w vs' hg hm hv=>?_⟩;have:=AnH _ h vs' hv;subst this;have hl:=AaM hn;refine(Any.strconv_Atoi Tryz.lays172 ⟨(digs a).toArray⟩ (pN a) (by grind[ByteArray.size]) (AdE (number_okA hn).1) w).mono ?_;rintro e w' ⟨rfl,t,h2⟩;have hs:=h2▸AfA (Lib.bytesWorld_below _ _ _);exact⟨_,_,h,rfl,rfl,fun b o v e=>⟨hs.cell (hm b o v e).1,(hm b o v e).2⟩,fun _ _ _ x=>x,fun b o e n=>(n e).elim,hs,.tup [_,_] [_,_] (.cons (.int _ _) (.cons (.any _) .nil))⟩
theorem BnN{a:LU}(ha:a=[]\/numberL a=true){n:Nat}(hn:n<=5):(candR a n).length<=2/\∀ x∈candR a n,x.length<=100:=by
 have hp:=BrZ ha;have i1:(Lib.itoa (pA a+1)).length<=4:=by
  grind[big_not,itoa_dig3,AsX]
 have i0:(Lib.itoa (pA a)).length<=4:=by
  grind[itoa_dig3,AsX]
 have hl:=AkG n;have hc:(caps a).length<=5:=by
  rcases ha with rfl|ha
  .simp [caps]
  simp_all[AaM]
 grind[above_len,candR]
theorem BhB{p:LU->Bool}{l:List LU}{j:Nat}(hj:j<l.length)(h:(l.take j).all (fun x=>!p x)=true) :
  (p l[j]=true->l.find? p=some l[j])/\(p l[j]=false->(l.take (j+1)).all (fun x=>!p x)=true):=by
 refine⟨fun h1=>?_,fun h1=>?_⟩<;>grind[List.find?_eq_some_iff_append,lbl,lbd]
theorem AgN{S:Std}(hS:LibOk S)(a b:LU)(ha:a=[]\/numberL a=true)(hb:b=[]\/numberL b=true):PcH prog S 108 [.str a,.str b] (· = .tup [.str (AaQ a b),.bool (AaQ a b != [])]):=by
 have hal:a.length<1000000:=by
  rcases ha with rfl|ha
  .simp
  .have:=(number_okA ha).2.1; omega
 have hp:=BrZ ha;have hcl:=BcI a;have hcap:∀ x∈caps a,x.toNat<=90:=by
  rcases ha with rfl|ha
  .intro x hx; simp[caps]at hx
  .exact BoW (AaM ha).2.2.2
 have hc5:(caps a).length<=5:=by
  rcases ha with rfl|ha
  .simp [caps]
  .exact (AaM ha).2.2.1
 refine zqIF func108 rfl fun h ρ w hg=>?_
 simp only[go_sem];refine zpF (AbN a hal) ?_;simp only[go_sem];refine zqF hg (BhA hS ha) ?_;simp only[go_sem];refine AaC (ι:=Nat) (fun n=>6-n) (fun n=>[(10,.int .i64 n),(8,.int .i64 (pA a)),(7,.str (caps a)),(0,.str a),(1,.str b)]) (fun _=>[]) (fun n=>n<=6/\AaQ a b=betR a b (6-n) n) 0 ⟨by omega,(BoY ha hb 6 0 (by omega)).symm⟩ ?_ ?_
 .refine Ls ?_
  simp only[go_sem]
 .rintro n ⟨g1,g2⟩ J hJ
  by_cases gn:n<6
  .have dn:decide ((n:Int)<=5)=true:=by simp; omega
   have hN:=hJ (n+1);clear hJ;obtain⟨hcl2,hcx⟩:=BnN ha (show n<=5 by omega);refine goF rfl 19 ?_;simp only[go_sem,dn];refine acut (ι:=Unit) (fun _=>[(11,.fz 1 ((candR a n).map .str)),(10,.int .i64 n),(8,.int .i64 (pA a)),(7,.str (caps a)),(0,.str a),(1,.str b)]) (fun _=>[]) (fun _=>True) ?_ ?_
   .intro J2 hJ2
    have hfin:=hJ2 () trivial;clear hJ2
    by_cases hn0:n=0
    .have d0:((n:Int)==0)=true:=by simp[hn0]
     rw[show candR a n=[Lib.itoa (pA a+1)] by rw[candR,if_pos hn0]]at hfin hcx;apply zgF;simp only[go_sem,d0]
     repeat refine aqb ?_
     refine zqF hg (AeN hS (pA a+1) (by omega) (by omega)) ?_;simp only[go_sem]
     repeat refine aqb ?_
     refine ainv hfin (Shift.trans (Shift.freeze 11 (id:=0) rfl rfl (by simp) (lab _) (AaD [_])) (Shift.low 0 (by simp) (by simp) rfl (by simp only[go_sem])))
    .have d0:((n:Int)==0)=false:=by simp; omega
     have hlow:(aboveL [] n != [])=true:=by
      have e:aboveL [] n=lowestL n:=by unfold aboveL; rw[if_pos (by simp; omega)]; simp
      have:=lowest_ne (n:=n);rw[e]; simpa using this
     have elow:aboveL [] n=lowestL n:=by unfold aboveL; rw[if_pos (by simp; omega)]; simp
     have hc2:=AkV [] n (by omega) (by omega) (by simp) (by simp);rw[hlow,elow]at hc2
     by_cases hab:aboveL (caps a) n=[]
     .have dab:(aboveL (caps a) n != [])=false:=by simp[hab]
      rw[show candR a n=[Lib.itoa (pA a+1)++lowestL n] by rw[candR,if_neg hn0,if_neg (by simpa using hab)]; rfl]at hfin hcx;have hx:=hcx _ (List.mem_singleton.2 rfl);simp only[lah]at hx;apply zgF;simp only[go_sem,d0];refine zpF (AkV (caps a) n (by omega) (by omega) (by omega) hcap) ?_;simp only[go_sem,dab];refine zpF (hc2) ?_;simp only[go_sem]
      repeat refine aqb ?_
      refine zqF hg (AeN hS (pA a+1) (by omega) (by omega)) ?_;simp only[go_sem]
      repeat refine aqb ?_
      refine ainv hfin (Shift.trans (Shift.freeze 11 (id:=0) rfl rfl (by simp) (lab _) (AaD [_])) (Shift.low 0 (by simp) (by simp) rfl (by simp only[go_sem])))
     .have dab:(aboveL (caps a) n != [])=true:=by simp[hab]
      rw[show candR a n=[Lib.itoa (pA a)++aboveL (caps a) n,Lib.itoa (pA a+1)++lowestL n] by rw[candR,if_neg hn0,if_pos hab]; rfl]at hfin hcx;have hx:=hcx _ (List.mem_cons_self ..);have hy:=hcx _ (List.mem_cons_of_mem _ (List.mem_cons_self ..));simp only[lah]at hx hy;apply zgF;simp only[go_sem,d0];refine zpF (AkV (caps a) n (by omega) (by omega) (by omega) hcap) ?_;simp only[go_sem,dab]
      repeat refine aqb ?_
      refine zqF hg (AeN hS (pA a) (by omega) (by omega)) ?_;simp only[go_sem]
      repeat refine aqb ?_
      refine zpF (hc2) ?_;simp only[go_sem]
      repeat refine aqb ?_
      refine zqF hg (AeN hS (pA a+1) (by omega) (by omega)) ?_;simp only[go_sem]
      repeat refine aqb ?_
      refine ainv hfin (Shift.trans (Shift.freeze 11 (id:=0) rfl rfl (by simp) (lab _) (AaD [_,_])) (Shift.low 0 (by simp) (by simp) rfl (by simp only[go_sem])))
   .rintro - -
    have hstop:(candR a n).find? (fitR b)=none->AaQ a b=betR a b (6-(n+1)) (n+1):=fun e=>by
     rw[g2,show 6-n=(6-(n+1))+1 by omega,betR,e]
    have hgot:∀ x,(candR a n).find? (fitR b)=some x->AaQ a b=x:=fun x e=>by
     rw[g2,show 6-n=(6-(n+1))+1 by omega,betR,e]
    generalize candR a n=cs at *;apply zgF;simp only[go_sem,laa];refine AaC (ι:=Nat) (fun j=>cs.length-j) (fun j=>[(70,.int .i64 j),(69,.int .i64 cs.length),(68,.fz 1 (cs.map .str)),(10,.int .i64 n),(8,.int .i64 (pA a)),(7,.str (caps a)),(0,.str a),(1,.str b)]) (fun _=>[]) (fun j=>j<=cs.length/\(cs.take j).all (fun x=>!fitR b x)=true) 0 ⟨by omega,by simp⟩ ?_ ?_
    .refine Ls ?_
     simp only[go_sem]
    .rintro j ⟨k1,k2⟩ J2 hJ2
     by_cases gj:j<cs.length
     .have dj:decide ((j:Int)<(cs.length:Int))=true:=by simp; omega
      have hg':List.getD (cs.map AV.str) j .any=.str cs[j]:=by simp[List.getD,gj]
      have hxl:=hcx cs[j] (lac gj);obtain⟨f1,f2⟩:=BhB gj k2;have hagain:=fun e=>hJ2 (j+1) ⟨by omega,f2 e⟩ (by omega)
      have hyes:=fun e=>hgot _ (f1 e)
      clear hJ2 f1 f2;generalize cs[j]=x at *;unfold fitR at hagain hyes
      cases d1:numberL x with
      | false =>
       have hJ3:=hagain (by rw[d1]; rfl);apply zgF;simp only[go_sem,dj,hg',laa]
       repeat refine aqb ?_
       refine zpF (AcD x (by omega)) ?_;simp only[go_sem,d1]
       repeat refine aqb ?_
       rw[ic j];refine ainv hJ3 (Ls ?_);simp only[go_sem]
      | true =>
       have hxne:(x != [])=true:=by
        have:x≠[]:=fun e=>by subst e; exact absurd d1 (by decide)
        simpa using this
       by_cases hb0:b=[]
       .have db:(b==[])=true:=by simp[hb0]
        have e:=hyes (by rw[d1,db]; rfl);rw[e];apply zgF;simp only[go_sem,dj,hg',laa]
        repeat refine aqb ?_
        refine zpF (AcD x (by omega)) ?_;simp only[go_sem,d1,db];rw[hxne];exact zt [4,5]
       .have db:(b==[])=false:=by simp[hb0]
        have hbn:=hb.resolve_left hb0
        cases d2:decide (compareN x b<0)with
        | true =>
         have e:=hyes (by rw[d1,db,d2]; rfl);rw[e];apply zgF;simp only[go_sem,dj,hg',laa]
         repeat refine aqb ?_
         refine zpF (AcD x (by omega)) ?_;simp only[go_sem,d1,db];refine zpF (AeG x b d1 hbn) ?_;simp only[go_sem,d1,db,d2];rw[hxne];exact zt [4,5]
        | false =>
         have hJ3:=hagain (by rw[d1,db,d2]; rfl);apply zgF;simp only[go_sem,dj,hg',laa]
         repeat refine aqb ?_
         refine zpF (AcD x (by omega)) ?_;simp only[go_sem,d1,db];refine zpF (AeG x b d1 hbn) ?_;simp only[go_sem,d1,db,d2]
         repeat refine aqb ?_
         rw[ic j];refine ainv hJ3 (Ls ?_);simp only[go_sem]
     .have dj:decide ((j:Int)<(cs.length:Int))=false:=by simp; omega
      have hj:j=cs.length:=by omega
      rw[hj,lap]at k2;have hN2:=hN ⟨by omega,hstop (by
       rw[List.find?_eq_none];intro x hx
       simpa using List.all_eq_true.1 k2 x hx)⟩ (by omega)
      apply zgF;simp only[go_sem,dj]
      repeat refine aqb ?_
      rw[ic n];refine ainv hN2 (Ls ?_);simp only[go_sem]
  .have dn:decide ((n:Int)<=5)=false:=by simp; omega
   have e:betR a b (6-n) n=[]:=by rw[show 6-n=0 by omega]; rfl
   rw[g2,e];apply zgF;simp only[go_sem,dn];exact zt [4,5]
theorem AgO{St:Std}(hS:LibOk St)(s:LU)(hl:s.length<1000000):PcH prog St 29 [.str s] (· = .tup [.str (endsL s).1,.str (endsL s).2]):=by
 have hc:=AnA hS s [45] (by omega);have he:(Lib.cut s [45]).2.2=false->(Lib.cut s [45]).1=s:=by
  unfold Lib.cut
  split <;> simp
 unfold endsL;generalize Lib.cut s [45]=c at hc he |-;obtain⟨a,b,ok⟩:=c;simp only at hc he |-;refine zqIB func29 rfl fun h ρ w hg=>?_
 simp only[go_sem];refine zqB hg (hc) ?_
 cases ok with
 | true =>
  simp only[go_sem];exact zt [2,3]
 | false =>
  rw[he rfl]at hc |-;simp only[go_sem];exact zt [2,3]
theorem AjV(l:List LU)(hl:l.length<1000000)(hs:∀ n∈l,n.length<1000000):Pc prog 103 [.fz 1 (l.map .str)] (fun r=>∃ n:Int,r=.int .i64 n/\(n=0 ↔ (∀ n∈l,numberL n=true)/\∀ i,(h:i+1<l.length)->nLt l[i] l[i+1])):=by
 refine zpIB func103 rfl fun h ρ w=>?_
 simp only[go_sem,laa];refine AaC (ι:=Nat) (fun i=>l.length-i) (fun i=>[(7,.int .i64 i),(6,.int .i64 l.length),(5,.fz 1 (l.map .str)),(0,.fz 1 (l.map .str))]) (fun _=>[])
  (fun i=>i<=l.length/\(∀ j,(h:j<l.length)->j<i->numberL l[j]=true)/\∀ j,(h:j+1<l.length)->j+1<i->nLt l[j] l[j+1]) 0 (by simp) ?_ ?_
 .refine Ls ?_
  simp only[go_sem]
 .rintro i ⟨g1,g2,g3⟩ J hJ
  by_cases gi:i<l.length
  .have di:decide ((i:Int)<(l.length:Int))=true:=by simp; omega
   have hg':List.getD (l.map AV.str) i .any=.str l[i]:=by simp[List.getD,gi]
   have hnb:=AcD l[i] (hs _ (lac gi))
   cases d1:numberL l[i]with
   | false =>
    rw[d1]at hnb;apply zgB;simp only[go_sem,di,hg',laa]
    repeat refine aqb ?_
    refine zpB (hnb) ?_;simp only[go_sem];refine aret [2] rfl ⟨⟨5,rfl,fun h=>absurd h (by decide),fun h=>?_⟩,rfl⟩;rw[h.1 _ (lac gi)]at d1; cases d1
   | true =>
    rw[d1]at hnb;have g2':∀ j,(h:j<l.length)->j<i+1->numberL l[j]=true:=fun j h hj=>by
     by_cases e:j=i
     .subst e; exact d1
     .exact g2 j h (by omega)
    by_cases hi0:i=0
    .have dz:decide ((i:Int)>0)=false:=by simp; omega
     have hfin:=hJ (i+1) ⟨by omega,g2',fun j h hj=>by omega⟩ (by omega);apply zgB;simp only[go_sem,di,hg',laa]
     repeat refine aqb ?_
     refine zpB (hnb) ?_;simp only[go_sem,dz]
     repeat refine aqb ?_
     rw[ic i];refine ainv hfin (Ls ?_);simp only[go_sem]
    .have dz:decide ((i:Int)>0)=true:=by simp; omega
     have e1:((i:Int)-1).toNat=i-1:=by omega
     have hi1:i-1<l.length:=by omega
     have hg2:List.getD (l.map AV.str) (i-1) .any=.str l[i-1]:=by simp[List.getD,hi1]
     have hor:=AeG l[i-1] l[i] (g2 _ hi1 (by omega)) d1;have ej:i-1+1=i:=by omega
     cases d2:decide (compareN l[i-1] l[i]>=0)with
     | true =>
      have hno:¬ ∀ i,(h:i+1<l.length)->nLt l[i] l[i+1]:=fun h=>by
       have:=h (i-1) (by omega);simp only[ej]at this;have:=compareN_lt.2 this;rw[laj]at d2;omega
      apply zgB;simp only[go_sem,di,hg',laa]
      repeat refine aqb ?_
      refine zpB (hnb) ?_;simp only[go_sem,dz,e1,hg2,laa]
      repeat refine aqb ?_
      refine zpB (hor) ?_;simp only[go_sem,d2];exact aret [2] rfl ⟨⟨7,rfl,fun h=>absurd h (by decide),fun h=>absurd h.2 hno⟩,rfl⟩
     | false =>
      have hfin:=hJ (i+1) ⟨by omega,g2',fun j h hj=>by
       by_cases e:j+1=i
       .have:nLt l[i-1] l[i]:=compareN_lt.1 (by rw[lai]at d2; omega)
        have ej2:j=i-1:=by omega
        subst ej2;simp only[ej];exact this
       .exact g3 j h (by omega)⟩ (by omega)
      apply zgB;simp only[go_sem,di,hg',laa]
      repeat refine aqb ?_
      refine zpB (hnb) ?_;simp only[go_sem,dz,e1,hg2,laa]
      repeat refine aqb ?_
      refine zpB (hor) ?_;simp only[go_sem,d2]
      repeat refine aqb ?_
      rw[ic i];refine ainv hfin (Ls ?_);simp only[go_sem]
  .have di:decide ((i:Int)<(l.length:Int))=false:=by simp; omega
   have hi:i=l.length:=by omega
   subst hi;apply zgB;simp only[go_sem,di];exact aret [2] rfl ⟨⟨0,rfl,fun _=>⟨fun n hn=>by
    obtain⟨j,hj,rfl⟩:=List.getElem_of_mem hn;exact g2 j hj hj,fun j h=>g3 j h h⟩,fun _=>rfl⟩,rfl⟩
theorem AzH(s:LU)(hs:s.length<10000000):Pc prog 32 [.str s] (· = .bool (s.all plainC)):=by
 refine zpIB func32 rfl fun h ρ w=>?_
 simp only[go_sem];refine AaC (ι:=Nat) (fun j=>s.length-j) (fun j=>[(3,.int .i64 j),(0,.str s)]) (fun _=>[]) (fun j=>j<=s.length/\(s.take j).all plainC=true) 0 (by simp) ?_ ?_
 .refine Ls ?_
  simp only[go_sem]
 .rintro j ⟨k1,k2⟩ J hJ
  by_cases gj:j<s.length
  .have dj:decide ((j:Int)<(s.length:Int))=true:=by simp; omega
   have hgd:s.getD j 0=s[j]:=by simp[List.getD,gj]
   have bad:plainC s[j]=false->s.all plainC=false:=fun h=>by
    rw[List.all_eq_false];exact⟨_,lac gj,by simp[h]⟩
   cases c1:decide ((s[j].toNat:Int)<32)with
   | true =>
    rw[bad (by simp only[plainC,c1]; rfl)];apply zgB;simp only[go_sem,dj,hgd,c1]
    repeat refine aqb ?_
    exact zt [2]
   | false =>
    cases c2:decide ((s[j].toNat:Int)>126)with
    | true =>
     rw[bad (by simp only[plainC,c1,c2]; rfl)];apply zgB;simp only[go_sem,dj,hgd,c1,c2]
     repeat refine aqb ?_
     exact zt [2]
    | false =>
     have hfin:=hJ (j+1) ⟨by omega,AaK gj k2 (plainC_val.2 ⟨c1,c2⟩)⟩ (by omega);apply zgB;simp only[go_sem,dj,hgd,c1,c2]
     repeat refine aqb ?_
     rw[ic j];refine ainv hfin (Ls ?_);simp only[go_sem]
  .have dj:decide ((j:Int)<(s.length:Int))=false:=by simp; omega
   have hj:j=s.length:=by omega
   rw[hj,lap]at k2;rw[k2];apply zgB;simp only[go_sem,dj];exact zt [2]
