/- Somebody's part of a scene. -/
import Derived.Test.YtccfklnmolggiaaGreatDoorZ22
set_option maxRecDepth 100000
set_option maxHeartbeats 4000000
set_option linter.all false
namespace Go.Proofs.YtccfklnmolggiaaGreatDoor
open Av RowKit Proofs.Tryz
theorem AsZ:∀ (l:LU)(s:Wst),(l.foldl wstep s).out.length<=s.out.length+l.length
 | [],s=>by simp
 | c::l,s=>by
  have ih:=AsZ l (wstep s c);have:(wstep s c).out.length<=s.out.length+1:=by
   unfold wstep
   split
   .simp
   .split
    .simp
    .simp only; split <;> simp
  simp only[List.foldl_cons,laf];omega
theorem AnR(t:LU):(wordsL t).length<=t.length+1:=by
 have:=AsZ (t++[32]) ⟨false,[],[]⟩
 simpa[wordsL]using this
def GOk(n i:Nat)(out:List (Nat×Nat)):Prop:=i<=n/\∀ g∈out,g.1<g.2/\g.2<=i
theorem BbW{n i:Nat}{out:List (Nat×Nat)}{p:Pa}(h:GOk n i out)(hi:i<n):GOk n (i+1) (gstep out i p):=by
 refine⟨by omega,fun g hg=>?_⟩;unfold gstep at hg
 split at hg
 .by_cases hl:out.length=0
  .grind
  .rcases List.mem_or_eq_of_mem_set hg with h1|h1
   .have:=h.2 g h1; omega
   .have hm:out.getD (out.length-1) (0,0)∈out:=by
     grind
    have:=h.2 _ hm
    grind
 .rcases List.mem_append.1 hg with h1|h1
  .have:=h.2 g h1; omega
  grind
theorem AzE{n:Nat}:∀ {ps:List Pa}{i:Nat}{out:List (Nat×Nat)},GOk n i out->i+ps.length=n->GOk n n (gfold out i ps)
 | [],i,out,h,hn=>by
  subst hn; exact h
 | p::r,i,out,h,hn=>by
  simp at hn
  show GOk n n (gfold (gstep out i p) (i+1) r)
  exact AzE (BbW h (by omega)) (by omega)
theorem AtA(ps:List Pa):∀ g∈groupsL ps,g.1<g.2/\g.2<=ps.length :=
 (AzE ⟨by omega,by simp⟩ (by omega)).2
theorem AtB:∀ (ps:List Pa)(i:Nat)(out:List (Nat×Nat)),(gfold out i ps).length<=out.length+ps.length
 | [],_,_=>by simp[gfold]
 | p::r,i,out=>by
  have:=AtB r (i+1) (gstep out i p);have h2:=AsX out i p;simp only[gfold,laf];omega
theorem AnS(ps:List Pa):(groupsL ps).length<=ps.length:=by simpa[groupsL]using AtB ps 0 []
def pNo:Pa:=⟨0,[]⟩
def A6C(p:Pa)(name:LU):Bool:=p.kind==2&&p.text==name
def headP(ps:List Pa)(gs:List (Nat×Nat))(k:Nat):Pa:=ps.getD (gs.getD k (0,0)).1 pNo
def ownB(ps:List Pa)(name:LU)(ws:List LU)(gs:List (Nat×Nat))(k:Nat):Bool :=
 A6C (headP ps gs k) name||(((headP ps gs k).kind==2&&(decide (k+1<gs.length)&&A6C (headP ps gs (k+1)) name)) ||
  ((headP ps gs k).kind != 2&&(decide (0<ws.length)&&decide (0<(foundL (wordsL (headP ps gs k).text) ws).length))))
def cutP(ps:List Pa)(g:Nat×Nat):List Pa:=(ps.take g.2).drop g.1
def partTo(ps:List Pa)(name:LU)(ws:List LU)(gs:List (Nat×Nat)):Nat->List Pa
 | 0=>[]
 | k+1=>partTo ps name ws gs k++(if ownB ps name ws gs k then cutP ps (gs.getD k (0,0)) else[])
def partL(ps:List Pa)(name:LU):List Pa:=partTo ps name (wordsL name) (groupsL ps) (groupsL ps).length
theorem AiK(ps:List Pa)(name:LU)(ws:List LU)(gs:List (Nat×Nat)):∀ k,(partTo ps name ws gs k).length<=k*ps.length
 | 0=>by simp[partTo]
 | k+1=>by
  have:=AiK ps name ws gs k;have h2:(if ownB ps name ws gs k then cutP ps (gs.getD k (0,0)) else[]).length<=ps.length:=by
   split
   .simp [cutP]; omega
   .simp
  rw[partTo,lak,Nat.succ_mul];omega
theorem BbX(ps:List Pa)(name:LU)(hl:ps.length<=10000)(ht:∀ p∈ps,p.text.length<=2000)(hn:name.length<=2000)(h0:∀ p,ps.head? = some p->joins p=false):Ct prog 27 [.fz 2 (ps.map paA),.str name] [] (fun r s=>r=.sl 0 0 (partL ps name).length (partL ps name).length/\s=[.arr 2 ((partL ps name).map paA)]):=by
 refine zcIF func27 rfl fun h ρ w=>?_
 simp only[go_sem];refine zpF (A6B ps (by omega) h0) ?_;simp only[go_sem];refine zpF (AyZ name (by omega)) ?_;simp only[go_sem];have hgl:=AnS ps;have hgo:=AtA ps;have hwl:=AnR name;have hfin:partL ps name=partTo ps name (wordsL name) (groupsL ps) (groupsL ps).length:=rfl;generalize groupsL ps=gs at *;generalize wordsL name=ws at *;refine AaI (ι:=Nat) (fun i=>gs.length-i)
  (fun i=>[(20,.int .i64 i),(19,.int .i64 gs.length),(18,.fz 2 (gs.map gA)),(7,.fz 1 (ws.map .str)),(6,.fz 2 (gs.map gA)),(5,.sl 0 0 (partTo ps name ws gs i).length (partTo ps name ws gs i).length),(1,.str name),(0,.fz 2 (ps.map paA))])
  (fun i=>[.arr 2 ((partTo ps name ws gs i).map paA)]) (fun i=>i<=gs.length) 0 (by simp) ?_ ?_
 .refine Shift.trans (Ll 5 2 rfl) (Lo ?_)
  simp only[go_sem,partTo,laa]
 .intro i g1 J hJ
  by_cases gi:i<gs.length
  .have di:decide ((i:Int)<(gs.length:Int))=true:=by simp; omega
   have hgi:=hgo gs[i] (lai gi);have hgd:gs.getD i (0,0)=gs[i]:=by simp[List.getD,gi]
   have hgA:List.getD (List.map gA gs) i .any=.agg [.int .i64 gs[i].1,.int .i64 gs[i].2]:=by simp[List.getD,gi,gA]
   have hp1:gs[i].1<ps.length:=by omega
   have hhd:headP ps gs i=ps[gs[i].1]:=by rw[headP,hgd]; simp[List.getD,hp1]
   have hpA:List.getD (List.map paA ps) gs[i].1 .any=.agg [.int .i64 ps[gs[i].1].kind,.str ps[gs[i].1].text]:=by simp[List.getD,hp1,paA]
   have hsu:partTo ps name ws gs (i+1)=partTo ps name ws gs i++(if ownB ps name ws gs i then cutP ps gs[i] else[]):=by rw[partTo,hgd]
   have hpl:=AiK ps name ws gs i;unfold ownB A6C at hsu;rw[hhd]at hsu;have htx:=ht ps[gs[i].1] (lai hp1);generalize ps[gs[i].1]=p at *;generalize gs[i]=g at *;obtain⟨a,b⟩:=g
   dsimp only at *
   have eqp:AbR prog 73=true:=by kernel_rfl
   have hcut:List.drop a (List.take b (List.map paA ps))=List.map paA (cutP ps (a,b)):=by simp[cutP,List.map_take,List.map_drop]
   have hcl:(cutP ps (a,b)).length<=ps.length:=by simp[cutP]; omega
   have hb2:i*ps.length<=10000*10000:=Nat.mul_le_mul (by omega) hl;have fin:=hJ (i+1) (by omega) (by omega)
   by_cases k2:p.kind=2
   .have q2:(p.kind==2)=true:=by simp[k2]
    have q2':(p.kind != 2)=false:=by simp[k2]
    cases q1:(p.text==name)with
    | true =>
     by_cases hk:i+1<gs.length
     .have dk:decide ((i:Int)+1<(gs.length:Int))=true:=by simp; omega
      have hgj:=hgo gs[i+1] (lai hk);have hgdj:gs.getD (i+1) (0,0)=gs[i+1]:=by simp[List.getD,hk]
      have hgB:List.getD (List.map gA gs) ((i:Int)+1).toNat .any=.agg [.int .i64 gs[i+1].1,.int .i64 gs[i+1].2]:=by
       rw[show((i:Int)+1).toNat=i+1 by omega]
       simp[List.getD,hk,gA]
      have hp2:gs[i+1].1<ps.length:=by omega
      have hh2:headP ps gs (i+1)=ps[gs[i+1].1]:=by rw[headP,hgdj]; simp[List.getD,hp2]
      have hpB:List.getD (List.map paA ps) gs[i+1].1 .any=.agg [.int .i64 ps[gs[i+1].1].kind,.str ps[gs[i+1].1].text]:=by simp[List.getD,hp2,paA]
      rw[hh2]at hsu;generalize ps[gs[i+1].1]=p2 at *;generalize gs[i+1]=g2 at *;obtain⟨a2,b2⟩:=g2
      dsimp only at *
      apply zgF;simp only[go_sem,laa,di,hgA,hpA,q2,q2',hcut,q1,dk,hgB,hpB];have hs:partTo ps name ws gs (i+1)=partTo ps name ws gs i++cutP ps (a,b):=by rw[hsu,if_pos (by simp[q2,q1])]
      repeat refine And.intro (by first|omega|exact .inl trivial|exact eqp|(simp; done)|(simp; omega)) ?_
      rw[<- lap,<- hs,show(partTo ps name ws gs i).length+(cutP ps (a,b)).length=(partTo ps name ws gs (i+1)).length by rw[hs,lak],show(i:Int)+1=((i+1:Nat):Int) by omega];refine ainv fin (Shift.low 1 (by simp) (by simp) ?_ ?_)
      .have:=AaD (n:=1) (AaG (partTo ps name ws gs (i+1)))
       simp only[go_sem,lowB,this]
      .simp only [go_sem]
     .have dk:decide ((i:Int)+1<(gs.length:Int))=false:=by simp; omega
      apply zgF;simp only[go_sem,laa,di,hgA,hpA,q2,q2',hcut,q1,dk];have hs:partTo ps name ws gs (i+1)=partTo ps name ws gs i++cutP ps (a,b):=by rw[hsu,if_pos (by simp[q2,q1])]
      repeat refine And.intro (by first|omega|exact .inl trivial|exact eqp|(simp; done)|(simp; omega)) ?_
      rw[<- lap,<- hs,show(partTo ps name ws gs i).length+(cutP ps (a,b)).length=(partTo ps name ws gs (i+1)).length by rw[hs,lak],show(i:Int)+1=((i+1:Nat):Int) by omega];refine ainv fin (Shift.low 1 (by simp) (by simp) ?_ ?_)
      .have:=AaD (n:=1) (AaG (partTo ps name ws gs (i+1)))
       simp only[go_sem,lowB,this]
      .simp only [go_sem]
    | false =>
     by_cases hk:i+1<gs.length
     .have dk:decide ((i:Int)+1<(gs.length:Int))=true:=by simp; omega
      have hgj:=hgo gs[i+1] (lai hk);have hgdj:gs.getD (i+1) (0,0)=gs[i+1]:=by simp[List.getD,hk]
      have hgB:List.getD (List.map gA gs) ((i:Int)+1).toNat .any=.agg [.int .i64 gs[i+1].1,.int .i64 gs[i+1].2]:=by
       rw[show((i:Int)+1).toNat=i+1 by omega]
       simp[List.getD,hk,gA]
      have hp2:gs[i+1].1<ps.length:=by omega
      have hh2:headP ps gs (i+1)=ps[gs[i+1].1]:=by rw[headP,hgdj]; simp[List.getD,hp2]
      have hpB:List.getD (List.map paA ps) gs[i+1].1 .any=.agg [.int .i64 ps[gs[i+1].1].kind,.str ps[gs[i+1].1].text]:=by simp[List.getD,hp2,paA]
      rw[hh2]at hsu;generalize ps[gs[i+1].1]=p2 at *;generalize gs[i+1]=g2 at *;obtain⟨a2,b2⟩:=g2
      dsimp only at *
      cases e3:p2.kind==2 with
      | true =>
       cases e4:p2.text==name with
       | true =>
        apply zgF;simp only[go_sem,laa,di,hgA,hpA,q2,q2',hcut,q1,dk,hgB,hpB,e3,e4];have hs:partTo ps name ws gs (i+1)=partTo ps name ws gs i++cutP ps (a,b):=by rw[hsu,if_pos (by simp[q2,hk,e3,e4])]
        repeat refine And.intro (by first|omega|exact .inl trivial|exact eqp|(simp; done)|(simp; omega)) ?_
        rw[<- lap,<- hs,show(partTo ps name ws gs i).length+(cutP ps (a,b)).length=(partTo ps name ws gs (i+1)).length by rw[hs,lak],show(i:Int)+1=((i+1:Nat):Int) by omega];refine ainv fin (Shift.low 1 (by simp) (by simp) ?_ ?_)
        .have:=AaD (n:=1) (AaG (partTo ps name ws gs (i+1)))
         simp only[go_sem,lowB,this]
        .simp only [go_sem]
       | false =>
        apply zgF;simp only[go_sem,laa,di,hgA,hpA,q2,q2',hcut,q1,dk,hgB,hpB,e3,e4];have hs:partTo ps name ws gs (i+1)=partTo ps name ws gs i:=by rw[hsu,if_neg (by simp[q2,q2',q1,hk,e3,e4]),lbg]
        repeat refine And.intro (by first|omega|exact .inl trivial|exact eqp|(simp; done)|(simp; omega)) ?_
        rw[<- hs,show(i:Int)+1=((i+1:Nat):Int) by omega];refine ainv fin (Shift.low 1 (by simp) (by simp) ?_ ?_)
        .have:=AaD (n:=1) (AaG (partTo ps name ws gs (i+1)))
         simp only[go_sem,lowB,this]
        .simp only [go_sem]
      | false =>
       apply zgF;simp only[go_sem,laa,di,hgA,hpA,q2,q2',hcut,q1,dk,hgB,hpB,e3];have hs:partTo ps name ws gs (i+1)=partTo ps name ws gs i:=by rw[hsu,if_neg (by simp[q2,q2',q1,hk,e3]),lbg]
       repeat refine And.intro (by first|omega|exact .inl trivial|exact eqp|(simp; done)|(simp; omega)) ?_
       rw[<- hs,show(i:Int)+1=((i+1:Nat):Int) by omega];refine ainv fin (Shift.low 1 (by simp) (by simp) ?_ ?_)
       .have:=AaD (n:=1) (AaG (partTo ps name ws gs (i+1)))
        simp only[go_sem,lowB,this]
       .simp only [go_sem]
     .have dk:decide ((i:Int)+1<(gs.length:Int))=false:=by simp; omega
      apply zgF;simp only[go_sem,laa,di,hgA,hpA,q2,q2',hcut,q1,dk];have hs:partTo ps name ws gs (i+1)=partTo ps name ws gs i:=by rw[hsu,if_neg (by simp[q2,q2',q1,hk]),lbg]
      repeat refine And.intro (by first|omega|exact .inl trivial|exact eqp|(simp; done)|(simp; omega)) ?_
      rw[<- hs,show(i:Int)+1=((i+1:Nat):Int) by omega];refine ainv fin (Shift.low 1 (by simp) (by simp) ?_ ?_)
      .have:=AaD (n:=1) (AaG (partTo ps name ws gs (i+1)))
       simp only[go_sem,lowB,this]
      .simp only [go_sem]
   .have q2:(p.kind==2)=false:=by simp[k2]
    have q2':(p.kind != 2)=true:=by simp[k2]
    by_cases hw:0<ws.length
    .have dw:decide ((ws.length:Int)>0)=true:=by simp; omega
     apply zgF;simp only[go_sem,laa,di,hgA,hpA,q2,q2',hcut,dw]
     repeat refine And.intro (by first|omega|exact .inl trivial|exact eqp|(simp; done)|(simp; omega)) ?_
     refine zpF (AyZ p.text (by omega)) ?_;have hwp:=AnR p.text;simp only[go_sem,laa,di,hgA,hpA,q2,q2',hcut,dw];refine zpF (BbV (wordsL p.text) ws (by omega) (by omega)) ?_
     by_cases hf:0<(foundL (wordsL p.text) ws).length
     .have df:decide (((foundL (wordsL p.text) ws).length:Int)>0)=true:=by simp; omega
      simp only[go_sem,laa,di,hgA,hpA,q2,q2',hcut,dw,df];have hs:partTo ps name ws gs (i+1)=partTo ps name ws gs i++cutP ps (a,b):=by rw[hsu,if_pos (by simp[q2',hw,hf])]
      repeat refine And.intro (by first|omega|exact .inl trivial|exact eqp|(simp; done)|(simp; omega)) ?_
      rw[<- lap,<- hs,show(partTo ps name ws gs i).length+(cutP ps (a,b)).length=(partTo ps name ws gs (i+1)).length by rw[hs,lak],show(i:Int)+1=((i+1:Nat):Int) by omega];refine ainv fin (Shift.low 1 (by simp) (by simp) ?_ ?_)
      .have:=AaD (n:=1) (AaG (partTo ps name ws gs (i+1)))
       simp only[go_sem,lowB,this]
      .simp only [go_sem]
     .have df:decide (((foundL (wordsL p.text) ws).length:Int)>0)=false:=decide_eq_false (by omega)
      simp only[go_sem,laa,di,hgA,hpA,q2,q2',hcut,dw,df];have hs:partTo ps name ws gs (i+1)=partTo ps name ws gs i:=by rw[hsu,if_neg (by simp[q2,q2',hw,hf]),lbg]
      repeat refine And.intro (by first|omega|exact .inl trivial|exact eqp|(simp; done)|(simp; omega)) ?_
      rw[<- hs,show(i:Int)+1=((i+1:Nat):Int) by omega];refine ainv fin (Shift.low 1 (by simp) (by simp) ?_ ?_)
      .have:=AaD (n:=1) (AaG (partTo ps name ws gs (i+1)))
       simp only[go_sem,lowB,this]
      .simp only [go_sem]
    .have dw:decide ((ws.length:Int)>0)=false:=decide_eq_false (by omega)
     apply zgF;simp only[go_sem,laa,di,hgA,hpA,q2,q2',hcut,dw];have hs:partTo ps name ws gs (i+1)=partTo ps name ws gs i:=by rw[hsu,if_neg (by simp[q2,q2',hw]),lbg]
     repeat refine And.intro (by first|omega|exact .inl trivial|exact eqp|(simp; done)|(simp; omega)) ?_
     rw[<- hs,show(i:Int)+1=((i+1:Nat):Int) by omega];refine ainv fin (Shift.low 1 (by simp) (by simp) ?_ ?_)
     .have:=AaD (n:=1) (AaG (partTo ps name ws gs (i+1)))
      simp only[go_sem,lowB,this]
     .simp only [go_sem]
  .have di:decide ((i:Int)<(gs.length:Int))=false:=by simp; omega
   have hi:i=gs.length:=by omega
   subst hi;apply zgF;simp only[go_sem,di];exact aret [4] rfl ⟨by rw[hfin]; rfl,by rw[hfin]⟩
theorem BhA:AbR prog 73=true:=by kernel_rfl
def eqP(v p:Pa):Bool:=v.kind==p.kind&&v.text==p.text
theorem AqB(ps:List Pa)(v:Pa)(hl:ps.length<1000000):Pc prog 105 [.fz 2 (ps.map paA),paA v] (fun r=>∃ n:Int,r=.int .i64 n/\decide (n>=0)=ps.any (eqP v)):=by
 simp only[paA];refine zpIN func105 rfl fun h ρ w=>?_
 simp only[go_sem,laa];refine AaI (ι:=Nat) (fun i=>ps.length-i) (fun i=>[(8,.int .i64 i),(7,.int .i64 ps.length),(3,.ptr 0 1 0 0),(0,.fz 2 (ps.map paA))]) (fun _=>[.arr 2 [.agg [.int .i64 v.kind,.str v.text]]]) (fun i=>i<=ps.length/\(ps.take i).any (eqP v)=false) 0 (by simp) ?_ ?_
 .refine Lo ?_
  simp only[go_sem]
  first|done|exact⟨rfl,rfl⟩|rfl
 .rintro i ⟨g1,g2⟩ J hJ
  by_cases gi:i<ps.length
  .have di:decide ((i:Int)<(ps.length:Int))=true:=by simp; omega
   have hg':List.getD (List.map paA ps) i .any=.agg [.int .i64 ps[i].kind,.str ps[i].text]:=by simp[List.getD,gi,paA]
   have again:eqP v ps[i]=false->(ps.take (i+1)).any (eqP v)=false:=fun h=>by
    rw[lal gi,List.any_append,g2]
    simp[h]
   have hit:eqP v ps[i]=true->ps.any (eqP v)=true:=fun h=>List.any_eq_true.2 ⟨_,lai gi,h⟩
   unfold eqP at again hit
   cases e1:v.kind==ps[i].kind with
   | true =>
    cases e2:v.text==ps[i].text with
    | true =>
     apply zgN;simp only[go_sem,di];refine zr [] AaJ ?_;simp only[go_sem,hg',laa,e1,e2]
     repeat refine And.intro (by first|omega|exact BhA|simpa using gi) ?_
     apply zgN;simp only[go_sem];refine aret [4] rfl ⟨⟨_,rfl,?_⟩,rfl⟩;have:=hit (by rw[e1,e2]; rfl);unfold eqP;rw[this]
     simp
    | false =>
     apply zgN;simp only[go_sem,di];refine zr [] AaJ ?_;simp only[go_sem,hg',laa,e1,e2]
     repeat refine And.intro (by first|omega|exact BhA|simpa using gi) ?_
     apply zgN;simp only[go_sem]
     repeat refine ao ?_
     rw[ic i];refine ainv (hJ (i+1) ⟨by omega,again (by rw[e1,e2]; rfl)⟩ (by omega)) (Lo ?_);simp only[go_sem]
   | false =>
    apply zgN;simp only[go_sem,di];refine zr [] AaJ ?_;simp only[go_sem,hg',laa,e1]
    repeat refine And.intro (by first|omega|exact BhA|simpa using gi) ?_
    apply zgN;simp only[go_sem]
    repeat refine ao ?_
    rw[ic i];refine ainv (hJ (i+1) ⟨by omega,again (by rw[e1]; rfl)⟩ (by omega)) (Lo ?_);simp only[go_sem]
  .have di:decide ((i:Int)<(ps.length:Int))=false:=by simp; omega
   rw[lag (by omega)]at g2;apply zgN;simp only[go_sem,di];exact aret [4] rfl ⟨⟨_,rfl,by rw[g2]; rfl⟩,rfl⟩
theorem AjF(ps:List Pa)(v:Pa)(hl:ps.length<1000000):Pc prog 55 [.fz 2 (ps.map paA),paA v] (· = .bool (ps.any (eqP v))):=by
 have hi:=AqB ps v hl;simp only[paA]at hi |-;refine zpIN func55 rfl fun h ρ w=>?_
 simp only[go_sem];refine ze (hi) ?_;rintro _ ⟨n,rfl,hn⟩;apply zgN;simp only[go_sem];exact aret [4] rfl ⟨by rw[<- hn]; rfl,rfl⟩
def AeR(x:Sc)(name:LU):Bool:=x.Lc.any (eqP ⟨2,name⟩)
theorem AtC(x:Sc)(name:LU)(hl:x.Lc.length<1000000):Pc prog 26 [scA x,.str name] (· = .bool (AeR x name)):=by
 have hi:=AjF x.Lc ⟨2,name⟩ hl;simp only[paA]at hi;simp only[scA];refine zpIN func26 rfl fun h ρ w=>?_
 simp only[go_sem];refine zpN (hi) ?_;simp only[go_sem];exact zt [4]
def timesTo(xs:List Sc):Nat->List Int
 | 0=>[]
 | i+1=>timesTo xs i++[if(xs.getD i ⟨[],0,[],0,[]⟩).time==5&&decide (i>0) then(timesTo xs i).getD (i-1) 0 else(xs.getD i ⟨[],0,[],0,[]⟩).time]
theorem timesTo_len(xs:List Sc):∀ i,(timesTo xs i).length=i
 | 0=>rfl
 | i+1=>by simp[timesTo,timesTo_len xs i]
theorem AeS(l:List Int):(flat (l.map (AV.int .i64))).all Av.frozen=true:=by
 induction l with
 | nil=>rfl
 | cons y l ih=>simpa[flat,cellsOf,Av.frozen]using ih
theorem AzF(x:Sr)(hl:x.Lb.length<1000000):Pc prog 22 [srA x] (· = .fz 1 ((timesTo x.Lb x.Lb.length).map (.int .i64))):=by
 obtain⟨ti,xs⟩:=x;simp only[srA]at hl |-;refine zpIF func22 rfl fun h ρ w=>?_
 simp only[go_sem,laa];refine AaI (ι:=Nat) (fun i=>xs.length-i)
  (fun i=>[(10,.int .i64 i),(9,.int .i64 xs.length),(8,.fz 5 (xs.map scA)),(3,.sl 1 0 i i)])
  (fun i=>[.arr 2 [.agg [.str ti,.fz 5 (xs.map scA)]],.arr 1 ((timesTo xs i).map (.int .i64))]) (fun i=>i<=xs.length) 0 (by simp) ?_ ?_
 .refine Shift.trans (Ll 3 1 rfl) (Lo ?_)
  simp only[go_sem,timesTo]
 .intro i g1 J hJ
  have htl:=timesTo_len xs i
  by_cases gi:i<xs.length
  .have di:decide ((i:Int)<(xs.length:Int))=true:=by simp; omega
   have hgd:xs.getD i ⟨[],0,[],0,[]⟩=xs[i]:=by simp[List.getD,gi]
   have hg':List.getD (List.map scA xs) i .any=.agg [.str xs[i].no,.int .i64 xs[i].place,.str xs[i].set,.int .i64 xs[i].time,.fz 2 (xs[i].Lc.map paA)]:=by simp[List.getD,gi,scA]
   have hsu:timesTo xs (i+1)=timesTo xs i++[if xs[i].time==5&&decide (i>0) then(timesTo xs i).getD (i-1) 0 else xs[i].time]:=by rw[timesTo,hgd]
   have fin:=hJ (i+1) (by omega) (by omega);have lowT:∀ k,(flat ((timesTo xs k).map (AV.int .i64))).all (lowC 2)=true:=fun k=>AaD (AeS _)
   cases e5:xs[i].time==5 with
   | true =>
    by_cases h0:i>0
    .have d0:decide ((i:Int)>0)=true:=by simp; omega
     have hlast:List.getD (List.map (AV.int .i64) (timesTo xs i)) ((i:Int)-1).toNat .any=.int .i64 ((timesTo xs i).getD (i-1) 0):=by
      rw[show((i:Int)-1).toNat=i-1 by omega]
      simp[List.getD,show i-1<(timesTo xs i).length by omega]
     have hs:timesTo xs (i+1)=timesTo xs i++[(timesTo xs i).getD (i-1) 0]:=by rw[hsu,e5]; simp[h0]
     apply zgF;simp only[go_sem,laa,di,hg',e5,d0,hlast,htl]
     repeat refine al ?_
     rw[show List.map (AV.int .i64) (timesTo xs i)++[.int .i64 ((timesTo xs i).getD (i-1) 0)]=List.map (AV.int .i64) (timesTo xs (i+1)) by rw[hs]; simp,show(i:Int)+1=((i+1:Nat):Int) by omega];refine ainv fin (Shift.low 2 (by simp) (by simp) ?_ ?_)
     .simp only[go_sem,lowB,lowT,flat]
     .simp only [go_sem]
    .have d0:decide ((i:Int)>0)=false:=by simp; omega
     have hs:timesTo xs (i+1)=timesTo xs i++[xs[i].time]:=by rw[hsu]; simp[h0]
     apply zgF;simp only[go_sem,laa,di,hg',e5,d0,htl]
     repeat refine al ?_
     rw[show List.map (AV.int .i64) (timesTo xs i)++[.int .i64 xs[i].time]=List.map (AV.int .i64) (timesTo xs (i+1)) by rw[hs]; simp,show(i:Int)+1=((i+1:Nat):Int) by omega];refine ainv fin (Shift.low 2 (by simp) (by simp) ?_ ?_)
     .simp only[go_sem,lowB,lowT,flat]
     .simp only [go_sem]
   | false =>
    have hs:timesTo xs (i+1)=timesTo xs i++[xs[i].time]:=by rw[hsu,e5]; simp
    apply zgF;simp only[go_sem,laa,di,hg',e5,htl]
    repeat refine al ?_
    rw[show List.map (AV.int .i64) (timesTo xs i)++[.int .i64 xs[i].time]=List.map (AV.int .i64) (timesTo xs (i+1)) by rw[hs]; simp,show(i:Int)+1=((i+1:Nat):Int) by omega];refine ainv fin (Shift.low 2 (by simp) (by simp) ?_ ?_)
    .simp only[go_sem,lowB,lowT,flat]
    .simp only [go_sem]
  .have di:decide ((i:Int)<(xs.length:Int))=false:=by simp; omega
   have hi:i=xs.length:=by omega
   subst hi;apply zgF;simp only[go_sem,di];refine ARet.shift (Shift.freeze 2 (id:=1) rfl rfl (by simp[htl]) (lab _) (AeS _)) (aret [2] rfl ⟨?_,rfl⟩)
   simp[resV,Av.get,Av.put,lag,htl]
def placeW:LY:=[.str [],.str [73,78,84,46],.str [69,88,84,46],.str [73,78,84,46,47,69,88,84,46]]
def AhF:LY:=[.str [],.str [68,65,89],.str [78,73,71,72,84],.str [68,65,87,78],.str [68,85,83,75],.str [76,65,84,69,82]]
theorem place_pc:Pc prog 139 [] (· = .fz 1 placeW):=by
 refine AbG (AaZ func139 rfl ntmps139 hB139 (by simp) fun h ρ w=>goF rfl 200 ?_);simp only[go_sem];exact aret [0] rfl ⟨by simp[resV,Av.get,placeW],rfl⟩
theorem time_pc:Pc prog 140 [] (· = .fz 1 AhF):=by
 refine AbG (AaZ func140 rfl ntmps140 hB140 (by simp) fun h ρ w=>goF rfl 200 ?_);simp only[go_sem];exact aret [0] rfl ⟨by simp[resV,Av.get,AhF],rfl⟩
def BbY:AV:=.agg [.int .i64 1,.str [82,97,105,110,46]]
def sceneA:AV:=.agg [.str [],.int .i64 1,.str [72,65,76,76],.int .i64 1,.fz 2 [.agg [.int .i64 1,.str [82,97,105,110,46]]]]
theorem A1L:Pc prog 92 [sceneA] (· = .str [73,78,84,46,32,72,65,76,76,32,45,32,68,65,89]):=by
 refine AbG (AaZ func92 rfl ntmps92 hB92 (by simp) fun h ρ w=>go rfl 200 ?_);simp only[go_sem,sceneA];refine zr [.fz 1 placeW,.fz 1 AhF] AaJ ?_;simp only[go_sem,sceneA,placeW,AhF];refine⟨place_pc.at,time_pc.at,?_⟩;refine go rfl 200 ?_;simp only[go_sem,sceneA];exact aret [2] rfl ⟨by simp[resV,Av.get],rfl⟩
theorem A1M(c:UInt8)(s o:LU)(hs:s.length<1000000)(hn:Lib.indexByte o c<0):Pc prog 156 [.str (c::s),.str o] (· = .str (c::s)):=by
 refine AbG (AaZ func156 rfl ntmps156 hB156 (by simp) fun h ρ w=>go rfl 200 ?_);simp only[go_sem];refine⟨by omega,?_⟩;refine zpN (AiY o (c.toNat:Int)) ?_;have h0:decide (0<=Lib.indexByte o c.toNat.toUInt8)=false:=by simp; omega
 simp only[go_sem,h0];exact aret [4] rfl ⟨by simp[resV,Av.get],rfl⟩
theorem BhB:Pc prog 120 [BbY] (· = .str [82,97,105,110,46]):=by
 refine AbG (AaZ func120 rfl ntmps120 hB120 (by simp) fun h ρ w=>go rfl 200 ?_);simp only[go_sem,BbY];refine zpN (A1M 82 [97,105,110,46] [64,62,35,92] (by decide) (by decide)) ?_;simp only[go_sem];exact aret [2] rfl ⟨by simp[resV,Av.get],rfl⟩
theorem AwJ:Pc prog 89 [.int .i64 1,.int .i64 0] (· = .bool true):=by
 refine AbG (AaZ func89 rfl ntmps89 hB89 (by simp) fun h ρ w=>go rfl 200 ?_);simp only[go_sem];exact aret [4] rfl ⟨by simp[resV,Av.get],rfl⟩
theorem A6D{S:Std}(hS:LibOk S):PcH prog S 88 [BbY] (· = .int .i64 0):=by
 refine AbW (AdH func88 rfl ntmps88 hB88 (by simp) fun h ρ w hg=>go rfl 200 ?_);simp only[go_sem,BbY];refine zqN hg (AcF hS [82,97,105,110,46] (by decide)) ?_;have hp:plainL [82,97,105,110,46]=true:=by decide
 simp only[go_sem,hp];exact aret [2] rfl ⟨by simp[resV,Av.get],rfl⟩
theorem A6E{S:Std}(hS:LibOk S):PcH prog S 49 [sceneA] (· = .int .i64 0):=by
 refine AbW (AdH func49 rfl ntmps49 hB49 (by simp) fun h ρ w hg=>go rfl 200 ?_);simp only[go_sem,sceneA];refine zqN hg (AlA hS [72,65,76,76] (by decide)) ?_;have hp:isSetL [72,65,76,76]=true:=by decide
 simp only[go_sem,hp];refine AbD (around (zgN ?_));simp only[go_sem];refine zqN hg (A6D hS) ?_;simp only[go_sem];refine AcH AwJ rfl rfl rfl (zgN ?_);simp only[go_sem];refine AdQ (around (zgN ?_));simp only[go_sem];exact aret [2] rfl ⟨by simp[resV,Av.get],rfl⟩
