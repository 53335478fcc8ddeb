/- IndexFunc at entries; leaves against pages: the reference, walked. -/
import Derived.Test.YtgenkcmfeeakoaaGreatDoorX45
set_option maxRecDepth 100000
set_option maxHeartbeats 8000000
set_option linter.all false
namespace Go.Proofs.YtgenkcmfeeakoaaGreatDoor
open Av RowKit Proofs.Tryz
theorem BzA(l:List (LU×List Bl))(i:Nat)(h:i<l.length):List.getD (l.map enA) i .any=.agg [.str l[i].1,.fz 3 (l[i].2.map rbA)]:=by grind[enA]
theorem AnB(f:FuncId)(caps:LA)(hc:caps.all frozen0=true)(p:LU×List Bl->Bool)(l:List (LU×List Bl))(hl:l.length<100000000)(hf:∀ x∈l,Pc prog f (enA x::caps) (· = .bool (p x))) :
  Pc prog 136 [.fz 2 (l.map enA),.fn (.func f) caps] (· = .int .i64 (idxP p l)):=by
 refine zpIB func136 rfl fun h ρ w=>?_
 simp only[go_sem];refine AaE (ι:=Nat) (fun i=>l.length-i) (fun i=>[(8,.int .i64 i),(7,.int .i64 l.length),(1,.fn (.func f) caps),(0,.fz 2 (l.map enA))]) (fun _=>[]) (fun i=>i<=l.length/\∀ j,(hj:j<l.length)->j<i->p l[j]=false) 0 ⟨by simp,fun j _ h=>absurd h (by omega)⟩ ?_ ?_
 .refine Lr ?_
  simp only[go_sem,laa]
 .rintro i ⟨g1,g2⟩ J hJ
  by_cases gi:i<l.length
  .have di:decide ((i:Int)<(l.length:Int))=true:=by simp; omega
   have hfx:=hf _ (lac gi);simp only[enA]at hfx;apply zgB;simp only[go_sem,di,BzA l i gi,laa]
   repeat refine aqb ?_
   cases hp:p l[i]with
   | true =>
    rw[hp]at hfx;refine AaX hfx (AkS rfl hc) rfl rfl (zgB ?_);simp only[go_sem];exact aret [4] rfl ⟨congrArg _ (A0V gi hp fun j hj=>g2 j (by omega) hj).symm,rfl⟩
   | false =>
    rw[hp]at hfx;refine AaX hfx (AkS rfl hc) rfl rfl (zgB ?_);simp only[go_sem]
    repeat refine aqc ?_
    rw[ic i];refine ainv (hJ (i+1) ⟨by omega,fun j hj h=>?_⟩ (by omega)) (Lr ?_)
    .rcases Nat.lt_or_ge j i with h2|h2
     .exact g2 j hj h2
     .have:j=i:=by omega
      subst this; exact hp
    .simp only [go_sem]
  .have di:decide ((i:Int)<(l.length:Int))=false:=by simp; omega
   apply zgB;simp only[go_sem,di];exact aret [4] rfl ⟨congrArg _ (A0U fun j hj=>g2 j hj (by omega)).symm,rfl⟩
theorem A4X(e:LU×List Bl)(f:Le'):Pc prog 137 [enA e,.pin 4 [leA f] 0 0] (· = .bool (e.1==f.first)):=by
 simp only[enA,leA];refine zpIB func137 rfl fun h ρ w=>?_
 simp only[go_sem];exact zt [3]
theorem A4Y(e:LU×List Bl)(d:Dr)(n:Nat)(hn:n<d.La.length):Pc prog 138 [enA e,.pin 5 [drA d] 0 0,.pin 1 [.int .i64 (n:Int)] 0 0] (· = .bool (e.1==fst d.La n)):=by
 have hg:=AgN hn;have hf:fst d.La n=d.La[n].first:=by simp[fst,List.getD,hn]
 rw[hf];simp only[enA,drA];refine zpIB func138 rfl fun h ρ w=>?_
 simp only[go_sem];refine zr [] AaI ?_;simp only[go_sem,hg,laa]
 repeat refine aqg ?_
 apply zgB;simp only[go_sem];exact zt [4]
theorem A4Z(e:LU×List Bl)(d:Dr)(n:Nat)(hn:n<d.La.length):Pc prog 139 [enA e,.pin 5 [drA d] 0 0,.pin 1 [.int .i64 (n:Int)] 0 0] (· = .bool (e.1==fst d.La n)):=by
 have hg:=AgN hn;have hf:fst d.La n=d.La[n].first:=by simp[fst,List.getD,hn]
 rw[hf];simp only[enA,drA];refine zpIB func139 rfl fun h ρ w=>?_
 simp only[go_sem];refine zr [] AaI ?_;simp only[go_sem,hg,laa]
 repeat refine aqg ?_
 apply zgB;simp only[go_sem];exact zt [4]
theorem BlA(f:Le')(x:LU)(p:List Ln)(hp:p.length<1000000)(hf:f.Lb.length<1000000):Pc prog 141 [leA f,.agg [.str x,.fz 1 (p.map .str)]] (· = .bool (f.Lb==p)):=by
 have he:=AsQ f.Lb p (by omega) (by omega);simp only[leA];refine zpIB func141 rfl fun h ρ w=>?_
 simp only[go_sem];refine zpB (he) ?_;simp only[go_sem];exact zt [4]
theorem A0Z(fs:List Le')(fi:List LU)(ps:List (List Ln))(he:fs.map (·.Lb)=ps)(h1:∀ p∈ps,p.length<1000000)(h3:ps.length<1000000) :
  Pc prog 140 [.fz 4 (fs.map leA),.fz 2 (AdF fi ps),.fn (.func 141) []] (· = .bool true):=by
 have hl:fs.length=ps.length:=by rw[<- he,laa]
 have hrl:=AfV fi ps;have d0:((fs.length:Int) != (ps.length:Int))=false:=by simp[hl]
 refine zpIB func140 rfl fun h ρ w=>?_
 simp only[go_sem,d0,laa,hrl];refine AaE (ι:=Nat) (fun i=>fs.length-i) (fun i=>[(17,.int .i64 i),(16,.int .i64 fs.length),(15,.fz 4 (fs.map leA)),(2,.fn (.func 141) []),(1,.fz 2 (AdF fi ps)),(0,.fz 4 (fs.map leA))]) (fun _=>[]) (fun i=>i<=fs.length) 0 (by omega) ?_ ?_
 .refine Lr ?_
  simp only[go_sem]
 .rintro i g1 J hJ
  by_cases gi:i<fs.length
  .have di:decide ((i:Int)<(fs.length:Int))=true:=by simp; omega
   have gb:i<ps.length:=by omega
   have e1:=AgN gi;have e2:=AkQ fi ps gb;have hli:fs[i].Lb=ps.getD i []:=by
    have:(fs.map (·.Lb))[i]? = ps[i]?:=by rw[he]
    rw[lby,lab gi,lab gb]at this;simp only[lcp,lao]at this;rw[this]
    simp[List.getD,gb]
   have hpl:(ps.getD i []).length<1000000:=by
    have:ps.getD i []∈ps:=by simp[List.getD,gb]
    exact h1 _ this
   have hc:=BlA fs[i] (fi.getD i []) (ps.getD i []) hpl (by rw[hli]; exact hpl);have hb:(fs[i].Lb==ps.getD i [])=true:=by rw[hli]; simp
   rw[hb]at hc;simp only[leA]at hc;have hfin:=hJ (i+1) (by omega) (by omega);apply zgB;simp only[go_sem,di,e1,e2,laa,hrl]
   repeat refine aqg ?_
   refine zpB (hc) ?_;simp only[go_sem]
   repeat refine aqg ?_
   rw[ic i];refine ainv hfin (Shift.low 0 (by simp) (by simp) rfl ?_);simp only[go_sem]
  .have di:decide ((i:Int)<(fs.length:Int))=false:=by simp; omega
   apply zgB;simp only[go_sem,di];exact zt [6]
def ancs(l:List Le')(i:Nat):List Nat:=(runsTo l i).map (·.1)
theorem AhQ(l:List Le'){i:Nat}(hi:i<l.length):ancs l (i+1)=if fst l i=[] then ancs l i else ancs l i++[i]:=by
 have hf:fst l i=l[i].first:=by grind[fst]
 unfold ancs;simp only[runsTo,lab hi,runStep,hf]
 by_cases h0:l[i].first=[]
 .·refine lbz fun j=>?_<;>grind
 grind
theorem ancs_len(l:List Le')(i:Nat):(ancs l i).length=(runsTo l i).length:=by simp[ancs]
def lastX(E:List LU)(l:List Le')(i:Nat):Int:=if lastF l i=[] then -1 else(ixN E (lastF l i):Int)
theorem AnC{xs:List Sc}{E:List LU}{n:LU}(h:n∈E):idxP (fun e:LU×List Bl=>e.1==n) (entL xs E)=(ixN E n:Int):=by
 obtain⟨_,_,h3⟩:=AiP h;rw[<- h3];unfold idxP entL;have:((fun e:LU×List Bl=>e.1==n)∘fun m=>(m,entB xs m))=fun y=>n==y:=by
  grind
 grind
theorem BzB{d:Dr}{E:List LU}(h:LvOk d E):∀ i,i<=d.La.length->AInv d.La E i/\∀ j,j<d.La.length->j=i->fst d.La i≠[]->lastF d.La i≠[]->nLt (lastF d.La i) (fst d.La i):=by
 intro i
 induction i with
 | zero =>
  intro _;exact⟨⟨fun j hj=>by omega,fun a b _ hb=>by omega,fun j hj=>by omega,fun h=>absurd rfl h⟩,fun _ _ _ _ hz=>absurd rfl hz⟩
 | succ i ih =>
  intro hi;obtain⟨h1,h2⟩:=ih (by omega);have h3:AInv d.La E (i+1):=by
   by_cases h0:fst d.La i=[]
   .exact BiB h1 h0
   .exact BqF h1 h0 (h.mem i (by omega) h0) (h2 i (by omega) rfl h0)
  refine⟨h3,fun j hj e h0 hz=>?_⟩;obtain⟨j',hj',e'⟩:=h3.isAt hz;rw[<- e'];exact h.rise j' (i+1) hj' (by omega) (by rw[e']; exact hz) h0
theorem A5A{St:Std}(hS:LibR St)(d:Dr)(E:List LU)(hE:EntOf d E)(hm:MdOk d.Lc E)(hgl:d.Lp.length<=1000)(hl:d.La.length<=100000)
  (hb:∀ f∈d.La,f.Lb.length<1000000) (hv:LvOk d E) :
  PcH prog St 73 [drA d] (· = .int .i64 0):=by
 have hent:=AdG hS (no:=d.no) (ti:=d.Lk) (lv:=d.La) (go:=d.Lp) hE hm hgl;have hel:=AwL d.Lc E;have hEl:=hm.fewN
 by_cases hee:E=[]
 .have hle:=hv.empt.1 hee
  obtain⟨no,ti,xs,go,le⟩:=d;simp only at hle hee;subst hle hee;have e1:entL xs []=[]:=rfl;rw[e1]at hent;simp only[drA,las]at hent |-;refine zqIB func73 rfl fun h ρ w hg=>?_
  simp only[go_sem];refine zqB hg (hent) ?_;simp only[go_sem];exact zt [2]
 .have hEp:=List.length_pos_iff.2 hee
  have hle:d.La≠[]:=fun e=>hee (hv.empt.2 e)
  have hlp:=List.length_pos_iff.2 hle;have hA:=fun i hi=>BzB hv i hi
  have hpg:=fun a b=>AiJ (AsX hm a b)
  have hdrA:drA d=.agg [.int .i64 d.no,.str d.Lk,.fz 5 (d.Lc.map scA),.fz 1 (d.Lp.map .str),.fz 4 (d.La.map leA)]:=rfl;have hq1:((d.La.length:Int)==0)=false:=by rw[lbe]; omega
  have hq2:((E.length:Int)==0)=false:=by rw[lbe]; omega
  have hi2:=fun n hn=>AnB 138 [.pin 5 [drA d] 0 0,.pin 1 [.int .i64 ((n:Nat):Int)] 0 0] rfl (fun e=>e.1==fst d.La n) (entL d.Lc E) (by omega) (fun x _=>A4Y x d n hn)
  have hi3:=fun n hn=>AnB 139 [.pin 5 [drA d] 0 0,.pin 1 [.int .i64 ((n:Nat):Int)] 0 0] rfl (fun e=>e.1==fst d.La n) (entL d.Lc E) (by omega) (fun x _=>A4Z x d n hn)
  have hE0:fst d.La 0=E[0]:=by
   have:=hv.head hee
   simpa[List.getD,hEp]using this
  have hRI:=AcQ d.La;simp only[drA]at hent hi2 hi3 |-;refine zqIB func73 rfl fun h ρ w hg=>?_
  simp only[go_sem];refine zqB hg (hent) ?_;simp only[go_sem,hq1,hq2,laa,hel];refine AaE (ι:=Nat) (fun i=>d.La.length-i)
   (fun i=>[(38,.int .i64 i),(37,.int .i64 d.La.length),(36,.fz 4 (d.La.map leA)),(3,.fz 2 ((entL d.Lc E).map enA)),(4,.sl 0 0 (ancs d.La i).length (ancs d.La i).length),(5,.int .i64 (lastX E d.La i)),(1,.pin 5 [.agg [.int .i64 d.no,.str d.Lk,.fz 5 (d.Lc.map scA),.fz 1 (d.Lp.map .str),.fz 4 (d.La.map leA)]] 0 0)])
   (fun i=>[.arr 1 ((ancs d.La i).map fun n=>.int .i64 ((n:Nat):Int))]) (fun i=>i<=d.La.length) 0 (by omega) ?_ ?_
  .refine Shift.trans (Ls 4 1 rfl) (Lt ?_ (by rfl))
   simp only[go_sem,lastX,lastF];rfl
  .intro i g1 J hJ
   have hal:(ancs d.La i).length<=i:=by rw[ancs_len]; exact AcU _ _
   by_cases gi:i<d.La.length
   .have di:decide ((i:Int)<(d.La.length:Int))=true:=by rw[lag]; omega
    have hg':=AgN gi;have hfi:fst d.La i=d.La[i].first:=by simp[fst,List.getD,gi]
    have hfin:=hJ (i+1) (by omega) (by omega);rw[AhQ d.La gi]at hfin
    by_cases h0:fst d.La i=[]
    .have q4:(d.La[i].first==[])=true:=by rw[<- hfi]; simp[h0]
     rw[if_pos h0,show lastX E d.La (i+1)=lastX E d.La i by simp[lastX,lastF,h0]]at hfin;apply zgB;simp only[go_sem,di,hg',q4,laa]
     repeat refine aqg ?_
     rw[ic i];refine ainv hfin (Shift.trans (Shift.low 1 (e':=[(38,.int .i64 ((i+1:Nat):Int)),(37,.int .i64 d.La.length),(36,.fz 4 (d.La.map leA)),(3,.fz 2 ((entL d.Lc E).map enA)),(4,.sl 0 0 (ancs d.La i).length (ancs d.La i).length),(5,.int .i64 (lastX E d.La i)),(1,.pin 5 [.agg [.int .i64 d.no,.str d.Lk,.fz 5 (d.Lc.map scA),.fz 1 (d.Lp.map .str),.fz 4 (d.La.map leA)]] 0 0)]) (by simp) (by simp) ?_ ?_) (Lt ?_ rfl))
     .show (lowB 1 (.arr 1 _)&&true)=true
      rw[lax];exact AaD (AbY (fun _=>rfl) _)
     .simp only[go_sem]
     .simp only [go_sem]
    .have q4:(d.La[i].first==[])=false:=by rw[<- hfi]; simp[h0]
     have hmem:=hv.mem i gi h0;have hix:=AnC (xs:=d.Lc) hmem;obtain⟨ai,hai⟩:=hA i (by omega);have hlt:=hai i gi rfl h0;have q5:decide ((ixN E (fst d.La i):Int)<=lastX E d.La i)=false:=by
      rw[lai];unfold lastX
      split
      .omega
      .rename_i hz
       obtain⟨j,hj,e⟩:=ai.isAt hz;have hm2:=hv.mem j (by omega) (by rw[e]; exact hz);rw[e]at hm2;have:=AmZ hE.sorted hm2 hmem (hlt hz);omega
     rw[if_neg h0,show lastX E d.La (i+1)=(ixN E (fst d.La i):Int) by simp[lastX,lastF,h0],lah,lam,lap]at hfin;have hany:=AnB 137 [.pin 4 [leA d.La[i]] 0 0] rfl (fun e=>e.1==fst d.La i) (entL d.Lc E) (by omega) (fun x _=>by rw[hfi]; exact A4X x d.La[i]);rw[hix]at hany;have hbor:=Ct.borrowF (P:=prog) (f:=136) (args:=[.fz 2 ((entL d.Lc E).map enA),.fn (.func 137) [.ptr 1 1 0 0]]) 1 [.arr 1 ((ancs d.La i).map fun n=>.int .i64 ((n:Nat):Int)),.arr 4 [leA d.La[i]]] (post:=(· = .int .i64 (ixN E (fst d.La i):Int))) hany (by rintro r rfl; rfl);simp only[leA]at hbor;apply zgB;simp only[go_sem,di,hg',q4,laa]
     repeat refine aqg ?_
     refine za (hbor) ?_;rintro _ _ ⟨rfl,rfl⟩;apply zgB;simp only[go_sem,q5,laa]
     repeat refine aqg ?_
     rw[ic i];refine ainv hfin (Shift.trans (Shift.low 1 (e':=[(38,.int .i64 ((i+1:Nat):Int)),(37,.int .i64 d.La.length),(36,.fz 4 (d.La.map leA)),(3,.fz 2 ((entL d.Lc E).map enA)),(4,.sl 0 0 ((ancs d.La i).length+1) ((ancs d.La i).length+1)),(5,.int .i64 (ixN E (fst d.La i):Int)),(1,.pin 5 [.agg [.int .i64 d.no,.str d.Lk,.fz 5 (d.Lc.map scA),.fz 1 (d.Lp.map .str),.fz 4 (d.La.map leA)]] 0 0)]) (by simp) (by simp) ?_ ?_) (Lt ?_ ?_))
     .have:=AbY (f:=fun n:Nat=>AV.int .i64 (n:Int)) (fun _=>rfl) (ancs d.La i++[i])
      rw[lak]at this
      show(lowB 1 (.arr 1 _)&&true)=true
      rw[lax];exact AaD this
     .simp only[go_sem]
     .simp only [go_sem]
     .rw [lak]
      rfl
   .have di:decide ((i:Int)<(d.La.length:Int))=false:=by rw[lai]; omega
    have hi:i=d.La.length:=by omega
    subst hi;clear hJ;have hfr:=AbY (f:=fun n:Nat=>AV.int .i64 (n:Int)) (fun _=>rfl) (ancs d.La d.La.length);have hAL:(ancs d.La d.La.length).length=(AaC d.La).length:=ancs_len _ _;have hAk:∀ k,k<(AaC d.La).length->List.getD ((ancs d.La d.La.length).map fun n=>AV.int .i64 ((n:Nat):Int)) k .any=.int .i64 ((rat (AaC d.La) k).1:Int):=fun k hk=>by
     have hk2:k<(runsTo d.La d.La.length).length:=hk
     simp[ancs,List.getD,hk2,rat,AaC]
    generalize hAA:ancs d.La d.La.length=A at *;obtain⟨bg1,bg2⟩:=hRI.begins 0 hlp (by rw[hE0]; exact AvR hE _ (lac hEp));have hr0:(rat (AaC d.La) 0).1=0:=by omega
    have hA0:=hAk 0 bg1;rw[hr0]at hA0;have q6:((A.length:Int)==0)=false:=by rw[lbe]; omega
    have hg0:=AgN hlp;have hen0:=A8U (xs:=d.Lc) hEp;have hf0:fst d.La 0=d.La[0].first:=by simp[fst,List.getD,hlp]
    have q7:(d.La[0].first != E[0])=false:=by rw[<- hf0,hE0]; simp
    have hRl:(AaC d.La).length<=d.La.length:=AcU _ _;refine AWp.shift (Shift.trans (Shift.freeze 4 (id:=0) rfl rfl (by simp) (lad _) hfr) (Shift.low 0 (e':=[(38,.int .i64 (d.La.length:Int)),(37,.int .i64 d.La.length),(36,.fz 4 (d.La.map leA)),(3,.fz 2 ((entL d.Lc E).map enA)),(4,.fz 1 (A.map fun n=>.int .i64 ((n:Nat):Int))),(5,.int .i64 (lastX E d.La d.La.length)),(1,.pin 5 [.agg [.int .i64 d.no,.str d.Lk,.fz 5 (d.Lc.map scA),.fz 1 (d.Lp.map .str),.fz 4 (d.La.map leA)]] 0 0)]) (by simp) (by simp) rfl ?_)) ?_
    .simp only[go_sem]
     rw[laj (by simp)]
    .apply zgB
     simp only[go_sem,di,laa];refine zr [] AaI ?_;simp only[go_sem,q6,hA0,hg0,hen0,q7,laa,hel]
     repeat refine aqg ?_
     apply zgB;simp only[go_sem,laa];refine AaE (ι:=Nat) (fun k=>A.length-k)
      (fun k=>[(81,.int .i64 k),(80,.int .i64 A.length),(79,.fz 1 (A.map fun n=>.int .i64 ((n:Nat):Int))),(4,.fz 1 (A.map fun n=>.int .i64 ((n:Nat):Int))),(3,.fz 2 ((entL d.Lc E).map enA)),(1,.pin 5 [.agg [.int .i64 d.no,.str d.Lk,.fz 5 (d.Lc.map scA),.fz 1 (d.Lp.map .str),.fz 4 (d.La.map leA)]] 0 0)])
      (fun _=>[]) (fun k=>k<=A.length) 0 (by omega) ?_ ?_
     .refine Lr ?_
      simp only[go_sem]
     .intro k g2 J hJ
      by_cases gk:k<A.length
      .have dk:decide ((k:Int)<(A.length:Int))=true:=by rw[lag]; omega
       have hk2:k<(AaC d.La).length:=by omega
       have hfin:=hJ (k+1) (by omega) (by omega);have hAkk:=hAk k hk2;obtain⟨o1,o2,o3,o4⟩:=hRI.one k hk2;have hm1:=hv.mem _ (by omega) o3;have hix1:=AnC (xs:=d.Lc) hm1;obtain⟨f1,f2,f3⟩:=AiP hm1;have hpages:=hv.Lh k hk2;have hnx:=@AzI d.La k hk2;have hadj:=hRI.adj k;have hlast:=hRI.last (by omega);obtain⟨tz,htz⟩:∃ tz,tz=if(rat (AaC d.La) k).2<d.La.length then ixN E (fst d.La (rat (AaC d.La) k).2) else E.length:=⟨_,rfl⟩
       have hseg:segE E d.La (rat (AaC d.La) k)=(E.take tz).drop (ixN E (fst d.La (rat (AaC d.La) k).1)):=by unfold segE; rw[<- htz]
       have htl:tz<=E.length/\ixN E (fst d.La (rat (AaC d.La) k).1)<=tz:=by
        rw[htz]
        split
        .rename_i h5
         have hm2:=hv.mem _ h5 (hnx h5);obtain⟨t1,_,_⟩:=AiP hm2;have:=AmZ hE.sorted hm1 hm2 (hv.rise _ _ o1 h5 o3 (hnx h5));omega
        .omega
       have hpgk:=hpg (ixN E (fst d.La (rat (AaC d.La) k).1)) tz;rw[hseg]at hpages;have hbd:=(AiE (AsX hm (ixN E (fst d.La (rat (AaC d.La) k).1)) tz)).2;have hplen:(layL (entsB d.Lc ((E.take tz).drop (ixN E (fst d.La (rat (AaC d.La) k).1))))).Lh.length<=100000:=by
        rw[hpages];simp only[laa,List.length_drop,lci];omega
       have heq:=A0Z ((d.La.take (rat (AaC d.La) k).2).drop (rat (AaC d.La) k).1) (firstsI d.Lc ((E.take tz).drop (ixN E (fst d.La (rat (AaC d.La) k).1)))) _ hpages.symm (fun p hp=>by have:=hbd p hp; omega) (by omega);have hs1:List.drop (rat (AaC d.La) k).1 (List.take (rat (AaC d.La) k).2 (d.La.map leA))=((d.La.take (rat (AaC d.La) k).2).drop (rat (AaC d.La) k).1).map leA:=by rw[List.map_drop,lco]
       have hs2:List.drop (ixN E (fst d.La (rat (AaC d.La) k).1)) (List.take tz ((entL d.Lc E).map enA))=(entL d.Lc ((E.take tz).drop (ixN E (fst d.La (rat (AaC d.La) k).1)))).map enA:=by rw[<- lco,<- List.map_drop,BrV]
       have hh3:=hi3 (rat (AaC d.La) k).1 (by omega);rw[hix1]at hh3;have hbor3:=Ct.borrowF (P:=prog) (f:=136) (args:=[.fz 2 ((entL d.Lc E).map enA),.fn (.func 139) [.pin 5 [.agg [.int .i64 d.no,.str d.Lk,.fz 5 (d.Lc.map scA),.fz 1 (d.Lp.map .str),.fz 4 (d.La.map leA)]] 0 0,.ptr 0 1 0 0]]) 1 [.arr 1 [.int .i64 ((rat (AaC d.La) k).1:Int)],.arr 1 [.int .i64 ((rat (AaC d.La) k).2:Int)]] (post:=(· = .int .i64 (ixN E (fst d.La (rat (AaC d.La) k).1):Int))) hh3 (by rintro r rfl; rfl);have hcs:(k+1<(AaC d.La).length)\/¬ (k+1<(AaC d.La).length):=Classical.em _;refine hcs.elim (fun hc=>?_) (fun hc=>?_);have dc:decide ((k:Int)+1<(A.length:Int))=true:=by rw[lag]; omega
       have ek:((k:Int)+1).toNat=k+1:=by omega
       have hAk1:=hAk (k+1) hc;rw[<- hadj hc]at hAk1;have ho:=hRI.one (k+1) hc;have h5:(rat (AaC d.La) k).2<d.La.length:=by rw[hadj hc]; omega
       have htz2:tz=ixN E (fst d.La (rat (AaC d.La) k).2):=by rw[htz,if_pos h5]
       have hh2:=hi2 (rat (AaC d.La) k).2 h5;rw[AnC (xs:=d.Lc) (hv.mem _ h5 (hnx h5)),<- htz2]at hh2;have hbor2:=Ct.borrowF (P:=prog) (f:=136) (args:=[.fz 2 ((entL d.Lc E).map enA),.fn (.func 138) [.pin 5 [.agg [.int .i64 d.no,.str d.Lk,.fz 5 (d.Lc.map scA),.fz 1 (d.Lp.map .str),.fz 4 (d.La.map leA)]] 0 0,.ptr 1 1 0 0]]) 1 [.arr 1 [.int .i64 ((rat (AaC d.La) k).1:Int)],.arr 1 [.int .i64 ((rat (AaC d.La) k).2:Int)]] (post:=(· = .int .i64 (tz:Int))) hh2 (by rintro r rfl; rfl);apply zgB;simp only[go_sem,dk,hAkk,dc,ek,hAk1,laa,hel]
       repeat refine aqg ?_
       refine za (hbor2) ?_;rintro _ _ ⟨rfl,rfl⟩;apply zgB;simp only[go_sem]
       rotate_left
       have dc:decide ((k:Int)+1<(A.length:Int))=false:=by rw[lai]; omega
       have er:(rat (AaC d.La) k).2=d.La.length:=by
        rw[<- hlast]
        congr 2
        omega
       have htz2:tz=E.length:=by rw[htz,if_neg (by omega)]
       rw[er]at hbor3;apply zgB;simp only[go_sem,dk,hAkk,dc,laa,hel]
       repeat refine aqg ?_
       rw[<- er]at hbor3 |-;rw[<- htz2]
       all_goals
        refine za (hbor3) ?_;rintro _ _ ⟨rfl,rfl⟩;apply zgB;simp only[go_sem];refine zr [.fz 2 (AdF (firstsI d.Lc ((E.take tz).drop (ixN E (fst d.La (rat (AaC d.La) k).1)))) (layL (entsB d.Lc ((E.take tz).drop (ixN E (fst d.La (rat (AaC d.La) k).1))))).Lh),.bool true] AaI ?_;simp only[go_sem,hs1,hs2,laa,hel]
        repeat refine And.intro (by first|exact hpgk.at|exact heq.at|omega|exact .inl trivial|rfl|(simp; done)|(simp; omega)) ?_
        apply zgB;simp only[go_sem]
        repeat refine aqg ?_
        rw[ic k];refine ainv hfin (Shift.low 0 (by simp) (by simp) rfl ?_);simp only[go_sem]
      .have dk:decide ((k:Int)<(A.length:Int))=false:=by rw[lai]; omega
       apply zgB;simp only[go_sem,dk];exact zt [2]
theorem A1A(xs:List Sc):(hasNo xs).Sublist (nosL xs):=List.filter_sublist
theorem AnD{l:List LU}(h:l.Pairwise nLt):l.Nodup:=h.imp (S:=(·≠·)) fun hlt e=>by subst e; exact nLt_irrefl _ hlt
theorem BlB{ti:LU}{xs:List Sc}(h:ScriptOk ⟨ti,xs⟩)(hp:plainR ti=true)(hs:∀ x∈xs,SceneD x)(hn:(hasNo xs).Nodup):SkR ti xs:=by
 refine⟨h.Lk,hp,h.len,h.many,hs,hn,fun y hy=>?_⟩;have ho:=h.ok
 cases xs with
 | nil=>simp at hy
 | cons a r =>
  simp only[List.head?_cons,lao]at hy;subst hy;exact ho.2.2.2.1 rfl
theorem BcA{St:Std}(hS:LibR St){d:Dr}(hd:DrIn d)(hok:DraftOk d)(hp:plainR d.Lk=true):PcH prog St 30 [drA d] (· = .int .i64 0):=by
 have hnod:=(A1A d.Lc).nodup (AnD hok.nums.rise);have hsf:=AeZ hS (BlB hd.script hp hd.sc hnod);obtain⟨E,hE,hm⟩:=BtO hd hok.nums;have hlv:=A5A hS d E hE hm hd.Lm hd.Lo (fun f hf=>(hd.La f hf).2.2.1) (hok.lv E hE);have hbf:=A4T hS.ok d.La (by have:=hd.Lo; omega) hd.La;have hfew:=hok.nums.few;have hno:=hok.no;have hnum:∀ n∈nosL d.Lc,numberL n=true:=fun n hn=>by
  obtain⟨x,hx,rfl⟩:=List.mem_map.1 hn;exact(hd.sc x hx).no.resolve_left (hok.nums.all x hx)
 have hnl:(nosL d.Lc).length=d.Lc.length:=by simp[nosL]
 have hris:=AkR (nosL d.Lc) (by omega) (fun n hn=>by have:=number_len (hnum n hn); omega);have hrg:=fun i=>AkR (d.Lp.take (i+1)) (by simp; omega) (fun n hn=>by have:=number_len (hd.Lp n (lau hn)); omega)
 have hct:=fun x=>ApR (nosL d.Lc) x (by omega)
 have hln:=hd.Lo;have hmade:=hok.made;obtain⟨no,ti,xs,go,le⟩:=d;simp only[drA,srA]at hsf hlv hfew hno hris hrg hct hln hnl hmade hbf |-;have d2:((0:Int) != 0)=false:=by decide
 have n1:decide (no<1)=false:=by rw[lai]; omega
 have n2:decide (no>30)=false:=by rw[lai]; omega
 refine zqIB func30 rfl fun h ρ w hg=>?_
 simp only[go_sem,n1,n2];refine zqB hg (hsf) ?_;simp only[go_sem,d2,laa];refine AaE (ι:=Nat) (fun i=>xs.length-i) (fun i=>[(32,.int .i64 i),(31,.int .i64 xs.length),(30,.fz 5 (xs.map scA)),(4,.sl 0 0 i i),(1,.pin 5 [.agg [.int .i64 no,.str ti,.fz 5 (xs.map scA),.fz 1 (go.map .str),.fz 4 (le.map leA)]] 0 0)])
  (fun i=>[.arr 1 (((nosL xs).take i).map .str)]) (fun i=>i<=xs.length) 0 (by omega) ?_ ?_
 .refine Shift.trans (Ls 4 1 rfl) (Lt ?_ (by rfl))
  simp only[go_sem]
 .intro i g1 J hJ
  by_cases gi:i<xs.length
  .have di:decide ((i:Int)<(xs.length:Int))=true:=by simp; omega
   have hg':List.getD (List.map scA xs) i .any=.agg [.str xs[i].no,.int .i64 xs[i].place,.str xs[i].set,.int .i64 xs[i].time,.fz 2 (xs[i].Ld.map paA)]:=by simp[List.getD,gi,scA]
   have hni:i<(nosL xs).length:=by omega
   have hnx:(nosL xs)[i]=xs[i].no:=by simp[nosL]
   have hlt:(List.take i (nosL xs)).length=i:=by simp; omega
   have hfin:=hJ (i+1) (by omega) (by omega);rw[laf hni,hnx]at hfin;apply zgB;simp only[go_sem,di,hg',laa,hlt]
   repeat refine aqg ?_
   rw[ic i];refine ainv hfin (Shift.trans (Shift.low 1 (e':=[(32,.int .i64 ((i+1:Nat):Int)),(31,.int .i64 xs.length),(30,.fz 5 (xs.map scA)),(4,.sl 0 0 (i+1) (i+1)),(1,.pin 5 [.agg [.int .i64 no,.str ti,.fz 5 (xs.map scA),.fz 1 (go.map .str),.fz 4 (le.map leA)]] 0 0)]) (by simp) (by simp) ?_ ?_) (Lt ?_ ?_))
   .have:=AaH ((nosL xs).take i++[xs[i].no])
    rw[lak]at this
    show(lowB 1 (.arr 1 _)&&true)=true
    rw[lax];exact AaD this
   .simp only[go_sem]
   .simp only [go_sem]
   .rw [lak]
    rfl
  .have di:decide ((i:Int)<(xs.length:Int))=false:=by simp; omega
   have hi:i=xs.length:=by omega
   subst hi;clear hJ;rw[<- hnl,laz,hnl];refine AWp.shift (Shift.trans (Shift.freeze 4 (id:=0) rfl rfl (by simp[nosL]) (lad _) (AaH _)) (Shift.low 0 (e':=[(32,.int .i64 xs.length),(31,.int .i64 xs.length),(4,.fz 1 ((nosL xs).map .str)),(1,.pin 5 [.agg [.int .i64 no,.str ti,.fz 5 (xs.map scA),.fz 1 (go.map .str),.fz 4 (le.map leA)]] 0 0)]) (by simp) (by simp) rfl ?_)) ?_
   .simp only[go_sem]
    rw[laj (by simp[nosL])]
   .apply zgB
    simp only[go_sem,di];refine A9H hris rfl rfl rfl ?_;rintro _ ⟨n,rfl,hn⟩;have hn0:n=0:=hn.2 ⟨hnum,fun i h=>List.pairwise_iff_getElem.1 hok.nums.rise i (i+1) _ _ (by omega)⟩;subst hn0;apply zgB;simp only[go_sem,d2,laa];refine AaE (ι:=Nat) (fun i=>go.length-i) (fun i=>[(50,.int .i64 i),(49,.int .i64 go.length),(48,.fz 1 (go.map .str)),(4,.fz 1 ((nosL xs).map .str)),(1,.pin 5 [.agg [.int .i64 no,.str ti,.fz 5 (xs.map scA),.fz 1 (go.map .str),.fz 4 (le.map leA)]] 0 0)])
     (fun i=>[]) (fun i=>i<=go.length) 0 (by omega) ?_ ?_
    .refine Lr ?_
     simp only[go_sem]
    .intro i g1 J hJ
     by_cases gi:i<go.length
     .have di:decide ((i:Int)<(go.length:Int))=true:=by simp; omega
      have hg':List.getD (go.map AV.str) i .any=.str go[i]:=by simp[List.getD,gi]
      have ei:((i:Int)+1).toNat=i+1:=by omega
      have hr2:=hrg i;rw[lco]at hr2;have hc2:=hct go[i];rw[show decide (go[i]∈nosL xs)=false by rw[lai]; exact hok.nums.apart _ (lac gi)]at hc2;have hfin:=hJ (i+1) (by omega) (by omega);apply zgB;simp only[go_sem,di,hg',ei,laa]
      repeat refine aqg ?_
      refine A9H hr2 rfl rfl rfl ?_;rintro _ ⟨n,rfl,hn⟩;have hn0:n=0:=hn.2 ⟨fun n hn=>hd.Lp n (lau hn),fun j h=>by
       simp only[List.getElem_take];exact List.pairwise_iff_getElem.1 hok.nums.riseG j (j+1) _ _ (by omega)⟩
      subst hn0;apply zgB;simp only[go_sem,d2];refine zpB (hc2) ?_;simp only[go_sem]
      repeat refine aqg ?_
      rw[ic i];refine ainv hfin (Lr ?_);simp only[go_sem]
     .have di:decide ((i:Int)<(go.length:Int))=false:=by simp; omega
      have hi:i=go.length:=by omega
      subst hi;clear hJ;have d3:decide ((xs.length:Int)+(go.length:Int)>300)=false:=by rw[lai]; omega
      apply zgB;simp only[go_sem,di,d3,laa,hnl]
      repeat refine aqg ?_
      refine AxJ hg hbf rfl rfl rfl ?_;rintro _ ⟨n,rfl,hn⟩;have hn0:n=0:=hn.2 hok.binder;subst hn0;apply zgB;simp only[go_sem,d2,laa];refine AaE (ι:=Nat) (fun i=>le.length-i) (fun i=>[(84,.int .i64 i),(83,.int .i64 le.length),(82,.fz 4 (le.map leA)),(1,.pin 5 [.agg [.int .i64 no,.str ti,.fz 5 (xs.map scA),.fz 1 (go.map .str),.fz 4 (le.map leA)]] 0 0)])
       (fun i=>[]) (fun i=>i<=le.length) 0 (by omega) ?_ ?_
      .refine Lr ?_
       simp only[go_sem]
      .intro i g1 J hJ
       by_cases gi:i<le.length
       .have di:decide ((i:Int)<(le.length:Int))=true:=by simp; omega
        have hg':=AgN gi;have hmd:=hmade _ (lac gi);have d4:decide (le[i].Lj>no)=false:=by rw[lai]; omega
        have hfin:=hJ (i+1) (by omega) (by omega);apply zgB;simp only[go_sem,di,hg',d4,laa]
        repeat refine aqg ?_
        rw[ic i];refine ainv hfin (Shift.low 0 (by simp) (by simp) rfl ?_);simp only[go_sem]
       .have di:decide ((i:Int)<(le.length:Int))=false:=by simp; omega
        apply zgB;simp only[go_sem,di];refine zqB hg (hlv) ?_;simp only[go_sem];exact zt [2]
