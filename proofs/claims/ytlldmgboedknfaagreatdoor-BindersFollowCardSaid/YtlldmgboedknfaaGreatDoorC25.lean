/- script.Check of right scripts. -/
import Derived.Test.YtlldmgboedknfaaGreatDoorC24
set_option maxRecDepth 100000
set_option maxHeartbeats 4000000
set_option linter.unusedSimpArgs false
set_option linter.unusedVariables false
namespace Go.Proofs.YtlldmgboedknfaaGreatDoor
open Go Go.Av Go.RowKit _root_.Go.Proofs.Tryz
def seenM(ks:List (List UInt8)):List (AV×AV):=ks.map fun k=>(.str k,.bool true)
theorem AfD{k:List UInt8}:∀ {ks:List (List UInt8)}{n:Nat},k ∉ ks->mfind .string (.str k) (seenM ks) n=some none
 | [],n,_=>rfl
 | a::r,n,h=>by
  simp only[List.mem_cons,not_or]at h;have:(k==a)=false:=by simpa using h.1
  simp only[seenM,List.map_cons,mfind,keyEq,this];exact AfD h.2
theorem AmO{k:List UInt8}:∀ {ks:List (List UInt8)}{n:Nat},k∈ks->∃ i,mfind .string (.str k) (seenM ks) n=some (some (n+i,.bool true))/\ks[i]? = some k
 | [],n,h=>by simp at h
 | a::r,n,h=>by
  by_cases e:k=a
  .subst e
   exact⟨0,by simp[seenM,mfind,keyEq],rfl⟩
  .have:(k==a)=false:=by simpa using e
   obtain⟨i,h1,h2⟩:=AmO (n:=n+1) ((List.mem_cons.1 h).resolve_left e);refine⟨i+1,?_,by simpa using h2⟩;simp only[seenM,List.map_cons,mfind,keyEq,this];rw[show n+(i+1)=n+1+i by omega];exact h1
def dd(acc:List (List UInt8))(k:List UInt8):List (List UInt8):=if k∈acc then acc else acc++[k]
def ArQ:List (List UInt8)->Bool->List Sc->Prop
 | _,_,[]=>True
 | acc,first,x::r=>(x.no=[]\/(numberL x.no=true/\x.no.length<1000000/\x.no ∉ acc))/\(1<=x.place/\x.place<=3)/\(1<=x.time/\x.time<=5)/\(first=true->x.time≠5)/\SceneOk x/\ArQ (dd acc x.no) false r
def paraSum(l:List Sc):Nat:=(l.map fun x=>x.paras.length).sum
structure ScriptOk(x:Sr):Prop where
 title:1<=x.title.length/\x.title.length<=60
 plain:plainL x.title=true
 len:x.scenes.length<=300
 many:paraSum x.scenes<=4000
 ok:ArQ [] true x.scenes
theorem AxJ(l:List Sc)(i:Nat)(h:i<l.length):paraSum (l.take (i+1))=paraSum (l.take i)+l[i].paras.length:=by
 simp only[paraSum,List.take_add_one,List.map_append,List.sum_append]
 simp[h]
theorem AoK(l:List Sc)(i:Nat):paraSum (l.take i)<=paraSum l:=by
 have:paraSum l=paraSum (l.take i)+paraSum (l.drop i):=by
  simp only[paraSum];rw[<- List.sum_append,<- List.map_append,List.take_append_drop]
 omega
theorem AeK(n:Nat)(ks:List (List UInt8)):lowB n (.mp (seenM ks))=true:=by
 show(seenM ks).all _=true
 rw[List.all_eq_true];intro x hx;simp only[seenM,List.mem_map]at hx;obtain⟨y,_,rfl⟩:=hx;rfl
theorem BcW{k:List UInt8}{ks:List (List UInt8)}:(∃ i v,mfind .string (.str k) (seenM ks) 0=some (some (i,v))/\(seenM ks).set i (.str k,.bool true)=seenM (dd ks k)) \/
  (mfind .string (.str k) (seenM ks) 0=some none/\seenM ks++[(.str k,.bool true)]=seenM (dd ks k)):=by
 by_cases h:k∈ks
 .left
  obtain⟨i,h1,h2⟩:=AmO (n:=0) h;refine⟨0+i,_,h1,?_⟩;have:(seenM ks)[i]? = some (.str k,.bool true):=by simp[seenM,h2]
  rw[Nat.zero_add];have hs:(seenM ks).set i (.str k,.bool true)=seenM ks:=by
   apply List.ext_getElem?;intro j;rw[List.getElem?_set]
   split
   .rename_i hj
    subst hj
    split
    .exact this.symm
    .rename_i hn
     rw[List.getElem?_eq_none (by omega)]at this
     cases this
   .rfl
  rw[hs]
  simp[dd,h]
 .right
  exact⟨AfD h,by simp[dd,h,seenM]⟩
theorem AfE{S:Std}(hS:LibOk S)(x:Sr)(hx:ScriptOk x):PcH prog S 18 [srA x] (· = .int .i64 0):=by
 obtain⟨ti,xs⟩:=x;have t1:=hx.title;have t2:=hx.plain;have t3:=hx.len;have t4:=hx.many;have t5:=hx.ok;simp only at t1 t2 t3 t4 t5;have d1:decide ((ti.length:Int)<1)=false:=by simp; omega
 have d2:decide ((ti.length:Int)>60)=false:=by simp; omega
 simp only[srA];refine zqIN func18 rfl fun h ρ w hg=>?_
 simp only[go_sem,d1,d2];refine zqN hg (AcO hS ti (by omega)) ?_;rw[t2];simp only[go_sem];refine AaI (ι:=Nat) (fun i=>xs.length-i)
  (fun i=>[(29,.int .i64 i),(28,.int .i64 xs.length),(27,.fz 5 (xs.map scA)),(3,.int .i64 (paraSum (xs.take i))),(1,.ptr 0 1 0 0)])
  (fun _=>[.arr 2 [.agg [.str ti,.fz 5 (xs.map scA)]]]) (fun i=>i<=xs.length) 0 (by simp) ?_ ?_
 .refine Shift.weak ?_
  simp only[go_sem,List.length_map]
  simp[paraSum]
 .intro i g1 J hJ
  by_cases gi:i<xs.length
  .have di:decide ((i:Int)<(xs.length:Int))=true:=by simp; omega
   have hg':List.getD (List.map scA xs) i .any=.agg [.str xs[i].no,.int .i64 xs[i].place,.str xs[i].set,.int .i64 xs[i].time,.fz 2 (xs[i].paras.map paA)]:=by simp[List.getD,gi,scA]
   have hs:=AxJ xs i gi;have hle:=AoK xs (i+1);refine zgN ?_;simp only[go_sem,di,hg',List.length_map]
   repeat refine And.intro (by first|omega|simpa using gi) ?_
   rw[show(paraSum (xs.take i):Int)+(xs[i].paras.length:Int)=(paraSum (xs.take (i+1)):Int) by omega,show(i:Int)+1=((i+1:Nat):Int) by omega];refine ainv (hJ (i+1) (by omega) (by omega)) (Shift.low 1 (by simp) (by simp) ?_ ?_)
   .simp only[go_sem,lowB,flat]
   .simp only [go_sem]
  .have di:decide ((i:Int)<(xs.length:Int))=false:=by simp; omega
   have:i=xs.length:=by omega
   subst this;rw[List.take_length];have d3:decide ((xs.length:Int)>300)=false:=by simp; omega
   have d4:decide ((paraSum xs:Int)>4000)=false:=by simp; omega
   refine zgN ?_;simp only[go_sem,di,d3,d4,List.length_map];refine AaI (ι:=Nat×List (List UInt8)) (fun y=>xs.length-y.1)
    (fun y=>[(51,.int .i64 y.1),(50,.int .i64 xs.length),(49,.fz 5 (xs.map scA)),(6,.mp 1),(1,.ptr 0 1 0 0)])
    (fun y=>[.arr 2 [.agg [.str ti,.fz 5 (xs.map scA)]],.mp (seenM y.2)]) (fun y=>y.1<=xs.length/\ArQ y.2 (decide (y.1=0)) (xs.drop y.1)) (0,[]) ⟨by simp,t5⟩ ?_ ?_
   .refine Shift.weak ?_
    simp only[go_sem]
   .clear hJ J
    rintro⟨i,acc⟩ ⟨g1,g2⟩ J hJ;simp only at g1 g2 hJ |-
    by_cases gi:i<xs.length
    .have di:decide ((i:Int)<(xs.length:Int))=true:=by simp; omega
     have hg':List.getD (List.map scA xs) i .any=.agg [.str xs[i].no,.int .i64 xs[i].place,.str xs[i].set,.int .i64 xs[i].time,.fz 2 (xs[i].paras.map paA)]:=by simp[List.getD,gi,scA]
     have hd:xs.drop i=xs[i]::xs.drop (i+1):=List.drop_eq_getElem_cons gi;rw[hd]at g2;obtain⟨c1,c2,c3,c4,c5,c6⟩:=g2;have e1:decide (xs[i].place<1)=false:=by simp; omega
     have e2:decide (xs[i].place>3)=false:=by simp; omega
     have e3:decide (xs[i].time<1)=false:=by simp; omega
     have e4:decide (xs[i].time>5)=false:=by simp; omega
     have e5:((i:Int)==0)=false\/((i:Int)==0)=true/\(xs[i].time==5)=false:=by
      by_cases h0:i=0
      .exact .inr ⟨by simp[h0],by simpa using c4 (by simp[h0])⟩
      .exact .inl (by simp; omega)
     have hsf:=AqV hS xs[i] c5;simp only[scA]at hsf;have nx:decide (i+1=0)=false:=by simp
     generalize hsc:xs[i]=sc at *;have fin:_:=fun h=>hJ (i+1,dd acc sc.no) ⟨by simp only; omega,by simp only; rw[nx]; exact c6⟩ h
     rcases c1 with h0|⟨n1,n2,n3⟩
     .have q0:(sc.no != [])=false:=by simp[h0]
      rcases e5 with e5|⟨e5,e6⟩
      .rcases @BcW sc.no acc with⟨j,v,m1,m2⟩|⟨m1,m2⟩
       .refine zgN ?_
        simp only[go_sem,di,hg',q0,e1,e2,e3,e4,e5,m1,m2]
        repeat refine And.intro (by first|omega|simpa using gi) ?_
        refine zqN hg (hsf) ?_;simp only[go_sem];refine⟨by omega,by omega,?_⟩;rw[ic i];refine ainv (fin (by simp only; omega)) (Shift.low 2 (by simp) (by simp) ?_ ?_)
        .simp only[go_sem,lowB,flat,↓AeK]
        .simp only [go_sem]
       .refine zgN ?_
        simp only[go_sem,di,hg',q0,e1,e2,e3,e4,e5,m1,m2]
        repeat refine And.intro (by first|omega|simpa using gi) ?_
        refine zqN hg (hsf) ?_;simp only[go_sem];refine⟨by omega,by omega,?_⟩;rw[ic i];refine ainv (fin (by simp only; omega)) (Shift.low 2 (by simp) (by simp) ?_ ?_)
        .simp only[go_sem,lowB,flat,↓AeK]
        .simp only [go_sem]
      .rcases @BcW sc.no acc with⟨j,v,m1,m2⟩|⟨m1,m2⟩
       .refine zgN ?_
        simp only[go_sem,di,hg',q0,e1,e2,e3,e4,e5,e6,m1,m2]
        repeat refine And.intro (by first|omega|simpa using gi) ?_
        refine zqN hg (hsf) ?_;simp only[go_sem];refine⟨by omega,by omega,?_⟩;rw[ic i];refine ainv (fin (by simp only; omega)) (Shift.low 2 (by simp) (by simp) ?_ ?_)
        .simp only[go_sem,lowB,flat,↓AeK]
        .simp only [go_sem]
       .refine zgN ?_
        simp only[go_sem,di,hg',q0,e1,e2,e3,e4,e5,e6,m1,m2]
        repeat refine And.intro (by first|omega|simpa using gi) ?_
        refine zqN hg (hsf) ?_;simp only[go_sem];refine⟨by omega,by omega,?_⟩;rw[ic i];refine ainv (fin (by simp only; omega)) (Shift.low 2 (by simp) (by simp) ?_ ?_)
        .simp only[go_sem,lowB,flat,↓AeK]
        .simp only [go_sem]
     .by_cases h0:sc.no=[]
      .rw [h0]at n1
       exact absurd n1 (by decide)
      have q0:(sc.no != [])=true:=by simp[h0]
      have m1:=@AfD sc.no acc 0 n3;have m2:seenM acc++[(.str sc.no,.bool true)]=seenM (dd acc sc.no):=by simp[dd,n3,seenM]
      rcases e5 with e5|⟨e5,e6⟩
      .refine zgN ?_
       simp only[go_sem,di,hg',q0,e1,e2,e3,e4,e5,m1,m2]
       repeat refine And.intro (by first|omega|simpa using gi) ?_
       refine zpN (AcK sc.no n2) ?_;rw[n1];simp only[go_sem,di,hg',q0,e1,e2,e3,e4,e5,m1,m2]
       repeat refine And.intro (by first|omega|simpa using gi) ?_
       refine zqN hg (hsf) ?_;simp only[go_sem];refine⟨by omega,by omega,?_⟩;rw[ic i];refine ainv (fin (by simp only; omega)) (Shift.low 2 (by simp) (by simp) ?_ ?_)
       .simp only[go_sem,lowB,flat,↓AeK]
       .simp only [go_sem]
      .refine zgN ?_
       simp only[go_sem,di,hg',q0,e1,e2,e3,e4,e5,e6,m1,m2]
       repeat refine And.intro (by first|omega|simpa using gi) ?_
       refine zpN (AcK sc.no n2) ?_;rw[n1];simp only[go_sem,di,hg',q0,e1,e2,e3,e4,e5,e6,m1,m2]
       repeat refine And.intro (by first|omega|simpa using gi) ?_
       refine zqN hg (hsf) ?_;simp only[go_sem];refine⟨by omega,by omega,?_⟩;rw[ic i];refine ainv (fin (by simp only; omega)) (Shift.low 2 (by simp) (by simp) ?_ ?_)
       .simp only[go_sem,lowB,flat,↓AeK]
       .simp only [go_sem]
    .have di:decide ((i:Int)<(xs.length:Int))=false:=by simp; omega
     refine zgN ?_;simp only[go_sem,di];exact zt [2]
end Go.Proofs.YtlldmgboedknfaaGreatDoor
set_option linter.unusedSectionVars false
namespace Go.Av
open Go Go.RowKit
variable [Tr]
end Go.Av
namespace Go.Av
open Go Go.RowKit
variable [Tr]
variable {c:Cx}{s:List Blk}
theorem BcX{g:Std}(hle:Le g c.w c.ρ){f:FuncId}{args:List AV}{post:AV->Prop}{K:AV->List Blk->Prop}(hc:PcH c.P g f args post)(ha:args.all nr1=true){id:Nat}{blk:Blk}(hid:s[id]? = some blk)
  (hin:∃ r,post r) (hk:∀ r,post r->K r s):BbK c f args id s K:=by
 have hsame:∀ {t:List Blk},t[id]? = some blk->t.set id blk=t:=fun{t} h=>by
  apply List.ext_getElem?;intro k;rw[List.getElem?_set]
  split
  .rename_i e
   subst e
   split
   .exact h.symm
   .rename_i h2
    rw[List.getElem?_eq_none (by omega)]
  .rfl
 refine⟨blk,fun r b=>b=blk/\post r,hid,⟨hc.1,fun h ρ t w vs hs m l rr=>?_⟩,?_,?_⟩
 .refine ((hc.cth ha t).2 h ρ w vs (hle.later l) m rr).mono ?_
  rintro en w' ⟨v,r,s',h',ρ',rfl,⟨hp,rfl⟩,m',l',rv⟩;exact⟨v,r,blk,h',ρ',rfl,⟨rfl,hp⟩,by rw[hsame hs]; exact m',by rw[hsame hs]; exact l',by rw[hsame hs]; exact rv⟩
 .obtain ⟨r,hr⟩:=hin
  exact⟨r,blk,rfl,hr⟩
 .rintro r b ⟨rfl,hr⟩
  rw[hsame hid];exact hk r hr
end Go.Av
namespace Go.Av
open Go Go.RowKit
variable [Tr]
theorem Agr.rfl'{n id:Nat}{s:List Blk}:Agr n id s s:=fun _ _ _=>rfl
def A4S(c:Cx)(n:Nat)(f:FuncId)(args:List AV)(id:Nat)(s:List Blk)(K:AV->List Blk->Prop):Prop :=
 ∃ post:AV->List Blk->Prop,(AaB c.P f=true/\∀ h ρ w vs,Mine h ρ s w->Later c.h c.ρ c.sto c.w h ρ s w->RL h (Lf ρ s) false vs args->Calls c.P f vs.toArray w fun en w' =>
  ∃ v r s' h' ρ',en=.returned v/\post r s'/\Mine h' ρ' s' w'/\Later h ρ s w h' ρ' s' w'/\RV h' (Lf ρ' s') false v r)/\(∃ r s',post r s')/\∀ r s',post r s'->Agr n id s s'/\K r s'
def ImpC(c:Cx)(n:Nat)(id:Nat)(o:Oper)(e:Env)(s:List Blk)(K:AV->List Blk->Prop):Prop :=
 o.guard=none/\∃ f args,xop false true c.P e s o.op=.call f args/\A4S c n f args id s K
def ChC(c:Cx)(ops:Array Oper)(im:List Nat)(n0 id:Nat)(K:Env->List Blk->Prop):List Nat->Env->List Blk->Prop
 | [],e,s=>K e s
 | i::r,e,s=>match ops[i]? with
  | none=>False
  | some o=>bif im.contains i then ImpC c n0 id o e s (fun v s'=>ChC c ops im n0 id K r (put e o.dst v) s')
   else(reader o.op=true->blind o.op=false->opOk n0 id e o.op=true)/\∃ cv v s',Does c ops s o cv e v s'/\ChC c ops im n0 id K r (put e o.dst v) s'
def okC(ops:List Oper)(im:List Nat)(j i:Nat):Bool:=match ops[j]?,ops[i]? with
 | some oj,some oi=>oj.apart ops.toArray oi&&(bif im.contains i then !im.contains j&&reader oj.op else bif im.contains j then reader oi.op else together oj oi)
 | _,_=>false
section
variable {cx:Cx}{ops:Array Oper}{s:List Blk}{K:Env->List Blk->Prop}{im:List Nat}{n0 id:Nat}
theorem ImpC.agree{o:Oper}{e e':Env}{s:List Blk}{K K':AV->List Blk->Prop}(h:∀ x∈o.op.operands,ev e x=ev e' x)(hK:∀ r s,K r s->K' r s)(x:ImpC cx n0 id o e s K):ImpC cx n0 id o e' s K':=by
 obtain⟨h1,f,args,h2,post,h4,h5,h6⟩:=x;exact⟨h1,f,args,by rw[<- AdD h]; exact h2,post,h4,h5,fun r b hp=>⟨(h6 r b hp).1,hK _ _ (h6 r b hp).2⟩⟩
theorem ChC.congr(hK:∀ e e' s,Eqv e e'->K e s->K e' s):∀ {l:List Nat}{e e':Env}{s:List Blk},Eqv e e'->ChC cx ops im n0 id K l e s->ChC cx ops im n0 id K l e' s
 | [],e,e',s,h,x=>hK e e' s h x
 | i::r,e,e',s,h,x=>by
  unfold ChC at x |-
  split at x
  .exact x.elim
  .rename_i o ho
   cases hi:im.contains i with
   | true =>
    rw[hi]at x;exact ImpC.agree (fun y _=>AiZ fun t _=>h t) (fun r' s' z=>ChC.congr hK (h.put _ _) z) x
   | false =>
    rw[hi]at x;obtain⟨h1,cv,v,s',h2,h3⟩:=x;exact⟨fun hr hb=>by rw[<- AbR (e:=e) (fun y _=>AiZ fun t _=>h t)]; exact h1 hr hb,cv,v,s',h2.agree fun t _=>h t,ChC.congr hK (h.put _ _) h3⟩
theorem ChC.swap{opl:List Oper}(hops:ops=opl.toArray)(hK:∀ e e' s,Eqv e e'->K e s->K e' s){i j:Nat}{r:List Nat}(hok:okC opl im j i=true){e:Env}{s:List Blk}(x:ChC cx ops im n0 id K (j::i::r) e s) :
  ChC cx ops im n0 id K (i::j::r) e s:=by
 unfold okC at hok
 split at hok
 rotate_left
 .cases hok
 rename_i oj oi hj' hi';have hj:ops[j]? = some oj:=by rw[hops]; simpa using hj'
 have hi:ops[i]? = some oi:=by rw[hops]; simpa using hi'
 simp only[Bool.and_eq_true]at hok;obtain⟨ha,hok⟩:=hok;rw[<- hops]at ha;obtain⟨a1,a2,a3⟩:=Oper.apart_spec ha;have gi:∀ (e:Env) (v:AV),A0X ops oi (put e oj.dst v) e:=fun e v t ht=>by
  rw[get_put,if_neg]; intro h; exact a1 t h ht
 have gj:∀ (e:Env) (v:AV),A0X ops oj e (put e oi.dst v):=fun e v t ht=>by
  rw[get_put,if_neg]; intro h; exact a3 t h ht
 have sw:∀ (e:Env) (v u:AV),Eqv (put (put e oj.dst v) oi.dst u) (put (put e oi.dst u) oj.dst v):=fun e v u=>AtK a2
 simp only[ChC,hi,hj]at x |-
 cases mi:im.contains i with
 | true =>
  rw[mi]at hok x;simp only[cond_true,Bool.and_eq_true,Bool.not_eq_true']at hok;obtain⟨mj,rj⟩:=hok;rw[mj]at x |-;simp only[cond_true,cond_false]at x |-;obtain⟨o1,cv,v,s',d1,y⟩:=x;obtain⟨rfl,_⟩:=AbK rj (o1 rj) (Agr.rfl' (n:=n0) (id:=id)) d1;obtain⟨h1,f,args,h2,post,h4,h5,h6⟩:=y;refine⟨h1,f,args,by rw[<- AdD (AbG (gi e v))]; exact h2,post,h4,h5,fun u b hp=>?_⟩;obtain⟨ag,hy⟩:=h6 u b hp;have hs:=(AbK rj (o1 rj) ag d1).2;refine⟨ag,fun _ hb=>?_,cv,v,_,hs.agree (gj e u),ChC.congr hK (sw e v u) hy⟩;rw[<- AbR (e:=e) (AbG (gj e u))];exact o1 rj hb
 | false =>
  rw[mi]at hok x;simp only[cond_false]at hok x |-
  cases mj:im.contains j with
  | true =>
   rw[mj]at hok x;simp only[cond_true]at hok x |-;obtain⟨h1,f,args,h2,post,h4,⟨u0,b0,h5⟩,h6⟩:=x;obtain⟨ag0,o0,cv0,v0,s0,d0,z0⟩:=h6 u0 b0 h5;have ok0:blind oi.op=false->opOk n0 id e oi.op=true:=fun hb=>by
    have:=o0 hok hb;rw[AbR (AbG (gi e u0))]at this;exact this
   have d0':Does cx ops b0 oi cv0 e v0 s0:=d0.agree (gi e u0);have d0s:=(AbK hok ok0 ag0.symm d0').2;refine⟨fun _=>ok0,cv0,v0,s,d0s,h1,f,args,?_,post,h4,⟨u0,b0,h5⟩,fun u b hp=>?_⟩
   .rw [<- AdD (AbG (gj e v0))]; exact h2
   .obtain ⟨ag,_,cv,v,s',d,y⟩:=h6 u b hp
    have d':Does cx ops b oi cv e v s':=d.agree (gi e u);obtain⟨e1,ds⟩:=AbK hok ok0 ag.symm d';subst e1;have:=A4A hok d0s ds;subst this;exact⟨ag,ChC.congr hK (sw e u v0) y⟩
  | false =>
   rw[mj]at hok x;simp only[cond_false]at hok x |-;obtain⟨o1,cv,v,s1,h1,o2,cu,u,s2,h2,h3⟩:=x;have h2':Does cx ops s1 oi cu e u s2:=h2.agree (gi e v);have h1':∀ {z z'},Does cx ops z oj cv e v z'->Does cx ops z oj cv (put e oi.dst u) v z':=fun hd=>hd.agree (gj e u)
   have h3':=ChC.congr hK (sw e v u) h3;have oi':∀ {n},reader oi.op=true->opOk n id (put e oj.dst v) oi.op=opOk n id e oi.op:=fun _=>AbR (AbG (gi e v))
   have oj':∀ {n},opOk n id e oj.op=opOk n id (put e oi.dst u) oj.op:=AbR (AbG (gj e u));simp only[Bool.or_eq_true,Bool.and_eq_true,together]at hok
   rcases hok with(⟨c1,c2⟩|c1)|c1
   .have e1:=h1.calm c1
    subst e1;have e2:=h2.calm c2;subst e2;exact⟨fun hr hb=>by rw[<- oi' hr]; exact o2 hr hb,cu,u,_,h2',fun hr hb=>by rw[<- oj']; exact o1 hr hb,cv,v,_,h1' h1,h3'⟩
   .have e1:=h1.calm (AcI c1)
    subst e1;exact⟨fun hr hb=>by rw[<- oi' hr]; exact o2 hr hb,cu,u,_,h2',fun hr hb=>(by rw[c1]at hb; cases hb),cv,v,_,h1' (h1.blind c1),h3'⟩
   .have e2:=h2.calm (AcI c1)
    subst e2;exact⟨fun hr hb=>(by rw[c1]at hb; cases hb),cu,u,_,h2'.blind c1,fun hr hb=>by rw[<- oj']; exact o1 hr hb,cv,v,_,h1' h1,h3'⟩
theorem ChC.front{opl:List Oper}(hops:ops=opl.toArray)(hK:∀ e e' s,Eqv e e'->K e s->K e' s):∀ (l:List Nat)(i:Nat)(r:List Nat)(e:Env)(s:List Blk),(∀ j∈l,okC opl im j i=true) ->
  ChC cx ops im n0 id K (l++i::r) e s->ChC cx ops im n0 id K (i::(l++r)) e s
 | [],_,_,_,_,_,x=>x
 | j::l,i,r,e,s,h,x=>by
  refine ChC.swap hops hK (h j (by simp)) ?_;have ih:=fun e s=>ChC.front hops hK l i r e s fun k hk=>h k (by simp[hk])
  simp only[List.cons_append,ChC]at x |-
  split at x
  .exact x.elim
  .rename_i o ho
   cases hm:im.contains j with
   | true =>
    rw[hm]at x;exact ImpC.agree (fun _ _=>rfl) (fun r' s' z=>ih _ _ z) x
   | false =>
    rw[hm]at x;obtain⟨h1,cv,v,s',h2,h3⟩:=x;exact⟨h1,cv,v,s',h2,ih _ _ h3⟩
end
section
variable {c:Cx}{k:List It}{e:Env}{s:List Blk}
theorem BjC{ops:List Oper}{im:List Nat}{n0 id:Nat}(hdst:∀ o∈ops,dOk c.fn.ntmps o.dst=true)(i:Nat)(o:Oper)(r:List Nat)(e:Env)(s:List Blk)(a:Act)(w:World)(Kc:Act->World->Prop)(ho:ops[i]? = some o)
  (x:ChC c ops.toArray im n0 id (fun e s=>AWp c k e s) (i::r) e s) (hs:Sim c e s a w) (hK:∀ e' s' a w,ChC c ops.toArray im n0 id (fun e s=>AWp c k e s) r e' s'->Sim c e' s' a w->Kc a w) :
  if Region.wanted o (yielded ops.toArray a.tmps) then o.wp c.P a w Kc (WQ c k) else Kc (a.put o.dst undef) w:=by
 have ho':ops.toArray[i]? = some o:=by simpa using ho
 have hd:=hdst o (List.mem_of_getElem? ho);simp only[ChC,ho']at x
 cases hm:im.contains i with
 | false =>
  rw[hm]at x;obtain⟨_,cv,v,s',h2,h3⟩:=x;exact AnR hs hd h2 fun a w hs'=>hK _ _ a w h3 hs'
 | true =>
  rw[hm]at x;obtain⟨hg,f,args,hx,post,h4,_,h6⟩:=x;rw[if_pos (by simp[Region.wanted,hg])];obtain⟨hh,ρ,hmm,hl,he,hdf,hsz,hX⟩:=hs;have hsnd:=AeY (P:=c.P) (wr:=false) (frz:=true) (o:=o) hmm he;rw[hx]at hsnd;obtain⟨vs,hv,hr⟩:=hsnd;unfold Oper.wp;rw[hr h4.1];refine(h4.2 hh ρ w vs hmm hl hv).mono ?_;rintro en w' ⟨u,r',b,h',ρ',rfl,hp,hm',hlt,rv⟩;have he':EnvOk h' ρ' b e a:=fun t=>(he t).mono hlt.hle hlt.keep
  exact hK _ _ _ _ (h6 r' b hp).2 ⟨h',ρ',hm',hl.trans hlt,he'.put (by rw[hsz]; exact hd) rv,by rw[AaE]; exact hdf,by rw[AaP]; exact hsz,c.hx.later hmm hlt hX⟩
mutual
def dxn(c:Cx)(all:List Oper)(im:List Nat)(n0 id:Nat)(k:List It):Nat->List Oper->List AV->Env->List Blk->Prop
 | _,[],_,e,s=>AWp c k e s
 | 0,_::_,_,_,_=>False
 | n+1,o::r,cs,e,s=>bif im.contains (rix all (o::r)) then
   (match o.guard,xop false true c.P e s o.op with
    | none,.call f args=>A4S c n0 f args id s (fun v s'=>dxn c all im n0 id k n r cs (put e o.dst v) s')
    | _,_=>False)
  else dck (reader o.op&&!blind o.op) n0 id e o.op/\dxnc c all im n0 id k n (dgrd c all s o r cs e o.guard)
def dxnc(c:Cx)(all:List Oper)(im:List Nat)(n0 id:Nat)(k:List It):Nat->Dn->Prop
 | n,.go r cs e s=>dxn c all im n0 id k n r cs e s
 | n,.two b r cs e r' cs' e' s=>dbrn c all im n0 id k n b r cs e r' cs' e' s
 | n,.side p r cs e s=>p/\dxn c all im n0 id k n r cs e s
 | _,.fail=>False
def dbrn(c:Cx)(all:List Oper)(im:List Nat)(n0 id:Nat)(k:List It):Nat->Bool->List Oper->List AV->Env->List Oper->List AV->Env->List Blk->Prop
 | 0,_,_,_,_,_,_,_,_=>False
 | n+1,b,r,cs,e,r',cs',e',s=>(b=true->dxn c all im n0 id k n r cs e s)/\(b=false->dxn c all im n0 id k n r' cs' e' s)
end
theorem AfF{all:List Oper}{im:List Nat}{n0 id n:Nat} {r cs e r' cs' e' s}:dbrn c all im n0 id k (n+1) true r cs e r' cs' e' s=dxn c all im n0 id k n r cs e s:=by rw[dbrn]; simp
theorem AdT{all:List Oper}{im:List Nat}{n0 id n:Nat} {r cs e r' cs' e' s}:dbrn c all im n0 id k (n+1) false r cs e r' cs' e' s=dxn c all im n0 id k n r' cs' e' s:=by rw[dbrn]; simp
theorem BmL{all:List Oper}{im:List Nat}{n0 id n:Nat}{o:Oper}{r:List Oper}{cs:List AV}(hm:im.contains (rix all (o::r))=false)(hg:o.guard=none)(h:dxn c all im n0 id k n (o::r) cs e s) :
  dck (reader o.op&&!blind o.op) n0 id e o.op/\∃ cv v n' cs' s',DoesOp c s o cv e v s'/\dxn c all im n0 id k n' r cs' (put e o.dst v) s':=by
 cases n with
 | zero=>rw[dxn]at h; exact h.elim
 | succ n =>
  rw[dxn,hm]at h;simp only[cond_false]at h;refine⟨h.1,?_⟩
  replace h:=h.2
  rw[hg]at h;unfold dgrd at h;unfold DoesOp
  revert h
  cases xop false true c.P e s o.op with
  | ok u=>intro h; simp only[dres,dxnc]at h; exact⟨.any,u,n,cs,s,⟨rfl,rfl⟩,h⟩
  | side p u=>intro h; simp only[dres,dxnc]at h; exact⟨.any,u,n,cs,s,⟨h.1,rfl,rfl⟩,h.2⟩
  | sto p u s'=>intro h; simp only[dres,dxnc]at h; exact⟨.any,u,n,cs,s',⟨h.1.1,h.1.2,rfl,rfl⟩,h.2⟩
  | pick b x y =>
   intro h; simp only[dres,dxnc]at h
   cases n with
   | zero=>rw[dbrn]at h; exact h.elim
   | succ n =>
   rw[dbrn]at h;refine⟨.any,_,n,cs,s,⟨rfl,rfl⟩,?_⟩
   cases b with
   | true=>exact h.1 rfl
   | false=>exact h.2 rfl
  | call f args =>
   intro h; simp only[dres]at h
   cases cs with
   | nil=>simp only[dcall,dxnc]at h
   | cons cv cs=>simp only[dcall,dxnc]at h; exact⟨cv,cv,n,cs,s,⟨h.1.1,h.1.2,rfl,rfl⟩,h.2⟩
  | anyb p=>intro h; simp only[dres,dxnc]at h
  | stuck=>intro h; simp only[dres,dxnc]at h
theorem BjD{all:List Oper}{im:List Nat}{n0 id n:Nat}{o:Oper}{r:List Oper}{cs:List AV}(hm:im.contains (rix all (o::r))=false)(h:dxn c all im n0 id k n (o::r) cs e s) :
  dck (reader o.op&&!blind o.op) n0 id e o.op/\∃ cv v n' cs' s',Does c all.toArray s o cv e v s'/\dxn c all im n0 id k n' r cs' (put e o.dst v) s':=by
 cases hg:o.guard with
 | none =>
  obtain⟨h0,cv,v,n',cs',s',h1,h2⟩:=BmL hm hg h;exact⟨h0,cv,v,n',cs',s',by unfold Does; rw[hg]; exact h1,h2⟩
 | some jw =>
  obtain⟨j,want⟩:=jw
  cases n with
  | zero=>rw[dxn]at h; exact h.elim
  | succ n =>
   rw[dxn,hm]at h;simp only[cond_false]at h;refine⟨h.1,?_⟩
   replace h:=h.2
   rw[hg]at h;unfold dgrd dyld at h
   cases hy:yldD want e all[j]? with
   | none=>simp only[hy,dxnc]at h
   | some b =>
    simp only[hy]at h;have key:(b=want->∃ n',dxn c all im n0 id k n' ({ o with guard:=none }::r) cs e s)/\(b≠want->∃ n',dxn c all im n0 id k n' r cs (put e o.dst (.raw undef)) s):=by
     cases n with
     | zero=>cases want <;> simp only[cond_true,cond_false,dxnc,dbrn]at h
     | succ n =>
      cases want <;> simp only[cond_true,cond_false,dxnc,dbrn]at h <;> cases b <;>
       first
       | exact⟨fun _=>⟨n,h.1 rfl⟩,fun hh=>(hh rfl).elim⟩
       | exact⟨fun _=>⟨n,h.2 rfl⟩,fun hh=>(hh rfl).elim⟩
       | exact⟨fun hh=>(by cases hh),fun _=>⟨n,h.1 rfl⟩⟩
       | exact⟨fun hh=>(by cases hh),fun _=>⟨n,h.2 rfl⟩⟩
    have hy':yldD want e all.toArray[j]? = some b:=by simpa using hy
    by_cases hb:b=want
    .obtain ⟨n1,h1⟩:=key.1 hb
     obtain⟨_,cv,v,n',cs',s',h1,h2⟩:=BmL (o:={ o with guard:=none }) (by exact hm) rfl h1;refine⟨cv,v,n',cs',s',?_,h2⟩;unfold Does;rw[hg];simp only[hy'];exact .inl ⟨hb,h1⟩
    .obtain ⟨n1,h1⟩:=key.2 hb
     refine⟨.any,.raw undef,n1,cs,s,?_,h1⟩;unfold Does;rw[hg];simp only[hy'];exact .inr ⟨hb,trivial,trivial⟩
theorem AkU{all:List Oper}{im:List Nat}{n0 id:Nat}:∀ {r:List Oper}{m n:Nat}{cs:List AV}{e:Env}{s:List Blk},(∀ (j:Nat),r[j]? = all[m+j]?)->all.length=m+r.length->dxn c all im n0 id k n r cs e s->ChC c all.toArray im n0 id (fun e s=>AWp c k e s) (List.range' m r.length) e s
 | [],m,n,cs,e,s,_,_,h=>by
  rw[dxn]at h;exact h
 | o::r,m,n,cs,e,s,hr,hlen,h=>by
  have h0:all.toArray[m]? = some o:=by have:=hr 0; simpa using this.symm
  have hix:rix all (o::r)=m:=by unfold rix; omega
  have hr':∀ j,r[j]? = all[m+1+j]?:=fun j=>by have:=hr (j+1); simpa[Nat.add_assoc,Nat.add_comm 1 j]using this
  simp only[List.length_cons,List.range'_succ,ChC,h0]
  cases hm:im.contains m with
  | true =>
   simp only[cond_true]
   cases n with
   | zero=>rw[dxn]at h; exact h.elim
   | succ n =>
    rw[dxn,hix,hm]at h;simp only[cond_true]at h
    split at h
    .rename_i f args hg hx
     obtain⟨post,h4,h5,h6⟩:=h;exact⟨hg,f,args,hx,post,h4,h5,fun u b hp=>⟨(h6 u b hp).1,AkU hr' (by simp at hlen; omega) (h6 u b hp).2⟩⟩
    .exact h.elim
  | false =>
   simp only[cond_false];obtain⟨hd,cv,v,n',cs',s',h1,h2⟩:=BjD (by rw[hix]; exact hm) h;refine⟨fun hr hb=>?_,cv,v,s',h1,AkU hr' (by simp at hlen; omega) h2⟩;unfold dck at hd
   simpa[hr,hb]using hd
theorem BcY(im:List Nat)(bid:Nat)(cs:List AV){id:Nat}{ops:List Oper}(hm:c.P.follows .mixedOrders=true)(hok:AiH (okC ops im) ops=true){N:Nat}(hN:c.fn.ntmps=N)(hdst:ops.all (fun o=>dOk N o.dst)=true)(n:Nat)
  (h:dxn c ops im s.length bid k n ops cs e s):AWp c (.code (.region id ops.toArray true)::k) e s:=by
 intro a w hsim;obtain⟨n1,hn1⟩:∃ n1,n1=s.length:=⟨_,rfl⟩;rw[<- hn1]at h;have hch:=AkU (m:=0) (by intro j; simp) (by simp) h;rw[<- List.range_eq_range']at hch;refine wp_region_any hm ?_;have hsim':Sim c e s a { w with drawn:=w.drawn+1 }:=by
  obtain⟨hh,ρ,hmm,hl,he,hdf,hsz,hX⟩:=hsim;have sm:Same w { w with drawn:=w.drawn+1 }:=Same.drew w;exact⟨hh,ρ,hmm.same sm,hl.trans (Later.same sm),he,hdf,hsz,c.hx.later hmm (Later.same sm) hX⟩
 have hd:∀ o∈ops,dOk c.fn.ntmps o.dst=true:=fun o ho=>by rw[hN]; exact(List.all_eq_true.1 hdst) o ho
 refine AkM (okp:=okC ops im) (ChC c ops.toArray im n1 bid (fun e s=>AWp c k e s)) hok (fun e s x=>x) (fun l i r e s hj x=>ChC.front rfl AWp.K l i r e s hj x) (fun i o r e s a w Kc ho x hs hK=>BjC hd i o r e s a w Kc ho x hs hK)
  ops.length (Array.replicate ops.length false) (List.range ops.length) e s a _ (by simp) ?_ (by simp) ?_ hch hsim'
 .symm
  rw[List.filter_eq_self];intro i hi
  simp at hi
  simp[hi]
 .intro i hi j hj
  exfalso
  by_cases h1:i<ops.length
  .simp [h1]at hi
  .unfold AdN at hj
   have:ops[i]? = none:=by simp; omega
   simp[this]at hj
theorem icc{n:Nat}{f:FuncId}{args:List AV}{post:AV->List Blk->Prop}{K:AV->List Blk->Prop}{id:Nat}(hc:Ct c.P f args s post)(hin:∃ r s',post r s')(hk:∀ r s',post r s'->Agr n id s s'/\K r s'):A4S c n f args id s K :=
 ⟨post,⟨hc.1,fun h ρ w vs m l rr=>hc.2 h ρ w vs m rr⟩,hin,hk⟩
theorem iccH{n:Nat}{g:Std}(hle:Le g c.w c.ρ){f:FuncId}{args:List AV}{post:AV->List Blk->Prop}{K:AV->List Blk->Prop}{id:Nat}(hc:CtH c.P g f args s post)(hin:∃ r s',post r s')(hk:∀ r s',post r s'->Agr n id s s'/\K r s'):A4S c n f args id s K :=
 ⟨post,⟨hc.1,fun h ρ w vs m l rr=>hc.2 h ρ w vs (hle.later l) m rr⟩,hin,hk⟩
theorem Agr.push'{n id:Nat}{s:List Blk}(h:n<=s.length)(t:List Blk):Agr n id s (s++t):=fun i hi _=>by
 rw[List.getD_eq_getElem?_getD,List.getD_eq_getElem?_getD,List.getElem?_append_left (by omega)]
end
end Go.Av
namespace Go.Av
open Go Go.RowKit
variable [Tr]
def WkC:List AV->List AV->Prop
 | [],[]=>True
 | a::r,b::r'=>(b=a\/b=.any\/∃ es,b=.fz es []/\a=.raw (.slice none 0 0))/\WkC r r'
 | _,_=>False
def WkL:List AV->List AV->Prop
 | [],[]=>True
 | a::r,b::r'=>(b=a\/∃ x y,a=.agg x/\b=.agg y/\WkC x y)/\WkL r r'
 | _,_=>False
section
variable {h:Mem}{L:Value->AV->Prop}{fl:Bool}
theorem RV.raw_is(hL:∀ v w,L v (.raw w)->v=w){v w:Value}(r:RV h L fl v (.raw w)):v=w:=by
 cases r with
 | leaf p=>exact hL _ _ p
 | raw=>rfl
theorem RL.wkc(hL:∀ v w,L v (.raw w)->v=w):∀ {x y:List AV}{vs:List Value},WkC x y->RL h L fl vs x->RL h L fl vs y
 | [],[],_,_,r=>r
 | a::x,b::y,_,⟨h1,h2⟩,r=>by
  cases r with
  | cons r1 r2 =>
   refine .cons ?_ (RL.wkc hL h2 r2)
   rcases h1 with rfl|rfl|⟨es,rfl,rfl⟩
   .exact r1
   .exact .any _
   .rw [r1.raw_is hL]; exact .fznil es
theorem RL.wkl(hL:∀ v w,L v (.raw w)->v=w)(hA:∀ v l,¬ L v (.agg l)):∀ {x y:List AV}{vs:List Value},WkL x y->RL h L fl vs x->RL h L fl vs y
 | [],[],_,_,r=>r
 | a::x,b::y,_,⟨h1,h2⟩,r=>by
  cases r with
  | cons r1 r2 =>
   refine .cons ?_ (RL.wkl hL hA h2 r2)
   rcases h1 with rfl|⟨p,q,rfl,rfl,hc⟩
   .exact r1
   .cases r1 with
    | leaf l=>exact(hA _ _ l).elim
    | agg vs l rl=>exact .agg _ _ (RL.wkc hL hc rl)
end
section
variable {P:Program}{g:Std}{f:FuncId}{args args':List AV}{post:AV->Prop}
theorem Pc.wk(hc:Pc P f args' post)(hw:WkL args args'):Pc P f args post :=
 ⟨hc.1,fun h w vs hm hv=>hc.2 h w vs hm (hv.wkl (fun _ _ e=>e.elim) (fun _ _ e=>e.elim) hw)⟩
theorem PcH.wk(hc:PcH P g f args' post)(hw:WkL args args'):PcH P g f args post :=
 ⟨hc.1,fun h w vs hs hm hv=>hc.2 h w vs hs hm (hv.wkl (fun _ _ e=>e.elim) (fun _ _ e=>e.elim) hw)⟩
theorem Ct.wk{s:List Blk}{post:AV->List Blk->Prop}(hc:Ct P f args' s post)(hw:WkL args args'):Ct P f args s post :=
 ⟨hc.1,fun h ρ w vs hm hv=>hc.2 h ρ w vs hm (hv.wkl (fun _ _ e=>e.2.elim) (fun _ _ e=>e.2.elim) hw)⟩
theorem CtH.wk{s:List Blk}{post:AV->List Blk->Prop}(hc:CtH P g f args' s post)(hw:WkL args args'):CtH P g f args s post :=
 ⟨hc.1,fun h ρ w vs hs hm hv=>hc.2 h ρ w vs hs hm (hv.wkl (fun _ _ e=>e.2.elim) (fun _ _ e=>e.2.elim) hw)⟩
theorem RL.last2{h:Mem}{ρ:Own}{s0:List Blk}{fl:Bool}{X Y:AV}(hX:one X=true)(hY:one Y=true):∀ {cs:List AV}{vs:List Value},RL h (Lf ρ s0) fl vs (cs++[X,Y])->∃ v w:Value,v.oneCell'=true/\w.oneCell'=true/\RL h (Lf ρ s0) fl vs (cs++[.raw v,.raw w])
 | [],_,r=>by
  cases r with
  | cons r1 r2 =>
   cases r2 with
   | cons r2 r3=>cases r3; exact⟨_,_,AiT r1 hX,AiT r2 hY,.cons (.raw _) (.cons (.raw _) .nil)⟩
 | c::cs,_,r=>by
  cases r with
  | cons r1 r2 =>
   obtain⟨v,w,h1,h2,h3⟩:=RL.last2 hX hY r2;exact⟨v,w,h1,h2,.cons r1 h3⟩
theorem CtH.last2{cs rest:List AV}{X Y:AV}{s:List Blk}{post:AV->List Blk->Prop}(hX:one X=true)(hY:one Y=true)
  (H:∀ v w:Value,v.oneCell'=true->w.oneCell'=true->CtH P g f (.agg (cs++[.raw v,.raw w])::rest) s post):CtH P g f (.agg (cs++[X,Y])::rest) s post:=by
 refine⟨(H (.slice none 0 0) (.slice none 0 0) rfl rfl).1,fun h ρ w vs hs hm hv=>?_⟩
 cases hv with
 | cons r1 r2 =>
  obtain⟨us,rfl,q1⟩:=AaN r1;obtain⟨a,b,h1,h2,h3⟩:=RL.last2 hX hY q1;exact(H a b h1 h2).2 h ρ w _ hs hm (.cons (.agg _ _ h3) r2)
theorem RL.last2z{h:Mem}{X Y:AV}(hX:one X=true)(hY:one Y=true):∀ {cs:List AV}{vs:List Value},RL h Lf0 true vs (cs++[X,Y])->∃ v w:Value,v.oneCell'=true/\w.oneCell'=true/\RL h Lf0 true vs (cs++[.raw v,.raw w])
 | [],_,r=>by
  cases r with
  | cons r1 r2 =>
   cases r2 with
   | cons r2 r3 =>
    cases r3
    have q1:=AiT (ρ:=fun _=>none) (sto:=[]) (r1.thaw (fun _ _ _ x=>x) (fl:=false)) hX;have q2:=AiT (ρ:=fun _=>none) (sto:=[]) (r2.thaw (fun _ _ _ x=>x) (fl:=false)) hY;exact⟨_,_,q1,q2,.cons (.raw _) (.cons (.raw _) .nil)⟩
 | c::cs,_,r=>by
  cases r with
  | cons r1 r2 =>
   obtain⟨v,w,h1,h2,h3⟩:=RL.last2z hX hY r2;exact⟨v,w,h1,h2,.cons r1 h3⟩
theorem PcH.last2{cs rest:List AV}{X Y:AV}(hX:one X=true)(hY:one Y=true)
  (H:∀ v w:Value,v.oneCell'=true->w.oneCell'=true->PcH P g f (.agg (cs++[.raw v,.raw w])::rest) post):PcH P g f (.agg (cs++[X,Y])::rest) post:=by
 refine⟨(H (.slice none 0 0) (.slice none 0 0) rfl rfl).1,fun h w vs hs hm hv=>?_⟩
 cases hv with
 | cons r1 r2 =>
  cases r1 with
  | agg us _ q1 =>
   obtain⟨a,b,h1,h2,h3⟩:=RL.last2z hX hY q1;exact(H a b h1 h2).2 h w _ hs hm (.cons (.agg _ _ h3) r2)
theorem RL.last1{h:Mem}{ρ:Own}{s0:List Blk}{fl:Bool}{Y:AV}(hY:one Y=true):∀ {cs:List AV}{vs:List Value},RL h (Lf ρ s0) fl vs (cs++[Y])->∃ w:Value,w.oneCell'=true/\RL h (Lf ρ s0) fl vs (cs++[.raw w])
 | [],_,r=>by
  cases r with
  | cons r1 r2=>cases r2; exact⟨_,AiT r1 hY,.cons (.raw _) .nil⟩
 | c::cs,_,r=>by
  cases r with
  | cons r1 r2 =>
   obtain⟨w,h2,h3⟩:=RL.last1 hY r2;exact⟨w,h2,.cons r1 h3⟩
theorem RL.last1z{h:Mem}{Y:AV}(hY:one Y=true):∀ {cs:List AV}{vs:List Value},RL h Lf0 true vs (cs++[Y])->∃ w:Value,w.oneCell'=true/\RL h Lf0 true vs (cs++[.raw w])
 | [],_,r=>by
  cases r with
  | cons r1 r2 =>
   cases r2
   exact⟨_,AiT (ρ:=fun _=>none) (sto:=[]) (r1.thaw (fun _ _ _ x=>x) (fl:=false)) hY,.cons (.raw _) .nil⟩
 | c::cs,_,r=>by
  cases r with
  | cons r1 r2 =>
   obtain⟨w,h2,h3⟩:=RL.last1z hY r2;exact⟨w,h2,.cons r1 h3⟩
theorem Ct.last1{cs rest:List AV}{Y:AV}{s:List Blk}{post:AV->List Blk->Prop}(hY:one Y=true)
  (H:∀ w:Value,w.oneCell'=true->Ct P f (.agg (cs++[.raw w])::rest) s post):Ct P f (.agg (cs++[Y])::rest) s post:=by
 refine⟨(H (.slice none 0 0) rfl).1,fun h ρ w vs hm hv=>?_⟩
 cases hv with
 | cons r1 r2 =>
  obtain⟨us,rfl,q1⟩:=AaN r1;obtain⟨b,h2,h3⟩:=RL.last1 hY q1;exact(H b h2).2 h ρ w _ hm (.cons (.agg _ _ h3) r2)
theorem Pc.last1{cs rest:List AV}{Y:AV}{post:AV->Prop}(hY:one Y=true)
  (H:∀ w:Value,w.oneCell'=true->Pc P f (.agg (cs++[.raw w])::rest) post):Pc P f (.agg (cs++[Y])::rest) post:=by
 refine⟨(H (.slice none 0 0) rfl).1,fun h w vs hm hv=>?_⟩
 cases hv with
 | cons r1 r2 =>
  cases r1 with
  | agg us _ q1 =>
   obtain⟨b,h2,h3⟩:=RL.last1z hY q1;exact(H b h2).2 h w _ hm (.cons (.agg _ _ h3) r2)
end
