/- The reader of scripts, at the constant's lines. -/
import Derived.Test.YtgenkcmfeeakoaaGreatDoorX30
import Derived.Shelf.SlGeneric
import Derived.Shelf.SlSortCmp.NoneTotal
set_option maxRecDepth 100000
set_option linter.all false
namespace Go.Proofs.YtgenkcmfeeakoaaGreatDoor
open Av RowKit
def T1(k:Int):LB:=[.arr 2 [.agg [.str [],.raw (.slice none 0 0)]],.arr 3 [.agg [.str [84],.sl 3 0 1 1,.int .i64 k]],
 .arr 5 [.agg [.str [],.int .i64 1,.str [72,65,76,76],.int .i64 1,.raw (.slice none 0 0)]],.arr 5 [.agg [.str [],.int .i64 1,.str [72,65,76,76],.int .i64 1,.raw (.slice none 0 0)]]]
def T2:LB:=[.arr 2 [.agg [.str [],.raw (.slice none 0 0)]],.arr 3 [.agg [.str [84],.sl 3 0 1 1,.int .i64 3]],
 .arr 5 [.agg [.str [],.int .i64 1,.str [72,65,76,76],.int .i64 1,.raw (.slice none 0 0)]],.arr 5 [.agg [.str [],.int .i64 1,.str [72,65,76,76],.int .i64 1,.sl 5 0 1 1]],
 .arr 2 [.agg [.int .i64 1,.str [82,97,105,110,46]]],.arr 2 [.agg [.int .i64 1,.str [82,97,105,110,46]]]]
def fitsB(no b:LU):Bool:=no != []&&(b==[]||decide (compareN no b<0))
def btw(a b:LU):Nat->Nat->LU
 | 0,_=>[]
 | f+1,n=>if fitsB (AqV a n) b then AqV a n else btw a b f (n+1)
def AaS(a b:LU):LU:=btw a b 6 0
theorem A7O{p:UInt8->Bool}(h:∀ n:Fin 256,p (UInt8.ofNat n.1)=true)(c:UInt8):p c=true:=by
 have h1:=c.toNat_lt;have h2:=h ⟨c.toNat,h1⟩
 simp_all
theorem BwW(c:UInt8):CAPS.contains c=capB c:=by
 have:=A7O (p:=fun c=>CAPS.contains c==capB c) (by decide +kernel) c
 grind
theorem BgW(s:LU):(caps s).length<=s.length:=by
 have:=congrArg List.length (AbF s)
 grind
theorem BgX{p:UInt8->Bool}:∀ l:LU,l.dropWhile p=[] ↔ l.all p=true
 | []=>by simp
 | c::r=>by
  by_cases h:p c=true
  .simp [h,BgX r]
  .have h':p c=false:=by simpa using h
   simp[h']
theorem BaP(c:LU):(Lib.trimS c CAPS==[])=c.all capB:=by
 have hf:=funext BwW;unfold Lib.trimS Lib.trimLeftS Lib.trimRightS
 cases h:c.all capB with
 | true =>
  grind[BgX]
 | false =>
  rw[lbe];intro e;have h1:=(BgX _).1 e;have h2:c.reverse=c.reverse.takeWhile capB++c.reverse.dropWhile capB:=(List.takeWhile_append_dropWhile).symm;have h3:c.reverse.all capB=true:=by
   grind[List.all_takeWhile]
  grind
theorem BpM(s:LU):numberL s=(decide (1<=(digs s).length)&&(decide ((digs s).length<=3)&&(!decide (((caps s).length:Int)>5)&&((caps s).all capB&&(!Lib.hasSuffix (caps s) [65]&&(((s.getD 0 0).toNat:Int) != 48||(digs s==[48]&&caps s != []))))))):=by
 unfold numberL
 by_cases hd:digs s=[48]
 .have hs0:s.getD 0 0=48:=by grind[AbF]
  rw[hd,hs0]
  grind
 grind
def pA(a:LU):Int:=if a=[] then 0 else pN a
def candR(a:LU)(n:Nat):List LU :=
 if n=0 then[Lib.itoa (pA a+1)] else(if aboveL (caps a) n≠[] then[Lib.itoa (pA a)++aboveL (caps a) n] else[])++[Lib.itoa (pA a+1)++lowestL n]
def fitR(b x:LU):Bool:=numberL x&&(b==[]||decide (compareN x b<0))
def betR(a b:LU):Nat->Nat->LU
 | 0,_=>[]
 | f+1,n=>match(candR a n).find? (fitR b)with
  | some x=>x
  | none=>betR a b f (n+1)
theorem big_not:Lib.itoa 1000=[49,48,48,48]:=by decide +kernel
theorem big_no(c:LU)(hc:c.all capB=true):numberL (Lib.itoa 1000++c)=false:=by
 rw[big_not];obtain⟨e1,e2⟩:=AxU (d:=[49,48,48,48]) (by decide) hc
 grind[numberL]
theorem BwX{a:LU}(ha:a=[]\/numberL a=true):0<=pA a/\pA a<=999:=by
 unfold pA
 split<;>simp_all[AkC]
theorem BgY{a b:LU}(ha:a=[]\/numberL a=true)(hb:b=[]\/numberL b=true){n:Nat}(hn:n<=5):(candR a n).find? (fitR b)=if fitsB (AqV a n) b then some (AqV a n) else none:=by
 have hp:=BwX ha;have hcap:(caps a).all capB=true:=by
  rcases ha with rfl|ha
  .rfl
  simp_all[AaZ]
 have one:∀ x:LU,[x].find? (fitR b)=if fitR b x then some x else none:=fun x=>by
  grind
 have fit:∀ x:LU,numberL x=true->fitR b x=fitsB x b:=fun x hx=>by
  have hne:(x != [])=true:=by
   cases x<;>simp_all[numberL,digs]
  grind[fitR,fitsB]
 have upper:∀ c:LU,c.all capB=true->c.length<=5->Lib.hasSuffix c [65]=false ->
   [Lib.itoa (pA a+1)++c].find? (fitR b)=if fitsB (if pA a+1>999 then[] else dig3 (pA a+1)++c) b then some (if pA a+1>999 then[] else dig3 (pA a+1)++c) else none:=fun c hc hl hs=>by
  grind[fitR,big_no,fitsB,itoa_dig3,number_of]
 have hlow:n≠0->(lowestL n).length<=5:=fun h0=>by
  grind[lowestL,Lib.repeatL_length]
 have hX:AqV a n=if n=0 then(if pA a+1>999 then[] else dig3 (pA a+1)++[]) else if aboveL (caps a) n=[] then(if pA a+1>999 then[] else dig3 (pA a+1)++lowestL n) else dig3 (pA a)++aboveL (caps a) n:=by
  unfold AqV nextX pA
  by_cases h0:a=[]
  .subst h0
   by_cases hn0:n=0
   .grind
   .have hab:aboveL (caps []) n=lowestL n:=by
     have:caps []=[]:=rfl
     simp_all[aboveL]
    grind[lowest_ne]
  grind[pA]
 rw[hX];unfold candR
 by_cases hn0:n=0
 .rw [if_pos hn0,if_pos hn0]
  have:=upper [] rfl (by simp) (by decide)
  grind
 .rw [if_neg hn0,if_neg hn0]
  have hlc:=lowest_cap n
  by_cases hab:aboveL (caps a) n=[]
  .grind[lowest_suf]
  .rw [if_pos hab,if_neg hab]
   have hac:=AxT hcap n;have hal:(aboveL (caps a) n).length<=5:=by grind[AsN]
   obtain⟨x1,x2,x3⟩:=number_of hp.1 hp.2 hac hal (above_suf.resolve_right hab) (fun _=>hab);rw[itoa_dig3 hp.1 hp.2,lbb,lbx,List.find?_cons,fit _ x1]
   cases hf:fitsB (dig3 (pA a)++aboveL (caps a) n) b with
   | true=>rfl
   | false =>
    simp only[lan,if_false];rw[one];have:fitR b (Lib.itoa (pA a+1)++lowestL n)=false:=by
     by_cases h9:pA a+1>999
     .have e:pA a+1=1000:=by omega
      grind[fitR,big_no]
     .rw [itoa_dig3 (by omega) (by omega)]
      obtain⟨y1,y2,y3⟩:=number_of (d:=pA a+1) (by omega) (by omega) hlc (hlow hn0) (lowest_suf n) (fun h=>by omega);rw[<- fit _ x1]at hf;simp only[fitR,x1,y1,lbt,lch,lai]at hf |-;refine⟨hf.1,fun h=>hf.2 ?_⟩;rw[compareN_lt]at h |-;exact nLt_trans (.inl (by omega)) h
    grind
theorem BtJ{a b:LU}(ha:a=[]\/numberL a=true)(hb:b=[]\/numberL b=true):∀ f n,n+f<=6->betR a b f n=btw a b f n
 | 0,_,_=>rfl
 | f+1,n,h=>by
  simp only[betR,btw];rw[BgY ha hb (by omega)]
  split
  .rename_i x hx
   split at hx
   .rename_i hf
    rw[if_pos hf,<- lcm hx]
   .cases hx
  .rename_i hx
   split at hx
   .cases hx
   .rename_i hf
    rw[if_neg hf];exact BtJ ha hb f (n+1) (by omega)
end Go.Proofs.YtgenkcmfeeakoaaGreatDoor
namespace Go.Av
open RowKit
variable [Tr]
def gOnB(ops:Array Oper)(e:Env)(o:Oper):Bool:=match o.guard with
 | none=>true
 | some (j,want)=>match yldD want e ops[j]? with
  | some b=>b==want
  | none=>false
theorem ApD{ops:Array Oper}{o:Oper}{e e':Env}(h:AiV ops o e e'):gOnB ops e o=gOnB ops e' o:=by
 grind[gOnB,AxF]
def ImpG(c:Cx)(ops:Array Oper)(n:Nat)(id:Nat)(o:Oper)(e:Env)(s:LB)(K:AV->LB->Prop):Prop :=
 gOnB ops e o=true/\∃ f args,xop false true c.P e s o.op=.call f args/\AsG c n f args id s K
def ChG(c:Cx)(ops:Array Oper)(im:List Nat)(n0 id:Nat)(K:Env->LB->Prop):List Nat->Env->LB->Prop
 | [],e,s=>K e s
 | i::r,e,s=>match ops[i]? with
  | none=>False
  | some o=>bif im.contains i then ImpG c ops n0 id o e s (fun v s'=>ChG c ops im n0 id K r (put e o.dst v) s')
   else(reader o.op=true->blind o.op=false->opOk n0 id e o.op=true)/\∃ cv v s',Does c ops s o cv e v s'/\ChG c ops im n0 id K r (put e o.dst v) s'
def okG(ops:List Oper)(im:List Nat)(j i:Nat):Bool:=match ops[j]?,ops[i]? with
 | some oj,some oi=>oj.apart ops.toArray oi&&(bif im.contains i then !im.contains j&&reader oj.op else bif im.contains j then reader oi.op else together oj oi)
 | _,_=>false
section
variable {cx:Cx}{ops:Array Oper}{s:LB}{K:Env->LB->Prop}{im:List Nat}{n0 id:Nat}
theorem ImpG.agree{o:Oper}{e e':Env}{s:LB}{K K':AV->LB->Prop}(h:AiV ops o e e')(hK:∀ r s,K r s->K' r s)(x:ImpG cx ops n0 id o e s K):ImpG cx ops n0 id o e' s K':=by
 obtain⟨h1,f,args,h2,post,h4,h5,h6⟩:=x;exact⟨by grind[ApD],f,args,by grind[xop_agree,AaG],post,h4,h5,fun r b hp=>⟨(h6 r b hp).1,hK _ _ (h6 r b hp).2⟩⟩
theorem ChG.congr(hK:∀ e e' s,Eqv e e'->K e s->K e' s):∀ {l:List Nat}{e e':Env}{s:LB},Eqv e e'->ChG cx ops im n0 id K l e s->ChG cx ops im n0 id K l e' s
 | [],e,e',s,h,x=>hK e e' s h x
 | i::r,e,e',s,h,x=>by
  unfold ChG at x |-
  split at x
  .exact x.elim
  .cases hi:im.contains i with
   | true =>
    rw[hi]at x;exact ImpG.agree (fun t _=>h t) (fun r' s' z=>ChG.congr hK (h.put _ _) z) x
   | false =>
    rw[hi]at x;obtain⟨h1,cv,v,s',h2,h3⟩:=x;exact⟨fun hr hb=>by rw[<- opOk_agree (fun y _=>AeQ fun t _=>h t)]; exact h1 hr hb,cv,v,s',h2.agree fun t _=>h t,ChG.congr hK (h.put _ _) h3⟩
theorem ChG.swap{opl:List Oper}(hops:ops=opl.toArray)(hK:∀ e e' s,Eqv e e'->K e s->K e' s){i j:Nat}{r:List Nat}(hok:okG opl im j i=true){e:Env}{s:LB}(x:ChG cx ops im n0 id K (j::i::r) e s) :
  ChG cx ops im n0 id K (i::j::r) e s:=by
 unfold okG at hok
 split at hok
 rotate_left
 .grind
 rename_i oj oi hj' hi';have hj:ops[j]? = some oj:=by grind
 have hi:ops[i]? = some oi:=by grind
 simp only[lae]at hok;obtain⟨ha,hok⟩:=hok;obtain⟨a1,a2,a3⟩:=Oper.apart_spec ha;have gi:∀ (e:Env) (v:AV),AiV ops oi (put e oj.dst v) e:=fun e v t ht=>by
  grind[get_put]
 have gj:∀ (e:Env) (v:AV),AiV ops oj e (put e oi.dst v):=fun e v t ht=>by
  grind[get_put]
 have sw:∀ (e:Env) (v u:AV),Eqv (put (put e oj.dst v) oi.dst u) (put (put e oi.dst u) oj.dst v):=fun e v u=>AjP a2
 simp only[ChG,hi,hj]at x |-
 cases mi:im.contains i with
 | true =>
  rw[mi]at hok x;simp only[lav,lae,lbv]at hok;obtain⟨mj,rj⟩:=hok;rw[mj]at x |-
  simp at x |-
  obtain⟨o1,cv,v,s',d1,y⟩:=x;obtain⟨rfl,_⟩:=AaJ rj (o1 rj) (Agr.rfl') d1;obtain⟨h1,f,args,h2,post,h4,h5,h6⟩:=y;refine⟨by grind[ApD],f,args,by grind[xop_agree,AaG],post,h4,h5,fun u b hp=>?_⟩;obtain⟨ag,hy⟩:=h6 u b hp;have hs:=(AaJ rj (o1 rj) ag d1).2;refine⟨ag,fun _ hb=>?_,cv,v,_,hs.agree (gj e u),ChG.congr hK (sw e v u) hy⟩<;>grind[opOk_agree,AaG]
 | false =>
  rw[mi]at hok x;simp only[lbp]at hok x |-
  cases mj:im.contains j with
  | true =>
   rw[mj]at hok x
   simp at hok x |-
   obtain⟨h1,f,args,h2,post,h4,⟨u0,b0,h5⟩,h6⟩:=x;obtain⟨ag0,o0,cv0,v0,s0,d0,z0⟩:=h6 u0 b0 h5;have ok0:blind oi.op=false->opOk n0 id e oi.op=true:=fun hb=>by
    grind[opOk_agree,AaG]
   have d0':Does cx ops b0 oi cv0 e v0 s0:=d0.agree (gi e u0);have d0s:=(AaJ hok ok0 ag0.symm d0').2;refine⟨fun _=>ok0,cv0,v0,s,d0s,by grind[ApD],f,args,?_,post,h4,⟨u0,b0,h5⟩,fun u b hp=>?_⟩
   .grind[xop_agree,AaG]
   .obtain ⟨ag,_,cv,v,s',d,y⟩:=h6 u b hp
    have d':Does cx ops b oi cv e v s':=d.agree (gi e u);obtain⟨e1,ds⟩:=AaJ hok ok0 ag.symm d'
    grind[does_det,ChG.congr]
  | false =>
   rw[mj]at hok x
   simp at hok x |-
   obtain⟨o1,cv,v,s1,h1,o2,cu,u,s2,h2,h3⟩:=x;have h2':Does cx ops s1 oi cu e u s2:=h2.agree (gi e v);have h1':∀ {z z'},Does cx ops z oj cv e v z'->Does cx ops z oj cv (put e oi.dst u) v z':=fun hd=>hd.agree (gj e u)
   have h3':=ChG.congr hK (sw e v u) h3;have oi':∀ {n},reader oi.op=true->opOk n id (put e oj.dst v) oi.op=opOk n id e oi.op:=fun _=>opOk_agree (AaG (gi e v))
   have oj':∀ {n},opOk n id e oj.op=opOk n id (put e oi.dst u) oj.op:=opOk_agree (AaG (gj e u));simp only[lbj,lae,together]at hok
   rcases hok with(⟨c1,c2⟩|c1)|c1
   .have e1:=h1.calm c1
    subst e1;have e2:=h2.calm c2
    grind
   .have e1:=h1.calm (blind_calm c1)
    subst e1;exact⟨fun hr hb=>by grind,cu,u,_,h2',fun hr hb=>(by grind),cv,v,_,h1' (h1.blind c1),h3'⟩
   .have e2:=h2.calm (blind_calm c1)
    subst e2;exact⟨fun hr hb=>(by grind),cu,u,_,h2'.blind c1,fun hr hb=>by grind,cv,v,_,h1' h1,h3'⟩
theorem ChG.front{opl:List Oper}(hops:ops=opl.toArray)(hK:∀ e e' s,Eqv e e'->K e s->K e' s):∀ (l:List Nat)(i:Nat)(r:List Nat)(e:Env)(s:LB),(∀ j∈l,okG opl im j i=true) ->
  ChG cx ops im n0 id K (l++i::r) e s->ChG cx ops im n0 id K (i::(l++r)) e s
 | [],_,_,_,_,_,x=>x
 | j::l,i,r,e,s,h,x=>by
  refine ChG.swap hops hK (h j (by simp)) ?_;have ih:=fun e s=>ChG.front hops hK l i r e s fun k hk=>h k (by simp[hk])
  simp only[lbb,ChG]at x |-
  split at x
  .exact x.elim
  .cases hm:im.contains j with
   | true =>
    rw[hm]at x;exact ImpG.agree (fun _ _=>rfl) (fun r' s' z=>ih _ _ z) x
   | false =>
    rw[hm]at x;obtain⟨h1,cv,v,s',h2,h3⟩:=x;exact⟨h1,cv,v,s',h2,ih _ _ h3⟩
end
section
variable {c:Cx}{k:List It}{e:Env}{s:LB}
theorem BaQ{ops:Array Oper}{o:Oper}{a:Act}{w:World}(hs:Sim c e s a w)(hg:gOnB ops e o=true):Region.wanted o (yielded ops a.tmps):=by
 obtain⟨hh,ρ,hm,hl,he,hdf,hsz,hX⟩:=hs;unfold gOnB at hg
 cases hq:o.guard with
 | none=>grind[Region.wanted]
 | some p =>
  obtain⟨j,want⟩:=p;rw[hq]at hg;simp only at hg
  cases hb:yldD want e ops[j]? with
  | none=>grind
  | some b =>
   have hy:=AkY (all:=ops.toList) he (by simpa using hb)
   simp_all[Region.wanted]
theorem BpN{ops:List Oper}{im:List Nat}{n0 id:Nat}(hdst:∀ o∈ops,dOk c.fn.ntmps o.dst=true)(i:Nat)(o:Oper)(r:List Nat)(e:Env)(s:LB)(a:Act)(w:World)(Kc:Act->World->Prop)(ho:ops[i]? = some o)
  (x:ChG c ops.toArray im n0 id (fun e s=>AWp c k e s) (i::r) e s) (hs:Sim c e s a w) (hK:∀ e' s' a w,ChG c ops.toArray im n0 id (fun e s=>AWp c k e s) r e' s'->Sim c e' s' a w->Kc a w) :
  if Region.wanted o (yielded ops.toArray a.tmps) then o.wp c.P a w Kc (WQ c k) else Kc (a.put o.dst undef) w:=by
 have ho':ops.toArray[i]? = some o:=by grind
 have hd:=hdst o (lar ho);simp only[ChG,ho']at x
 cases hm:im.contains i with
 | false =>
  rw[hm]at x;obtain⟨_,cv,v,s',h2,h3⟩:=x;exact AkZ hs hd h2 fun a w hs'=>hK _ _ a w h3 hs'
 | true =>
  rw[hm]at x;obtain⟨hg,f,args,hx,post,h4,_,h6⟩:=x;rw[if_pos (BaQ hs hg)];obtain⟨hh,ρ,hmm,hl,he,hdf,hsz,hX⟩:=hs;have hsnd:=AgV (P:=c.P) (wr:=false) (frz:=true) (o:=o) hmm he;rw[hx]at hsnd;obtain⟨vs,hv,hr⟩:=hsnd;unfold Oper.wp;rw[hr h4.1];refine(h4.2 hh ρ w vs hmm hl hv).mono ?_;rintro en w' ⟨u,r',b,h',ρ',rfl,hp,hm',hlt,rv⟩;have he':EnvOk h' ρ' b e a:=fun t=>(he t).mono hlt.hle hlt.keep
  exact hK _ _ _ _ (h6 r' b hp).2 ⟨h',ρ',hm',hl.trans hlt,he'.put (by grind) rv,by grind[AaU],by grind[AcD],c.hx.later hmm hlt hX⟩
mutual
def dxq(c:Cx)(all:List Oper)(im:List Nat)(n0 id:Nat)(k:List It):Nat->List Oper->LA->Env->LB->Prop
 | _,[],_,e,s=>AWp c k e s
 | 0,_::_,_,_,_=>False
 | n+1,o::r,cs,e,s=>bif im.contains (rix all (o::r)) then
   (match gOnB all.toArray e o,xop false true c.P e s o.op with
    | true,.call f args=>AsG c n0 f args id s (fun v s'=>dxq c all im n0 id k n r cs (put e o.dst v) s')
    | _,_=>False)
  else dck (reader o.op&&!blind o.op) n0 id e o.op/\dxqc c all im n0 id k n (dgrd c all s o r cs e o.guard)
def dxqc(c:Cx)(all:List Oper)(im:List Nat)(n0 id:Nat)(k:List It):Nat->Dn->Prop
 | n,.go r cs e s=>dxq c all im n0 id k n r cs e s
 | n,.two b r cs e r' cs' e' s=>dbrq c all im n0 id k n b r cs e r' cs' e' s
 | n,.side p r cs e s=>p/\dxq c all im n0 id k n r cs e s
 | _,.fail=>False
def dbrq(c:Cx)(all:List Oper)(im:List Nat)(n0 id:Nat)(k:List It):Nat->Bool->List Oper->LA->Env->List Oper->LA->Env->LB->Prop
 | 0,_,_,_,_,_,_,_,_=>False
 | n+1,b,r,cs,e,r',cs',e',s=>(b=true->dxq c all im n0 id k n r cs e s)/\(b=false->dxq c all im n0 id k n r' cs' e' s)
end
theorem AdC{all:List Oper}{im:List Nat}{n0 id n:Nat} {r cs e r' cs' e' s}:dbrq c all im n0 id k (n+1) true r cs e r' cs' e' s=dxq c all im n0 id k n r cs e s:=by grind[dbrq]
theorem AcJ{all:List Oper}{im:List Nat}{n0 id n:Nat} {r cs e r' cs' e' s}:dbrq c all im n0 id k (n+1) false r cs e r' cs' e' s=dxq c all im n0 id k n r' cs' e' s:=by grind[dbrq]
theorem BtK{all:List Oper}{im:List Nat}{n0 id n:Nat}{o:Oper}{r:List Oper}{cs:LA}(hm:im.contains (rix all (o::r))=false)(hg:o.guard=none)(h:dxq c all im n0 id k n (o::r) cs e s) :
  dck (reader o.op&&!blind o.op) n0 id e o.op/\∃ cv v n' cs' s',DoesOp c s o cv e v s'/\dxq c all im n0 id k n' r cs' (put e o.dst v) s':=by
 cases n with
 | zero=>grind[dxq]
 | succ n =>
  rw[dxq,hm]at h;refine⟨h.1,?_⟩
  replace h:=h.2
  rw[hg]at h;unfold dgrd at h;unfold DoesOp
  revert h
  cases xop false true c.P e s o.op with
  | ok u=>intro h; simp only[dres,dxqc]at h; exact⟨.any,u,n,cs,s,⟨rfl,rfl⟩,h⟩
  | side p u=>intro h; simp only[dres,dxqc]at h; exact⟨.any,u,n,cs,s,⟨h.1,rfl,rfl⟩,h.2⟩
  | sto p u s'=>intro h; simp only[dres,dxqc]at h; exact⟨.any,u,n,cs,s',⟨h.1.1,h.1.2,rfl,rfl⟩,h.2⟩
  | pick b x y =>
   intro h; simp only[dres,dxqc]at h
   cases n with
   | zero=>grind[dbrq]
   | succ n =>
   rw[dbrq]at h;refine⟨.any,_,n,cs,s,⟨rfl,rfl⟩,?_⟩<;>grind
  | call f args =>
   intro h; simp only[dres]at h
   cases cs<;>grind[dcall,dxqc]
  | anyb p=>grind[dres,dxqc]
  | stuck=>grind[dres,dxqc]
theorem BpO{all:List Oper}{im:List Nat}{n0 id n:Nat}{o:Oper}{r:List Oper}{cs:LA}(hm:im.contains (rix all (o::r))=false)(h:dxq c all im n0 id k n (o::r) cs e s) :
  dck (reader o.op&&!blind o.op) n0 id e o.op/\∃ cv v n' cs' s',Does c all.toArray s o cv e v s'/\dxq c all im n0 id k n' r cs' (put e o.dst v) s':=by
 cases hg:o.guard with
 | none =>
  obtain⟨h0,cv,v,n',cs',s',h1,h2⟩:=BtK hm hg h;exact⟨h0,cv,v,n',cs',s',by grind[Does],h2⟩
 | some jw =>
  obtain⟨j,want⟩:=jw
  cases n with
  | zero=>grind[dxq]
  | succ n =>
   rw[dxq,hm]at h;refine⟨h.1,?_⟩;rw[hg]at h;unfold dgrd dyld at h
   cases hy:yldD want e all[j]? with
   | none=>grind[dxqc]
   | some b =>
    have key:(b=want->∃ n',dxq c all im n0 id k n' ({ o with guard:=none }::r) cs e s)/\(b≠want->∃ n',dxq c all im n0 id k n' r cs (put e o.dst (.raw undef)) s):=by
     cases n<;>grind[dxqc,dbrq]
    have hy':yldD want e all.toArray[j]? = some b:=by grind
    by_cases hb:b=want
    .obtain ⟨n1,h1⟩:=key.1 hb
     obtain⟨_,cv,v,n',cs',s',h1,h2⟩:=BtK (by exact hm) rfl h1;refine⟨cv,v,n',cs',s',?_,h2⟩;unfold Does;rw[hg];simp only[hy'];exact .inl ⟨hb,h1⟩
    .obtain ⟨n1,h1⟩:=key.2 hb
     refine⟨.any,.raw undef,n1,cs,s,?_,h1⟩<;>grind[Does]
theorem AlL{all:List Oper}{im:List Nat}{n0 id:Nat}:∀ {r:List Oper}{m n:Nat}{cs:LA}{e:Env}{s:LB},(∀ (j:Nat),r[j]? = all[m+j]?)->all.length=m+r.length->dxq c all im n0 id k n r cs e s->ChG c all.toArray im n0 id (fun e s=>AWp c k e s) (List.range' m r.length) e s
 | [],m,n,cs,e,s,_,_,h=>by
  rw[dxq]at h;exact h
 | o::r,m,n,cs,e,s,hr,hlen,h=>by
  have h0:all.toArray[m]? = some o:=by have:=hr 0; simpa using this.symm
  have hix:rix all (o::r)=m:=by unfold rix; omega
  have hr':∀ j,r[j]? = all[m+1+j]?:=fun j=>by have:=hr (j+1); simpa[Nat.add_assoc,Nat.add_comm 1 j]using this
  simp only[lam,List.range'_succ,ChG,h0]
  cases hm:im.contains m with
  | true =>
   cases n with
   | zero=>rw[dxq]at h; exact h.elim
   | succ n =>
    rw[dxq,hix,hm]at h
    split at h
    .rename_i f args hg hx
     obtain⟨post,h4,h5,h6⟩:=h;exact⟨hg,f,args,hx,post,h4,h5,fun u b hp=>⟨(h6 u b hp).1,AlL hr' (by simp at hlen; omega) (h6 u b hp).2⟩⟩
    .exact h.elim
  | false =>
   obtain⟨hd,cv,v,n',cs',s',h1,h2⟩:=BpO (by rw[hix]; exact hm) h;refine⟨fun hr hb=>?_,cv,v,s',h1,AlL hr' (by simp at hlen; omega) h2⟩;unfold dck at hd
   simpa[hr,hb]using hd
theorem A7P(im:List Nat)(bid:Nat)(cs:LA){id:Nat}{ops:List Oper}(hm:c.P.follows .mixedOrders=true)(hok:AiW (okG ops im) ops=true){N:Nat}(hN:c.fn.ntmps=N)(hdst:ops.all (fun o=>dOk N o.dst)=true)(n:Nat)
  (h:dxq c ops im s.length bid k n ops cs e s):AWp c (.code (.region id ops.toArray true)::k) e s:=by
 intro a w hsim;obtain⟨n1,hn1⟩:∃ n1,n1=s.length:=⟨_,rfl⟩;rw[<- hn1]at h;have hch:=AlL (m:=0) (by grind) (by simp) h;rw[<- List.range_eq_range']at hch;refine wp_region_any hm ?_;have hsim':Sim c e s a { w with drawn:=w.drawn+1 }:=by
  obtain⟨hh,ρ,hmm,hl,he,hdf,hsz,hX⟩:=hsim;have sm:Same w { w with drawn:=w.drawn+1 }:=Same.drew w;exact⟨hh,ρ,hmm.same sm,hl.trans (Later.same sm),he,hdf,hsz,c.hx.later hmm (Later.same sm) hX⟩
 have hd:∀ o∈ops,dOk c.fn.ntmps o.dst=true:=fun o ho=>by grind
 refine AfI (ChG c ops.toArray im n1 bid (fun e s=>AWp c k e s)) hok (fun e s x=>x) (fun l i r e s hj x=>ChG.front rfl AWp.K l i r e s hj x) (fun i o r e s a w Kc ho x hs hK=>BpN hd i o r e s a w Kc ho x hs hK)
  ops.length (Array.replicate ops.length false) (List.range ops.length) e s a _ (by simp) ?_ (by simp) ?_ hch hsim'
 .symm
  simp_all
 .intro i hi j hj
  by_cases h1:i<ops.length
  all_goals simp_all[waits]
end
end Go.Av
namespace Go.Proofs
open Shelf Proofs.Tryz
def nmOf (P:Program) (f:FuncId):String:=match P.funcs[f]? with | some F=>F.name | none=> ""
theorem BwY {P:Program} {f:FuncId} {B:Func} (h1:(nmOf P f == "runtime.NumGoroutine")=false) (h2:P.funcs[f]? = some { B with name:=nmOf P f }):Bears P f B:=⟨_,h1,h2⟩
def Tryz.sortEn_ren:Go.Shelf.Ren:=⟨fun|6=>68|15=>132|14=>131|28=>198|29=>199|20=>190|21=>191|22=>192|23=>193|24=>194|25=>195|26=>196|27=>197|46=>230|47=>231|48=>232|49=>233|50=>234|57=>255|n=>n,fun|22=>73|24=>129|25=>137|3=>3|39=>198|0=>0|53=>246|55=>248|4=>4|46=>240|45=>239|50=>95|5=>5|9=>9|66=>278|70=>282|76=>306|77=>307|n=>n,fun|n=>n⟩
theorem Tryz.sortEn:Go.Proofs.SlLaysF0.n6 prog Tryz.sortEn_ren:=by constructor <;> intros <;> first|kernel_rfl|exact BwY (by kernel_rfl) (by kernel_rfl)
end Go.Proofs
namespace Go.Av
open RowKit
variable [Tr]
section
variable {h:Mem}{ρ:Own}{sto:LB}{w:World}{P:Program}
theorem BaR{en:Array MapEntry}{clock:Nat}{es:List (AV×AV)}{seen:List Nat}(ho:EnOk en clock es){e:MapEntry}(he:e∈(leftOf en seen.toArray).toList):∃ p:Nat,en.toList[p]? = some e/\(ixs 0 es)[p]? = some e.born/\e.born ∉ seen:=by
 simp only[leftOf,Array.toList_filter,List.mem_filter]at he;obtain⟨h1,h2⟩:=he;obtain⟨j,hj,e1⟩:=List.getElem_of_mem h1;have hg:en.toList[j]? = some e:=by rw[lab hj,e1]
 exact⟨j,hg,ho.2.1 j e hg,by simpa using h2⟩
theorem A3M{en:Array MapEntry}{clock:Nat}{es:List (AV×AV)}{seen:List Nat}(ho:EnOk en clock es)(hl:en.toList.length=(lvs es).length)(he:(leftOf en seen.toArray).size=0):∀ (j:Nat)(z:AV×AV),es[j]? = some z->liveK z.1=true->j∈seen:=by
 intro j z hj hz;obtain⟨p,h1,h2⟩:=A5G (i:=0) hj hz;rw[laq]at h1;have hpl:p<en.toList.length:=by
  have:=(List.getElem?_eq_some_iff.1 h2).1;omega
 have hb:=ho.2.1 p _ (lab hpl);rw[h1]at hb;have hb:=lcm hb;have:(leftOf en seen.toArray).toList=[]:=lbw (by simpa using he);simp only[leftOf,Array.toList_filter,List.filter_eq_nil_iff]at this;have:=this _ (lac hpl);rw[<- hb]at this
 simpa using this
theorem next_ok{x:Operand}{o:Oper}{e:Env}{a:Act}(ho:o.op=.next x false)(m:Mine h ρ sto w)(he:EnvOk h ρ sto e a){id mid n:Nat}{seen:List Nat}{es:List (AV×AV)}(hx:ev e x=.mp id)
  (hb:sto[id]? = some (.it mid n seen)) (hb2:sto[mid]? = some (.mp es)) (hn:es.length=n) :
  ((∀ (j:Nat) (z:AV×AV),es[j]? = some z->liveK z.1=true->j∈seen)/\Okv h ρ sto w ((execOp a.eval o).run P w) (.tup [.bool false]) sto) \/
  ∃ j z,j ∉ seen/\es[j]? = some z/\liveK z.1=true/\Okv h ρ sto w ((execOp a.eval o).run P w) (.tup [.bool true,z.1,z.2]) (sto.set id (.it mid n (seen++[j]))):=by
 have hv:=AaM he x;rw[hx]at hv;obtain⟨r',g,en,clock,hu,hr,i2,i4,i5,hg,o2,o3,o4,o5⟩:=BsS m hb hb2 hv;have hcl:clock=n:=by rw[o5.1,hn]
 obtain⟨ty,hrun⟩:∃ ty,(execOp a.eval o).run P w=((Instr.next (a.eval x) false ty).run P w).andThen fun v w'=>.ok (.value v) w':=⟨o.type,by simp[execOp,ho]⟩
 rw[hrun,hu]
 rcases run_next_at (P:=P) w ty r' g n n seen.toArray en clock i2 o2 (fun y hy=>by
   obtain⟨j,hj,e1⟩:=List.getElem_of_mem hy;have hg:=lab hj;have:=ix_lt (o5.2.1 j _ hg);rw[e1]at this;omega) (lad _)with⟨h1,h2⟩|⟨y,hy,w1,hw1,h2⟩
 .refine .inl ⟨A3M o5 o3 h1,AaA m (u:=.tuple #[.bool false]) (by rw[h2]; rfl) (.tup [_] [_] (.cons (.bool _) .nil))⟩
 .obtain ⟨p,hj,hborn,hns⟩:=BaR o5 hy
  obtain⟨_,z,q1,q2,q3⟩:=ArB hborn;rw[Nat.sub_zero]at q1;obtain⟨z1,z2⟩:=o4 p z y q2 hj;have hjs:y.born<es.length:=(List.getElem?_eq_some_iff.1 q1).1;refine .inr ⟨y.born,z,hns,q1,q3,?_⟩;have sm:Same w w1:=by
   rcases hw1 with rfl|rfl
   .exact Same.refl _
   .exact Same.drew _
  have m1:=m.same sm;have L1:Later h ρ sto w h ρ sto w1:=Later.same sm;have hr1:w1.heap[r']? = some (.mapIter (some g) n seen.toArray n):=by
   rcases hw1 with rfl|rfl <;> exact i2
  have hlt:r'<w1.heap.size:=(Array.getElem?_eq_some_iff.1 hr1).1;obtain⟨m2,L2⟩:=m1.write (w':=ChangeMaps.setBlock w1 r' (.mapIter (some g) n (seen.toArray.push y.born) clock)) hb (b':=.it mid n (seen++[y.born])) hr trivial rfl rfl ⟨rfl,Tr.same rfl⟩ (by simp[ChangeMaps.setBlock]) (fun k hk=>by
    simp[ChangeMaps.setBlock,Array.getElem?_setIfInBounds_ne (Ne.symm hk)]) (by
    refine⟨r',g,hr,by simp[ChangeMaps.setBlock,hlt,hcl],?_,?_,?_⟩
    .have hne:mid≠id:=fun e=>by rw[e,hb]at hb2; cases hb2
     refine⟨rfl,?_⟩;simp only[LfC,lbm (Ne.symm hne),hb2];exact⟨g,hg,rfl⟩
    .rw [List.nodup_append]
     exact⟨i4,by simp,fun a ha b hb=>by simp at hb; subst hb; exact fun e=>hns (e▸ha)⟩
    .intro i hi
     rcases List.mem_append.1 hi with hi|hi
     .exact i5 i hi
     .simp at hi; omega)
  have L:=L1.trans L2;exact⟨_,_,_,_,.inl (by rw[h2]; rfl),m2,L,.tup [_,_,_] [_,_,_] (.cons (.bool _) (.cons ((z1.thaw (fun _ _ _ x=>x)).mono L.hle L.keep) (.cons (z2.mono L.hle L.keep) .nil)))⟩
end
end Go.Av
namespace Go.Av
open RowKit Shelf Go.Sort Go.Proofs
section
variable {h:Mem}{ρ:Own}{s:LB}{w:World}{β:Type}{L:Value->AV->Prop}
theorem RL.split{fl:Bool}:∀ {a b:LA}{vs:List Value},RL h L fl vs (a++b)->∃ v1 v2,vs=v1++v2/\RL h L fl v1 a/\RL h L fl v2 b
 | [],b,vs,r=>⟨[],vs,rfl,.nil,r⟩
 | x::a,b,_,r=>by
  cases r with
  | cons r1 r2 =>
   obtain⟨v1,v2,rfl,h1,h2⟩:=r2.split;exact⟨_::v1,v2,rfl,.cons r1 h1,h2⟩
structure SCell(h:Mem)(L:Value->AV->Prop)(eA:β->AV) where
 el:β
 cells:List Value
 one:∀ v∈cells,v.oneCell'=true
 rl:RL h L false cells (cellsOf (eA el))
theorem ApE{eA:β->AV}:∀ (l:List β)(vs:List Value),RL h L false vs (flat (l.map eA))->(∀ v∈vs,v.oneCell'=true)->∃ d:List (SCell h L eA),d.map SCell.el=l/\(d.map SCell.cells).flatten=vs
 | [],vs,r,_=>by cases r<;>simp_all
 | x::l,vs,r,h1=>by
  obtain⟨v1,v2,rfl,r1,r2⟩:=r.split;obtain⟨d,e1,e2⟩:=ApE l v2 r2 (fun v hv=>h1 v (List.mem_append_right _ hv));exact⟨⟨x,v1,fun v hv=>h1 v (List.mem_append_left _ hv),r1⟩::d,by grind,by grind⟩
theorem A7Q{eA:β->AV}:∀ (d:List (SCell h L eA)),RL h L false (d.map SCell.cells).flatten (flat ((d.map SCell.el).map eA))
 | []=>.nil
 | c::d=>by
  exact c.rl.append (A7Q d)
theorem BgZ{eA:β->AV}(d:List (SCell h L eA)):∀ v∈(d.map SCell.cells).flatten,v.oneCell'=true:=by
 intro v hv;obtain⟨l,hl,hv⟩:=List.mem_flatten.1 hv;obtain⟨c,_,rfl⟩:=List.mem_map.1 hl;exact c.one v hv
theorem ApF{γ:Type}{k:Nat}:∀ (L:List (List γ)),(∀ x∈L,x.length=k)->∀ (i j:Nat)(hi:i<L.length),j<k->L.flatten[i*k+j]? = L[i][j]?
 | [],_,i,j,hi,_=>by grind
 | x::L,h,0,j,_,hj=>by
  grind
 | x::L,h,i+1,j,hi,hj=>by
  have hx:=h x (by simp)
  simp
  rw[lcg (by rw[Nat.succ_mul]; omega),show(i+1)*k+j-x.length=i*k+j by rw[Nat.succ_mul]; omega];exact ApF L (fun y hy=>h y (by simp[hy])) i j (by simpa using hi) hj
theorem ApG{γ:Type}{k:Nat}:∀ (L:List (List γ)),(∀ x∈L,x.length=k)->L.flatten.length=L.length*k
 | [],_=>by simp
 | x::L,h=>by
  simp only[List.flatten_cons,lah,lam,Nat.succ_mul];rw[h x (by simp),ApG L (fun y hy=>h y (by simp[hy]))];omega
theorem AsO{α:Type} [Inhabited α](enc:α->List Value)(k:Nat)(hk:∀ x,(enc x).length=k)(d:Array α):(flatK enc k d).toList=(d.toList.map enc).flatten:=by
 have hl:∀ x∈d.toList.map enc,x.length=k:=fun x hx=>by
  grind
 have hs:(flatK enc k d).size=d.size*k:=by simp
 apply lbz;intro t
 by_cases ht:t<d.size*k
 .have k0:0<k:=by
   grind
  have hq:t / k<d.size:=Nat.div_lt_of_lt_mul (by grind);have hr:t%k<k:=Nat.mod_lt _ k0;have e:t=t / k*k+t%k:=by grind[Nat.div_add_mod]
  have h1:=get_flatK enc k d t ht
  grind[ApF]
 .rw [List.getElem?_eq_none (by grind),List.getElem?_eq_none (by rw[ApG _ hl]; grind)]
end
theorem BhA{w w':World}(hs:@Same trUp w w'):∃ q os',w'=grow (w.drewN q) os':=by
 refine⟨w'.drawn-w.drawn,w'.heap.extract w.heap.size w'.heap.size,?_⟩;have h1:=@Same.os trUp _ _ hs;have h2:=@Same.tape trUp _ _ hs;have h3:=(@Same.output trUp _ _ hs).1;have h4:w.drawn<=w'.drawn:=(@Same.output trUp _ _ hs).2;have h5:=@Same.size trUp _ _ hs;have h6:=@Same.block trUp _ _ hs;obtain⟨heap',tape',drawn',os',output'⟩:=w';simp only[grow,World.drewN,World.mk.injEq,true_and,and_true]
 grind
section
variable {P:Program}{ρr:Ren}{β:Type}
theorem BwZ(L:SlLaysF0.n6 P ρr){k:Nat}(aE:∀ w,(isAgg (ρr.t 24)).run P w=.ok true w)(zE:∀ w,(Go.sizeOf (ρr.t 24)).run P w=.ok k w)(hbf:AaB P (ρr.f 6)=true)(eA:β->AV)(hk0:0<k)(hk:∀ x,(cellsOf (eA x)).length=k)
  (cf:β->β->Int) (hO:SWO (ltOf cf)) {g:FuncId} (hg:AaB P g=true)
  (hcmp:∀ (h:Mem) (ρ:Own) (s:LB) (x y:β) (vs us:List Value),RL h (Lf ρ s) false vs (cellsOf (eA x))->RL h (Lf ρ s) false us (cellsOf (eA y))->(∀ v∈vs,v.oneCell'=true)->(∀ v∈us,v.oneCell'=true)->∀ W,Calls P g #[.agg vs.toArray,.agg us.toArray] W fun e w'=>e=.returned (.int .i64 (cf x y)) /\ @Same trUp W w')
  {s:LB} {bid:Nat} {l:List β} (hs:s[bid]? = some (.arr k (l.map eA))) (hl:l.length<4611686018427387904) :
  Ct P (ρr.f 6) [.sl bid 0 l.length l.length,.fn (.func g) []] s (fun r s'=>r=.tup []/\∃ l':List β,s'=s.set bid (.arr k (l'.map eA))/\l'.Perm l/\l'.Pairwise (fun x y=>¬ cf y x<0)):=by
 refine⟨hbf,fun h ρ w vs m r=>?_⟩
 cases r with
 | @cons _ v0 _ _ _ r0 r =>
  cases r with
  | @cons _ v1 _ _ _ r1 r =>
   cases r
   obtain⟨cvs,hv1,rc⟩:=A5P r1
   cases rc
   subst hv1;have hL:=(AbE r0).2;simp only[LfC,hs]at hL;have none_ok:l=[]->∀ (p:Option Addr) (cap:Nat),v0=.slice p 0 cap->Calls P (ρr.f 6) #[v0,.func (.func g) #[] #[]] w fun en w' =>
     ∃ v r s_1 h' ρ',en=.returned v/\(r=.tup []/\∃ l':List β,s_1=s.set bid (.arr k (l'.map eA))/\l'.Perm l/\l'.Pairwise (fun x y=>¬ cf y x<0))/\Mine h' ρ' s_1 w'/\Later h ρ s w h' ρ' s_1 w'/\RV h' (Lf ρ' s_1) false v r:=by
    intro h0 p cap e0;subst h0 e0;refine(AnyF.slices_SortFunc_none L p cap _ w).mono ?_;rintro e w' ⟨rfl,rfl⟩;exact⟨_,.tup [],s,h,ρ,rfl,⟨rfl,[],(set_same hs).symm,.nil,.nil⟩,m,.refl ..,.tup [] [] .nil⟩
   rcases hL.2 (by simp)with⟨h1,h2,a,rfl⟩|⟨g0,tot,h1,rfl,h3⟩
   .grind
   .by_cases hne:l=[]
    .grind
    .have hpos:0<l.length:=List.length_pos_iff.2 hne
     rcases m.own bid _ hs with⟨hn,_⟩|⟨g',tot',cur,tt,i3,i4,i5,i6,i7,i8,i9,i10,i11⟩
     .grind
     rw[h1]at i3
     simp at i3
     obtain⟨rfl,rfl⟩:=i3
     simp at i6 i11
     obtain⟨d,hd1,hd2⟩:=ApE l _ i11 (fun v hv=>i10 v (lau hv));have hdl:d.length=l.length:=by grind
     have hdk:∀ c:SCell h (Lf ρ s) eA,c.cells.length=k:=fun c=>by rw[c.rl.length,hk]
     haveI:Inhabited (SCell h (Lf ρ s) eA):=⟨d[0]'(by omega)⟩
     have hcl:cur.toList.length=tot*k:=by omega
     have hle:l.length*k<=tot*k:=lbq _ i6;have hfl:(flatK SCell.cells k d.toArray).toList=cur.toList.take (l.length*k):=by grind[AsO]
     have hfs:(flatK SCell.cells k d.toArray).size=l.length*k:=by simp_all
     have hH:HoldsK SCell.cells k w g0 0 d.toArray:=by
      intro j hj;rw[hfs]at hj;have hjc:j<cur.size:=by omega
      refine⟨?_,by rw[laq]; exact i4.fz hjc⟩;rw[laq,i4.cell,getElem!_pos _ j (by omega)];have:(flatK SCell.cells k d.toArray).toList[j]? = cur.toList[j]?:=by grind
      grind
     have hC:CmpLays P g #[] SCell.cells k (fun x y:SCell h (Lf ρ s) eA=>cf x.el y.el) g0 0 d.toArray.size w:=by
      intro mm os dk _ x y;have:=hcmp h ρ s x.el y.el x.cells y.cells x.rl y.rl x.one y.one (sortWorldK SCell.cells k w g0 0 mm dk os)
      grind[Calls.mono,BhA]
     have hO':SWO (ltOf (fun x y:SCell h (Lf ρ s) eA=>cf x.el y.el)):=⟨fun x=>hO.irrefl x.el,fun x y z=>hO.trans x.el y.el z.el,fun x y z=>hO.ntrans x.el y.el z.el⟩;have hlt:g0<w.heap.size:=i4.lt;have key:=AnyQ.slices_SortFunc L k aE zE SCell.cells hdk (fun x v hv=>x.one v hv) (fun x y:SCell h (Lf ρ s) eA=>cf x.el y.el) hO' g #[] g0 0 (tot-0) d.toArray w (fun a w=>A2V hg a w) hC hH hlt (by grind);have e0:d.toArray.size=l.length:=by omega
     rw[e0]at key;simp only[Nat.zero_mul];refine Calls.mono key ?_;rintro e w' ⟨rfl,d',nn,os,hp,hso,rfl⟩;obtain⟨hp1,_,hp3⟩:=hp;rw[e0]at hp1;have hperm:d'.toList.Perm d:=by
      have e1:(d'.extract 0 l.length).toList=d'.toList:=by rw[<- hp1]; simp
      grind
     have hlen':(d'.toList.map SCell.el).length=l.length:=by grind
     obtain⟨F,hF⟩:∃ F,flatK SCell.cells k d'=F:=⟨_,rfl⟩;have hFl:F.toList=(d'.toList.map SCell.cells).flatten:=by grind[AsO]
     have hFs:F.size=l.length*k:=by rw[<- hF]; simp[hp1]
     obtain⟨w1,hw1⟩:∃ w1,Go.Sort.putRow id (Go.Sort.ahead w nn) g0 0 F=w1:=⟨_,rfl⟩;have hW:sortWorldK SCell.cells k w g0 0 nn d' os=grow w1 os:=by
      rw[<- hw1,<- hF]; rfl
     rw[hW];obtain⟨mk,hmk1,hmk2⟩:=i4;have hcs:(Go.Sort.putCells id 0 F cur).size=cur.size:=by simp[Go.Sort.putCells]
     have hget:w1.heap[g0]? = some (.cells (Go.Sort.putCells id 0 F cur) tt mk):=by
      grind[Go.Sort.putRow,mapBlock,Go.Sort.ahead,onCells]
     have hoth:∀ b,b≠g0->w1.heap[b]? = w.heap[b]?:=by
      grind[Go.Sort.putRow,mapBlock,Go.Sort.ahead]
     have hsz1:w1.heap.size=w.heap.size:=by grind[Go.Sort.putRow,mapBlock,Go.Sort.ahead]
     have hel:∀ j,(Go.Sort.putCells id 0 F cur).toList[j]? = if j<l.length*k then F.toList[j]? else cur.toList[j]?:=by
      intro j;rw[lcd,lcd,lcd];simp only[Go.Sort.putCells,Array.getElem?_mapIdx,Nat.zero_le,true_and,laq,Nat.sub_zero,hFs,id]
      grind
     have htake:(Go.Sort.putCells id 0 F cur).toList.take (l.length*k)=F.toList:=by
      apply lbz
      grind
     have hset:∀ v a,Lf ρ s v a->Lf ρ (s.set bid (.arr k ((d'.toList.map SCell.el).map eA))) v a:=fun v a lf=>⟨lf.1,AbN hs (fun _ _=>rfl) (Or.inl ⟨rfl,by grind,rfl⟩:(_/\_/\_)\/_) lf.2⟩
     have hlen2:((d'.toList.map SCell.el).map eA).length=l.length:=by grind
     obtain⟨m1,L1⟩:=m.write hs (b':=.arr k ((d'.toList.map SCell.el).map eA)) h1 (.inl ⟨rfl,by grind⟩) (by rw[<- hw1]; rfl) (by rw[<- hw1]; rfl) ⟨by rw[<- hw1]; rfl,trivial⟩ hsz1 hoth (by
      refine .inr ⟨g0,tot,Go.Sort.putCells id 0 F cur,tt,h1,⟨mk,hget,by grind⟩,by omega,by omega,i7,hk0,?_,?_,?_⟩
      .grind
      .intro v hv
       obtain⟨j,hj,e⟩:=List.getElem_of_mem hv;have h2:=hel j
       grind[BgZ]
      .rw [hlen2,htake,hFl]
       exact(A7Q d'.toList).mono (fun _ _ _ x=>x) hset)
     have sm:Same w1 (grow w1 os):=⟨rfl,rfl,⟨rfl,trivial⟩,by simp,fun b hb=>heap_grow_old _ _ hb⟩;refine⟨_,.tup [],_,h,ρ,rfl,⟨rfl,d'.toList.map SCell.el,rfl,?_,?_⟩,m1.same sm,L1.trans (.same sm),.tup [] [] .nil⟩
     .grind
     .rw [List.pairwise_map,lcc]
      intro i j hi hj hij;have:=hso i j (Nat.zero_le _) hij (by grind)
      grind[ltOf]
end
end Go.Av
namespace Go.Av
open RowKit Shelf Go.Sort Go.Proofs
section
variable {P:Program}{ρr:Ren}{β:Type}
def SCell.val{h:Mem}{L:Value->AV->Prop}{eA:β->AV}(c:SCell h L eA):Value:=c.cells.headD default
end
end Go.Av
namespace Go.Proofs.YtgenkcmfeeakoaaGreatDoor
open Av RowKit Proofs.Tryz
section strict
attribute [local instance] trUp
def AcP:=@AbV trUp
def AbT:=@AbC trUp
def goBU:=@goB trUp
def AdI:=@AaX trUp
def AkD:=@aret trUp
def B0S:=@AcA trUp
def BxA:=@AdZ trUp
def A3N:=@AcM trUp
def BhB:=@AxH trUp
def BhC:=@AoB trUp
def BhD:=@ainv trUp
theorem B0T{f:FuncId}{args:LA}{r:AV}(vs:List Value)(v:Value)(hb:AaB prog f=true)(ha:∀ h vs',RL h Lf0 true vs' args->vs'=vs)(hr:∀ h,RV h Lf0 true v r)
  (H:∀ w,Calls prog f vs.toArray w fun e w'=>e=.returned v/\Same w w'):Pc prog f args (· = r):=by
 refine⟨hb,fun h w vs' hm hv=>?_⟩;have:=ha h vs' hv;subst this;refine(H w).mono ?_;rintro e w' ⟨rfl,hs⟩;exact⟨v,r,h,rfl,rfl,fun b o v e=>⟨hs.cell (hm b o v e).1,(hm b o v e).2⟩,fun _ _ _ x=>x,fun b o e n=>(n e).elim,hs,hr h⟩
theorem AyT(s p:LU):Pc prog 84 [.str s,.str p] (· = .int .i64 (Lib.compareBytes s p)) :=
 B0T [_,_] (.int .i64 (Lib.compareBytes s p)) hB84 (AdN s p) (fun h=>.int _ _) fun w=>(Any.strings_Compare Tryz.lays106 ⟨s.toArray⟩ ⟨p.toArray⟩ w).mono fun e w' ⟨h1,h2⟩=>⟨h1,h2▸.refl w⟩
theorem A3O(w:World)(e:TypeId)(s:ByteArray):w.drawn<=(Lib.bytesWorld w e s).drawn:=Nat.le_succ w.drawn
theorem A7R(s:LU)(n:Int)(hl:s.length<=18)(h:Lib.atoi s=some n):Pc prog 59 [.str s] (· = .tup [.int .i64 n,.raw .nilIface]) :=
 B0T [_] (.tuple #[.int .i64 n,.nilIface]) hB59 (AoL s) (fun h=>.tup [_,_] [_,_] (.cons (.int _ _) (.cons (.raw _) .nil)))
  fun w=>(Any.strconv_Atoi Tryz.lays172 ⟨s.toArray⟩ n (by simpa[ByteArray.size]using hl) h w).mono fun e w' ⟨h1,t,h2⟩=>⟨h1,h2▸(let b:=Lib.bytesWorld_below _ _ _; ⟨b.os,b.tape,⟨b.output,A3O _ _ _⟩,b.size,b.block⟩)⟩
theorem AyU(n:Int):Pc prog 146 [.int .i64 n] (· = .bool false):=by
 refine AcP (AbT func146 rfl ntmps146 hB146 (by simp) fun h ρ w=>goBU rfl 300 ?_);simp only[go_sem];exact AkD [2] rfl ⟨rfl,rfl⟩
theorem AyV(a b:Int):Pc prog 83 [.int .i64 a,.int .i64 b] (· = .int .i64 (cmpI a b)):=by
 refine AcP (AbT func83 rfl ntmps83 hB83 (by simp) fun h ρ w=>goBU rfl 300 ?_);simp only[go_sem];refine AdI (AyU a) rfl rfl rfl ?_;refine goBU rfl 300 ?_;simp only[go_sem];refine AdI (AyU b) rfl rfl rfl ?_;refine goBU rfl 300 ?_
 by_cases h1:a<b
 .have d1:decide (a<b)=true:=by simpa using h1
  simp only[go_sem,d1];exact AkD [4] rfl ⟨by simp[resV,Av.get,Av.put,cmpI,h1],rfl⟩
 .have d1:decide (a<b)=false:=by simpa using h1
  by_cases h2:a>b
  .have d2:decide (a>b)=true:=by simpa using h2
   simp only[go_sem,d1,d2];exact AkD [4] rfl ⟨by simp[resV,Av.get,Av.put,cmpI,h1,h2],rfl⟩
  .have d2:decide (a>b)=false:=by simpa using h2
   simp only[go_sem,d1,d2];exact AkD [4] rfl ⟨by simp[resV,Av.get,Av.put,cmpI,h1,h2],rfl⟩
theorem B0U(a b:Int):Pc prog 82 [.fz 1 [.int .i64 a,.int .i64 b]] (· = .int .i64 (orI a b)):=by
 refine AcP (AbT func82 rfl ntmps82 hB82 (by simp) fun h ρ w=>goBU rfl 300 ?_);simp only[go_sem];refine BxA (A3N ?_)
 by_cases h1:a=0
 .have d1:(a != 0)=false:=by simpa using h1
  refine goBU rfl 300 ?_;simp only[go_sem,d1];refine BhB (A3N ?_)
  by_cases h2:b=0
  .have d2:(b != 0)=false:=by simpa using h2
   refine goBU rfl 300 ?_;simp only[go_sem,d2];refine BhB (A3N ?_);refine goBU rfl 300 ?_;simp only[go_sem];exact AkD [2] rfl ⟨by simp[resV,Av.get,Av.put,orI,h1,h2],rfl⟩
  .have d2:(b != 0)=true:=by simpa using h2
   refine goBU rfl 300 ?_;simp only[go_sem,d2];exact AkD [2] rfl ⟨by simp[resV,Av.get,Av.put,orI,h1],rfl⟩
 .have d1:(a != 0)=true:=by simpa using h1
  refine goBU rfl 300 ?_;simp only[go_sem,d1];exact AkD [2] rfl ⟨by simp[resV,Av.get,Av.put,orI,h1],rfl⟩
abbrev Nu:={ s:LU // numberL s=true }
