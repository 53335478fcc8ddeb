/- The blocks of entries can be laid as the reference lays them: plain law; pagesOf of. -/
import Derived.Test.YtgenkcmfeeakoaaGreatDoorX44
set_option maxRecDepth 100000
set_option maxHeartbeats 4000000
set_option linter.all false
namespace Go.Proofs.YtgenkcmfeeakoaaGreatDoor
open Av RowKit Proofs.Tryz
structure QB(b:Bl):Prop where
 kind:b.kind=0\/b.kind=1\/b.kind=2\/b.kind=3
 some:b.Lb≠[]
 first:b.kind=3->b.Lb.getD 0 []=indent 20 b.name
theorem B1O{p:Pa}(h:DrawnP p):QB (newB p):=by
 unfold newB
 split
 .have:=AfT (W:=60) (by omega) h.text.ne h.text.hd
  refine⟨.inr (.inl rfl),fun e=>?_,fun e=>absurd (show(1:Int)=3 from e) (by decide)⟩<;>grind
 .split
  .exact ⟨.inr (.inr (.inl rfl)),by simp,fun e=>absurd (show(2:Int)=3 from e) (by decide)⟩
  .exact ⟨.inr (.inr (.inr rfl)),by simp,fun _=>rfl⟩
theorem B1P{b:Bl}(h:QB b)(kd:Int)(n:Nat)(ls:List LU):QB (addB b kd n ls):=by
 refine⟨h.kind,by simp[addB,h.some],fun e=>?_⟩;have h1:=h.first e;have h2:=h.some
 grind[addB]
theorem ByW{b:Bl}(h:QB b)(p:Pa):QB (moreB b p):=by
 grind[moreB,B1P]
theorem BkQ:∀ (ps:List Pa)(s:List Bl×Bl),(∀ p∈ps,DrawnP p)->(∀ b∈s.1++[s.2],QB b)->∀ b∈(ps.foldl bstep s).1++[(ps.foldl bstep s).2],QB b
 | [],s,_,h=>h
 | p::r,s,hp,h=>by
  refine BkQ r (bstep s p) (fun q hq=>hp q (by simp[hq])) ?_;unfold bstep
  split
  .intro b hb
   simp at hb
   rcases hb with hb|rfl
   .exact h b (by simp[hb])
   .exact ByW (h s.2 (by simp)) p
  .intro b hb
   simp only[lcb,List.mem_singleton]at hb
   rcases hb with(hb|rfl)|rfl
   .exact h b (by simp[hb])
   .exact h s.2 (by simp)
   .exact B1O (hp p (by simp))
theorem B1Q{xs:List Sc}(hx:∀ x∈xs,SceneD x){no:LU}(hn:numberL no=true):∀ b∈entB xs no,QB b:=by
 intro b hb;unfold entB at hb
 cases h:atNo xs no with
 | none =>
  rw[h]at hb;rw[List.mem_singleton.1 hb];exact⟨.inl rfl,by grind[goneB,A0T],fun e=>absurd (show(0:Int)=3 from e) (by decide)⟩
 | some x =>
  rw[h]at hb;have hd:=hx x (AgM h).1;have hx':=(AgM h).2;have hw:1<=(wrapL 60 (headL x)).length:=by
   have hb:(x.no != [])=true:=by grind[num_ne]
   refine AfT (by omega) ?_ ?_ <;> unfold headL <;> rw[if_pos hb,hx']
   all_goals grind[AhK]
  refine BkQ x.Ld ([],⟨0,wrapL 60 (headL x),[],[]⟩) hd.all (fun b hb=>?_) b hb
  simp at hb
  subst hb;refine⟨.inl rfl,fun e=>?_,fun e=>absurd (show(0:Int)=3 from e) (by decide)⟩<;>grind
theorem BrU{bs:List Bl}{b:Bl}(h:b∈bs):72+b.Lb.length<=costP bs:=by
 induction bs<;>grind[costP]
theorem BkR(bs:List Bl)(g:Nat):costP (bs.take g)<=costP bs:=by
 grind[costP_append,lbs]
theorem BtX{xs:List Sc}(hx:∀ x∈xs,SceneD x){no:LU}(hn:numberL no=true):∀ b∈entB xs no,LdOk b:=by
 intro b hb;obtain⟨s1,s2⟩:=A4B hx hn;have q:=B1Q hx hn b hb;have hc:=BrU hb;obtain⟨a1,a2,a3⟩:=(AeW hx hn).1 b hb;have hf:=BjG hx hn b hb;exact⟨BrD (s1 b hb) q.some,⟨q.kind,a1.kinds,by omega⟩,q.first,fun l hl=>by have:=(hf.Lb l hl).len; omega,by omega⟩
theorem BkS{xs:List Sc}{nos:List LU}(hm:MdOk xs nos):(∀ b∈entsB xs nos,AhI b)/\costP (entsB xs nos)<=5256*nos.length:=by
 have key:∀ l:List LU,(∀ n∈l,numberL n=true)->(∀ b∈entsB xs l,AhI b)/\costP (entsB xs l)<=5256*l.length:=by
  intro l
  induction l with
  | nil=>grind[entsB,costP]
  | cons n r ih =>
   intro h;obtain⟨s1,s2⟩:=A4B hm.sc (h n (by simp))
   grind[entsB,costP_append]
 exact key nos hm.num
theorem entL_snd(xs:List Sc)(nos:List LU):ssE (entL xs nos)=nos.map (entB xs):=by grind[ssE,entL,Function.comp_def]
theorem entL_flat(xs:List Sc)(nos:List LU):(ssE (entL xs nos)).flatten=entsB xs nos:=by rw[entL_snd,A8N]
theorem md_pg{xs:List Sc}{nos:List LU}(hm:MdOk xs nos):PgOk (entL xs nos):=by
 obtain⟨c1,c2⟩:=BkS hm;have h6:5256*nos.length<=5256*300:=Nat.mul_le_mul_left _ hm.fewN;refine⟨by grind[entL_snd,B1M],fun e he=>?_,fun b hb x hx=>?_,fun g hg=>?_,?_,fun e he=>?_⟩
 .obtain ⟨n,hn,rfl⟩:=List.mem_map.1 he
  exact BtX hm.sc (hm.num n hn)
 .rw [entL_flat]at hb
  obtain⟨n,hn,hb⟩:=List.mem_flatMap.1 hb;exact((AeW hm.sc (hm.num n hn)).1 b hb).1.own x hx
 .grind[entL_flat,layTo_few,BkR]
 .grind[entL]
 .obtain ⟨n,hn,rfl⟩:=List.mem_map.1 he
  have:=(AeW hm.sc (hm.num n hn)).2.2
  grind
theorem fiTo_congr{bs:List Bl}{hx hx':Nat->Nat}{no no':Nat->LU}{n:Nat}:∀ k,(∀ j,j<k->hx j=hx' j/\no j=no' j)->fiTo bs hx no n k=fiTo bs hx' no' n k
 | 0,_=>rfl
 | k+1,h=>by
  have ih:=fiTo_congr (bs:=bs) (n:=n) k fun j hj=>h j (by omega)
  obtain⟨h1,h2⟩:=h k (by omega);simp only[fiTo,ih,h1,h2]
theorem brk_ents{xs:List Sc}{nos:List LU}(hm:MdOk xs nos):∀ b∈entsB xs nos,BrkOk b:=fun b hb=>by
 obtain⟨n,hn,hb⟩:=List.mem_flatMap.1 hb;exact(BtX hm.sc (hm.num n hn) b hb).brk
theorem B1R{xs:List Sc}{nos:List LU}(hm:MdOk xs nos):fiR (entL xs nos) (entL xs nos).length=firstsI xs nos:=by
 grind[fi_eq,brk_ents,entL,fiR,entL_flat,fiTo_congr,hxR,entL_snd,lco,A8N]
theorem AiJ{xs:List Sc}{nos:List LU}(hm:MdOk xs nos):Pc prog 27 [.fz 2 ((entL xs nos).map enA)] (· = .fz 2 (AdF (firstsI xs nos) (layL (entsB xs nos)).Lh)):=by
 refine Pc.mono (Pc.ofOwn 1 (BbQ _ (md_pg hm))) ?_;rintro _ ⟨_,_,⟨rfl,rfl⟩,rfl⟩;rw[B1R hm,entL_flat];simp only[borV,borC_sl];rw[AcR rfl (by rw[AfV])];unfold AdF;rw[AhN fun _=>rfl]
theorem BrV(xs:List Sc)(E:List LU)(a b:Nat):((entL xs E).take b).drop a=entL xs ((E.take b).drop a):=by grind[entL,lco,List.map_drop]
theorem A4U(l:List Sc)(i:Nat)(h:i<l.length):List.getD (List.map scA l) i .any=.agg [.str l[i].no,.int .i64 l[i].place,.str l[i].set,.int .i64 l[i].time,.fz 2 (l[i].Ld.map paA)]:=by simp[List.getD,h,scA]
theorem ByX(l:List Pa)(i:Nat)(h:i<l.length):List.getD (List.map paA l) i .any=.agg [.int .i64 l[i].kind,.str l[i].text]:=by simp[List.getD,h,paA]
theorem BkT{caps:LA}(hc:caps.all frozen0=true):caps.all nr1=true:=by
 rw[lbk]at hc |-;intro x hx;have:=hc x hx
 cases x <;> first|exact ArC this|(simp[frozen0]at this)
theorem AkS{a:AV}{caps:LA}(ha:nr1 a=true)(hc:caps.all frozen0=true):(a::caps).all nr1=true:=by
 simp only[lat,ha,BkT hc,lbh]
theorem A0U{α:Type}{p:α->Bool}{l:List α}(h:∀ j,(hj:j<l.length)->p l[j]=false):idxP p l=-1:=by
 grind[List.getElem_of_mem,idxP]
theorem A0V{α:Type}{p:α->Bool}{l:List α}{i:Nat}(hi:i<l.length)(hp:p l[i]=true)(h:∀ j,(hj:j<i)->p (l[j]'(by omega))=false):idxP p l=i:=by
 grind[List.findIdx?_eq_some_iff_getElem,idxP]
theorem BrW{α:Type}{p:α->Bool}{l:List α}:decide (idxP p l>=0)=l.any p:=by
 grind[idxP]
theorem BkU(f:FuncId)(caps:LA)(hc:caps.all frozen0=true)(p:Sc->Bool)(l:List Sc)(hl:l.length<100000000)(hf:∀ x∈l,Pc prog f (scA x::caps) (· = .bool (p x))) :
  Pc prog 74 [.fz 5 (l.map scA),.fn (.func f) caps] (· = .int .i64 (idxP p l)):=by
 refine zpIB func74 rfl fun h ρ w=>?_
 simp only[go_sem];refine AaE (ι:=Nat) (fun i=>l.length-i) (fun i=>[(8,.int .i64 i),(7,.int .i64 l.length),(1,.fn (.func f) caps),(0,.fz 5 (l.map scA))]) (fun _=>[]) (fun i=>i<=l.length/\∀ j,(hj:j<l.length)->j<i->p l[j]=false) 0 ⟨by simp,fun j _ h=>absurd h (by omega)⟩ ?_ ?_
 .refine Lr ?_
  simp only[go_sem,laa]
 .rintro i ⟨g1,g2⟩ J hJ
  by_cases gi:i<l.length
  .have di:decide ((i:Int)<(l.length:Int))=true:=by simp; omega
   have hfx:=hf _ (lac gi);simp only[scA]at hfx;apply zgB;simp only[go_sem,di,A4U l i gi,laa]
   repeat refine aqb ?_
   cases hp:p l[i]with
   | true =>
    rw[hp]at hfx;refine AaX hfx (AkS rfl hc) rfl rfl (zgB ?_);simp only[go_sem];exact aret [4] rfl ⟨congrArg _ (A0V gi hp fun j hj=>g2 j (by omega) hj).symm,rfl⟩
   | false =>
    rw[hp]at hfx;refine AaX hfx (AkS rfl hc) rfl rfl (zgB ?_);simp only[go_sem]
    repeat refine aqc ?_
    rw[ic i];refine ainv (hJ (i+1) ⟨by omega,fun j hj h=>?_⟩ (by omega)) (Lr ?_)
    .rcases Nat.lt_or_ge j i with h2|h2
     .exact g2 j hj h2
     .have:j=i:=by omega
      subst this; exact hp
    .simp only [go_sem]
  .have di:decide ((i:Int)<(l.length:Int))=false:=by simp; omega
   apply zgB;simp only[go_sem,di];exact aret [4] rfl ⟨congrArg _ (A0U fun j hj=>g2 j hj (by omega)).symm,rfl⟩
theorem A0W(f:FuncId)(caps:LA)(hc:caps.all frozen0=true)(p:Sc->Bool)(l:List Sc)(hl:l.length<100000000)(hf:∀ x∈l,Pc prog f (scA x::caps) (· = .bool (p x))) :
  Pc prog 33 [.fz 5 (l.map scA),.fn (.func f) caps] (· = .bool (l.any p)):=by
 refine zpIB func33 rfl fun h ρ w=>?_
 simp only[go_sem];refine AaX (BkU f caps hc p l hl hf) (by simp only[lat,lbn,nr1,Av.frozen,hc,lbh]) rfl rfl (zgB ?_);simp only[go_sem];refine aret [4] rfl ⟨?_,rfl⟩;simp only[resV,Av.get,Av.put,lav,lbl];rw[<- BrW]
theorem AtS:∀ (t w:LU)(ws:List LU),splitW t=w::ws->Lib.join (w::ws) [32]=t
 | [],w,ws,h=>by
  obtain⟨rfl,rfl⟩:=h;rfl
 | c::r,w,ws,h=>by
  obtain⟨w',ws',hr⟩:=AeL r;have ih:=AtS r w' ws' hr;simp only[splitW]at h
  by_cases h32:c=32
  .have e:(c==32)=true:=by simpa using h32
   rw[e]at h;obtain⟨rfl,rfl⟩:=h;rw[hr,Lib.join_cons];rw[Lib.join_cons]at ih;have e2:Lib.joinTail [32] (w'::ws')=32::(w'++Lib.joinTail [32] ws'):=by simp[Lib.joinTail]
   rw[e2,ih,h32,lbx]
  .have e:(c==32)=false:=by simpa using h32
   rw[e,hr]at h;obtain⟨rfl,rfl⟩:=h;rw[Lib.join_cons]at ih |-;rw[<- ih]; rfl
theorem A8T:∀ (t w:LU)(ws:List LU),splitW t=w::ws->noDbl t=true->t.getLast?≠some 32->(∀ x∈ws,x≠[])/\(t≠[]->t.head?≠some 32->w≠[])
 | [],w,ws,h,_,_=>by
  grind[splitW]
 | [c],w,ws,h,_,hl=>by
  grind[splitW,consW]
 | c::d::r,w,ws,h,hd,hl=>by
  obtain⟨w',ws',hr⟩:=AeL (d::r);simp only[noDbl,lae,lbv]at hd;have hl':(d::r).getLast?≠some 32:=by grind
  obtain⟨i1,i2⟩:=A8T (d::r) w' ws' hr hd.2 hl'
  grind[splitW,consW]
theorem ok_sp{c:UInt8}(h:okB c=true):Lib.isSp c=(c==32):=by
 have:=A7O (p:=fun c=>!okB c||(Lib.isSp c==(c==32))) (by decide +kernel) c
 grind
theorem A4V{t:LU}(ha:∀ c∈t,okB c=true)(h0:t≠[])(h1:noDbl t=true)(h2:t.head?≠some 32)(h3:t.getLast?≠some 32):plainR t=true:=by
 obtain⟨w,ws,hs⟩:=AeL t;obtain⟨k1,k2⟩:=A8T t w ws hs h1 h3;have hf:Lib.fields t=w::ws:=by
  rw[fields_split fun c hc=>ok_sp (ha c hc),hs]
  simp_all
 have hj:=AtS t w ws hs;have ho:t.all okR=true:=List.all_eq_true.2 fun c hc=>ha c hc
 grind[plainR]
theorem BkV{p:UInt8->Bool}(hp:∀ c,p c=true->okB c=true){t:LU}(h:TextOk p t):plainR t=true :=
 A4V (fun c hc=>hp c (List.all_eq_true.1 h.all c hc)) h.ne h.dbl h.hd h.lst
theorem BrX:(SetL.all setR)=true:=by decide +kernel
theorem BkW:(NameL.all nameR)=true:=by decide +kernel
theorem BkX:(TurnL.all fun t=>AlF t AiY)=true:=by decide +kernel
theorem BbS:(TitleL.all plainR)=true:=by decide +kernel
theorem BbT{p:Pa}(h:DrawnP p):A2R p=0:=by
 have h1:=BkV AuW h.text;unfold A2R;rw[h1,if_pos rfl]
 by_cases k2:p.kind=2
 .have e:=List.all_eq_true.1 BkW _ (h.name k2)
  grind
 .by_cases k5:p.kind=5
  .have e:=List.all_eq_true.1 BkX _ (h.turn k5)
   grind
  grind
theorem ByY:∀ s∈SetL,s.length<1000:=by decide
theorem BbU{S:Std}(hS:LibR S)(x:Sc)(h:SceneD x):PcH prog S 123 [scA x] (· = .int .i64 0):=by
 have hs:=ByY _ h.set;have hp:=h.place;have ht:=h.time;have e1:decide (x.place<1)=false:=by rw[lai]; omega
 have e2:decide (x.place>3)=false:=by rw[lai]; omega
 have e3:decide (x.time<1)=false:=by rw[lai]; omega
 have e4:decide (x.time>5)=false:=by rw[lai]; omega
 have hset:=A6M hS x.set (by omega);rw[List.all_eq_true.1 BrX _ h.set]at hset
 by_cases h0:x.no=[]
 .have e0:(x.no != [])=false:=by simp[h0]
  simp only[scA];refine zqIB func123 rfl fun h ρ w hg=>?_
  simp only[go_sem,e0,e1,e2,e3,e4];refine zqB hg (hset) ?_;simp only[go_sem];exact zt [2]
 .have hn:=h.no.resolve_left h0
  have e0:(x.no != [])=true:=by simpa using h0
  have hnp:=AbX x.no (by have:=number_len hn; omega);rw[hn]at hnp;simp only[scA];refine zqIB func123 rfl fun h ρ w hg=>?_
  simp only[go_sem,e0];refine zpB (hnp) ?_;simp only[go_sem,e1,e2,e3,e4];refine zqB hg (hset) ?_;simp only[go_sem];exact zt [2]
theorem BbV(x y:Sc):Pc prog 124 [scA x,.pin 5 [scA y] 0 0] (· = .bool (x.no==y.no)):=by
 simp only[scA];refine zpIB func124 rfl fun h ρ w=>?_
 simp only[go_sem];exact zt [3]
theorem BbW{xs:List Sc}(h:(hasNo xs).Nodup){k:Nat}(hk:k<xs.length)(h0:xs[k].no≠[]):(xs.take k).any (fun y=>y.no==xs[k].no)=false:=by
 rw[List.any_eq_false];intro y hy e;have e1:xs=xs.take k++xs[k]::xs.drop (k+1):=by simp_all
 grind[hasNo,nosL]
structure SkR(ti:LU)(xs:List Sc):Prop where
 Lk:1<=ti.length/\ti.length<=60
 plain:plainR ti=true
 len:xs.length<=300
 many:paraSum xs<=4000
 sc:∀ x∈xs,SceneD x
 nod:(hasNo xs).Nodup
 first:∀ y,xs.head? = some y->y.time≠5
theorem A4W{S:Std}(hS:LibR S){ti:LU}{xs:List Sc}(hx:SkR ti xs)(k:Nat)(hk:k<xs.length):PcH prog S 64 [.fz 5 (xs.map scA),.int .i64 k] (· = .int .i64 0):=by
 have hlen:=hx.len;have hd:=hx.sc _ (lac hk);have hh:=BbU hS xs[k] hd;have hnew:=fun h0=>BbW hx.nod hk h0
 have hany:=A0W 124 [.pin 5 [scA xs[k]] 0 0] rfl (fun y=>y.no==xs[k].no) (xs.take k) (by rw[lci]; omega) (fun y _=>BbV y xs[k]);rw[lco]at hany;have hft:((k:Int)==0)=false\/(xs[k].time==5)=false:=by
  by_cases h0:k=0
  .subst h0
   right
   have:=hx.first xs[0] (by rw[List.head?_eq_getElem?,lab hk])
   simpa using this
  .left; simp; omega
 obtain⟨e,hr,h2,h3⟩:=hd.run;have hget:=A4U xs k hk;have hm:=hd.len;have hpz:=fun p hp=>BbT (hd.all p hp)
 generalize hsc:xs[k]=sc at *;have hk2:decide ((k:Int)<=(xs.length:Int))=true:=by rw[lag]; omega
 have hbor:=fun(h0:sc.no≠[])=>Ct.borrowF (P:=prog) (f:=33) (args:=[.fz 5 (List.take k (xs.map scA)),.fn (.func 124) [.ptr 0 1 0 0]]) 1 [.arr 5 [scA sc]] (post:=(· = .bool false)) (by rw[<- hnew h0]; exact hany) (by rintro r rfl; rfl)
 simp only[scA]at hbor hh;have d0:((0:Int)==5)=false:=by decide
 have d1:((0:Int)==4)=false:=by decide
 have d2:((0:Int) != 0)=false:=by decide
 have hq:(((k:Int)==0)=true/\(sc.time==5)=false)\/(((k:Int)==0)=false/\True):=by
  cases h0:((k:Int)==0)with
  | true =>
   rw[h0]at hft;exact .inl ⟨rfl,hft.resolve_left (by simp)⟩
  | false=>exact .inr ⟨rfl,trivial⟩
 have hne:sc.no=[]\/sc.no≠[]:=Classical.em _;refine zqIB func64 rfl fun h ρ w hg=>?_
 simp only[go_sem,hget,laa]
 repeat refine aj ?_
 refine zqB hg (hh) ?_;refine hne.elim (fun h0=>?_) (fun h0=>?_);have e0:(sc.no != [])=false:=by simp[h0]
 refine hq.elim (fun q=>?_) (fun q=>?_);obtain⟨q1,q2⟩:=q;simp only[go_sem,e0,d0,d1,d2,q1,q2,laa]
 rotate_left
 obtain⟨q1,q2⟩:=q;simp only[go_sem,e0,d0,d1,d2,q1,q2,laa]
 rotate_left
 have e0:(sc.no != [])=true:=by simpa using h0
 simp only[go_sem,e0,d0,hk2,laa]
 repeat refine aj ?_
 refine za (hbor h0) ?_;rintro _ _ ⟨rfl,rfl⟩;refine hq.elim (fun q=>?_) (fun q=>?_);obtain⟨q1,q2⟩:=q;apply zgB;simp only[go_sem,d0,d1,d2,q1,q2,laa]
 rotate_left
 obtain⟨q1,q2⟩:=q;apply zgB;simp only[go_sem,d0,d1,d2,q1,q2,laa]
 rotate_left
 all_goals
  refine AaE (ι:=Nat×Int) (fun y=>sc.Ld.length-y.1)
   (fun y=>[(46,.int .i64 y.1),(45,.int .i64 sc.Ld.length),(44,.fz 2 (sc.Ld.map paA)),(7,.int .i64 y.2)])
   (fun _=>[.arr 5 [.agg [.str sc.no,.int .i64 sc.place,.str sc.set,.int .i64 sc.time,.fz 2 (sc.Ld.map paA)]]])
   (fun y=>y.1<=sc.Ld.length/\runL y.2 (sc.Ld.drop y.1)=some e) (0,0) ⟨by simp,hr⟩ ?_ ?_
  .refine Lt ?_ rfl
   simp only[go_sem,laa]
  .rintro ⟨i,l⟩ ⟨g1,g2⟩ J hJ
   simp only at g1 g2 hJ |-
   by_cases gi:i<sc.Ld.length
   .have di:decide ((i:Int)<(sc.Ld.length:Int))=true:=by simp; omega
    have hdr:sc.Ld.drop i=sc.Ld[i]::sc.Ld.drop (i+1):=lbc gi;rw[hdr]at g2;simp only[runL]at g2
    split at g2
    rotate_left
    .cases g2
    rename_i hp;simp only[lae]at hp;have hpf:=AxZ hS sc.Ld[i] l hp.1 hp.2;rw[hpz _ (lac gi)]at hpf;simp only[paA]at hpf;apply zgB;simp only[go_sem,di,ByX sc.Ld i gi,laa]
    repeat refine aj ?_
    refine zqB hg (hpf) ?_;simp only[go_sem,d2]
    repeat refine aj ?_
    rw[ic i];refine ainv (hJ (i+1,sc.Ld[i].kind) ⟨by simp only; omega,g2⟩ (by simp only; omega)) (Shift.low 1 (by simp) (by simp) ?_ ?_)
    .simp only[go_sem,lowB,flat]
    .simp only [go_sem]
   .have di:decide ((i:Int)<(sc.Ld.length:Int))=false:=by simp; omega
    have:i=sc.Ld.length:=by omega
    subst this;rw[List.drop_length]at g2;simp only[runL,lao]at g2;subst g2;have q2:(l==2)=false:=by simpa using h2
    have q3:(l==3)=false:=by simpa using h3
    apply zgB;simp only[go_sem,di,q2,q3];exact zt [4]
theorem AeZ{S:Std}(hS:LibR S){ti:LU}{xs:List Sc}(hx:SkR ti xs):PcH prog S 25 [srA ⟨ti,xs⟩] (· = .int .i64 0):=by
 have htb:=hx.Lk;have hlen:=hx.len;have hsum:=hx.many;have h1:=AjV ti 1 60;have hl:longR ti 1 60=true:=by simp[longR]; omega
 rw[hl]at h1;have h2:=AfL hS ti (by omega);rw[hx.plain]at h2;have hsf:=fun k hk=>A4W hS hx k hk
 simp only[srA];refine zqIB func25 rfl fun h ρ w hg=>?_
 simp only[go_sem];refine zpB (h1) ?_;simp only[go_sem];refine zqB hg (h2) ?_;simp only[go_sem];refine AaE (ι:=Nat) (fun i=>xs.length-i)
  (fun i=>[(21,.int .i64 i),(20,.int .i64 xs.length),(19,.fz 5 (xs.map scA)),(3,.int .i64 (paraSum (xs.take i))),(1,.pin 2 [.agg [.str ti,.fz 5 (xs.map scA)]] 0 0)])
  (fun _=>[]) (fun i=>i<=xs.length) 0 (by simp) ?_ ?_
 .refine Lt ?_ rfl
  simp only[go_sem,laa]
  simp[paraSum]
 .intro i g1 J hJ
  by_cases gi:i<xs.length
  .have di:decide ((i:Int)<(xs.length:Int))=true:=by simp; omega
   have hs:=AhC xs i gi;have hle:=AeF xs (i+1);apply zgB;simp only[go_sem,di,A4U xs i gi,laa]
   repeat refine aj ?_
   rw[show(paraSum (xs.take i):Int)+(xs[i].Ld.length:Int)=(paraSum (xs.take (i+1)):Int) by omega,show(i:Int)+1=((i+1:Nat):Int) by omega];refine ainv (hJ (i+1) (by omega) (by omega)) (Shift.low 0 (by simp) (by simp) ?_ ?_)
   .simp only [List.take_zero,lbn]
   .simp only [go_sem]
  .have di:decide ((i:Int)<(xs.length:Int))=false:=by simp; omega
   have:i=xs.length:=by omega
   subst this;rw[laz];have d3:decide ((xs.length:Int)>300)=false:=by simp; omega
   have d4:decide ((paraSum xs:Int)>4000)=false:=by simp; omega
   apply zgB;simp only[go_sem,di,d3,d4,laa];refine AaE (ι:=Nat) (fun y=>xs.length-y)
    (fun y=>[(42,.int .i64 y),(41,.int .i64 xs.length),(1,.pin 2 [.agg [.str ti,.fz 5 (xs.map scA)]] 0 0)])
    (fun y=>[]) (fun y=>y<=xs.length) 0 (by simp) ?_ ?_
   .refine Lt ?_ rfl
    simp only[go_sem]
   .clear hJ J
    rintro i g1 J hJ;have d2:((0:Int) != 0)=false:=by decide
    by_cases gi:i<xs.length
    .have di:decide ((i:Int)<(xs.length:Int))=true:=by simp; omega
     apply zgB;simp only[go_sem,di];refine zqB hg (hsf i gi) ?_;simp only[go_sem,d2]
     repeat refine aj ?_
     rw[ic i];refine ainv (hJ (i+1) (by omega) (by omega)) (Lt ?_ rfl);simp only[go_sem]
    .have di:decide ((i:Int)<(xs.length:Int))=false:=by simp; omega
     apply zgB;simp only[go_sem,di];exact zt [2]
theorem BbX:∀ i j:Fin 5,i<j->compareN (AbJ (i.1+1)) (AbJ (j.1+1))<0:=by decide +kernel
theorem BbY{xs:List Sc}{nos:List LU}(hm:MdOk xs nos):∀ p∈(layL (entsB xs nos)).Lh,∀ l∈p,l.length<=3000100:=by
 have hb:∀ b∈entsB xs nos,sizB b:=fun b hb=>by
  obtain⟨n,hn,hb⟩:=List.mem_flatMap.1 hb;exact((AeW hm.sc (hm.num n hn)).1 b hb).2.2.2
 have h1:=B0Y hb _ (lad _);have h2:qS (layL (entsB xs nos)):=by grind[layL,q_flush]
 exact h2.1
theorem BbZ{xs:List Sc}{nos:List LU}(hm:MdOk xs nos)(k:Int):(AiK xs nos k).length<1000:=by
 unfold AiK
 split
 .rename_i j hj
  by_cases h:j<nos.length
  .have:=(AaN (hm.num (nos.getD j []) (by grind))).2.1
   omega
  grind
 .simp
theorem A0X{xs:List Sc}{nos:List LU}(hm:MdOk xs nos)(k:Nat):((firstsI xs nos).getD k []).length<1000:=by
 grind[firstsI,BbZ]
theorem ByZ{ti:LU}{xs:List Sc}(hs:ScriptOk ⟨ti,xs⟩)(hd:StoryD xs):DrIn ⟨1,ti,xs,[],lockL xs⟩:=by
 have hm:=hd.md;have hfew:=ApW xs hd.sc hd.few (nosL xs) (by have:=hd.few; grind[nosL]) fun n hn=>ApX hn
 have hb:=AiE hm;have hpl:=BbY hm;have hfs:=A0X hm;refine⟨hs,hd.sc,by simp,by simp,by grind[lockL,AfU],fun f hf=>?_⟩;simp only[lockL,lvsTo,List.mem_map,List.mem_range]at hf
 grind[itoa_dig3,dig3]
theorem A8U{xs:List Sc}{E:List LU}{j:Nat}(h:j<E.length):List.getD ((entL xs E).map enA) j .any=.agg [.str E[j],.fz 3 ((entB xs E[j]).map rbA)]:=by
 simp[entL,List.getD,h,enA]
theorem AwL(xs:List Sc)(E:List LU):(entL xs E).length=E.length:=by simp[entL]
theorem AmJ{St:Std}(hS:LibR St){d:Dr}{E:List LU}(hE:EntOf d E)(hm:MdOk d.Lc E)(hg:d.Lp.length<=1000):PcH prog St 32 [drA d] (· = .fz 1 (E.map .str)):=by
 have hen:=AdG hS (no:=d.no) (ti:=d.Lk) (lv:=d.La) (go:=d.Lp) hE hm hg;have hel:=AwL d.Lc E;have hfn:=hm.fewN;obtain⟨no,ti,xs,go,lv⟩:=d;simp only[drA]at hen hel |-;refine zqIB func32 rfl fun h ρ w hg=>?_
 simp only[go_sem];refine zqB hg (hen) ?_;simp only[go_sem,laa,hel];refine AaE (ι:=Nat) (fun j=>E.length-j) (fun j=>[(12,.int .i64 j),(11,.int .i64 E.length),(10,.fz 2 ((entL xs E).map enA)),(3,.sl 0 0 j j)])
  (fun j=>[.arr 1 ((E.take j).map .str)]) (fun j=>j<=E.length) 0 (by omega) ?_ ?_
 .refine Shift.trans (Ls 3 1 rfl) (Lt ?_ (by rfl))
  simp only[go_sem]
 .intro j g1 J hJ
  by_cases gj:j<E.length
  .have dj:decide ((j:Int)<(E.length:Int))=true:=by simp; omega
   have hg':=A8U (xs:=xs) gj;have hlt:(List.take j E).length=j:=by simp; omega
   have hfin:=hJ (j+1) (by omega) (by omega);rw[laf gj]at hfin;apply zgB;simp only[go_sem,dj,hg',laa,hel,hlt]
   repeat refine aqg ?_
   rw[ic j];refine ainv hfin (Shift.trans (Shift.low 1 (e':=[(12,.int .i64 ((j+1:Nat):Int)),(11,.int .i64 E.length),(10,.fz 2 ((entL xs E).map enA)),(3,.sl 0 0 (j+1) (j+1))]) (by simp) (by simp) ?_ ?_) (Lt ?_ ?_))
   .have:=AaH (E.take j++[E[j]])
    rw[lak]at this
    show(lowB 1 (.arr 1 _)&&true)=true
    rw[lax];exact AaD this
   .simp only[go_sem]
   .simp only [go_sem]
   .rw [lak]
    rfl
  .have dj:decide ((j:Int)<(E.length:Int))=false:=by simp; omega
   have hj:j=E.length:=by omega
   subst hj;rw[laz];apply zgB;simp only[go_sem,dj];refine ARet.shift (Shift.freeze 2 (id:=0) rfl rfl (by simp) (lad _) (AaH _)) (aret [2] rfl ⟨?_,rfl⟩)
   simp[resV,Av.get,Av.put,laj]
theorem BrY{St:Std}(hS:LibR St){ti:LU}{xs:List Sc}(hx:SkR ti xs)(hd:StoryD xs)(h0:xs≠[]) :
  CtH prog St 6 [srA ⟨ti,xs⟩] [] (fun r s=>r=.tup [.agg [.int .i64 1,.str ti,.fz 5 (xs.map scA),.fz 1 [],.sl 2 0 (lockL xs).length (lockL xs).length],.int .i64 0]/\s.getD 2 .dead=.arr 4 ((lockL xs).map leA)):=by
 have hsf:=AeZ hS hx;have hm:=hd.md;have hent:=PcH.nil2 (AdG hS (no:=1) (ti:=ti) (lv:=[]) (go:=[]) (hd.ent 1 ti []) hm (by simp));have hpg:=AiJ hm;have hfew:=ApW xs hd.sc hd.few (nosL xs) (by have:=hd.few; simp[nosL]; omega) fun n hn=>ApX hn
 have h5:=hd.few;have hris:=AkR (nosL xs) (by simp[nosL]; omega) (fun n hn=>by
  obtain⟨x,hx,rfl⟩:=List.mem_map.1 hn;have:=number_len (hd.num x hx); omega)
 have hlen:(nosL xs).length=xs.length:=by simp[nosL]
 have hpos:=List.length_pos_iff.2 h0;simp only[srA]at hsf |-;have d2:((0:Int) != 0)=false:=by decide
 refine zdIB func6 rfl fun h ρ w hg=>?_
 simp only[go_sem];refine zqB hg (hsf) ?_;simp only[go_sem,d2,laa];refine AaE (ι:=Nat) (fun i=>xs.length-i) (fun i=>[(24,.int .i64 i),(23,.int .i64 xs.length),(22,.fz 5 (xs.map scA)),(5,.int .i64 i),(3,.int .i64 0),(2,.ptr 0 1 0 0),(1,.pin 2 [.agg [.str ti,.fz 5 (xs.map scA)]] 0 0)])
  (fun i=>[.arr 5 [.agg [.int .i64 0,.str [],.raw (.slice none 0 0),.raw (.slice none 0 0),.raw (.slice none 0 0)]]]) (fun i=>i<=xs.length) 0 (by omega) ?_ ?_
 .refine Lr ?_
  simp only[go_sem]
 .intro i g1 J hJ
  by_cases gi:i<xs.length
  .have di:decide ((i:Int)<(xs.length:Int))=true:=by simp; omega
   have hg':List.getD (List.map scA xs) i .any=.agg [.str xs[i].no,.int .i64 xs[i].place,.str xs[i].set,.int .i64 xs[i].time,.fz 2 (xs[i].Ld.map paA)]:=by simp[List.getD,gi,scA]
   have hne:(xs[i].no != [])=true:=by
    have:=num_ne (hd.num _ (lac gi))
    simpa using this
   have hfin:=hJ (i+1) (by omega) (by omega);apply zgB;simp only[go_sem,di,hg',hne,laa]
   repeat refine aqg ?_
   rw[ic i];refine ainv hfin (Shift.low 1 (by simp) (by simp) rfl ?_);simp only[go_sem]
  .have di:decide ((i:Int)<(xs.length:Int))=false:=by simp; omega
   have hi:i=xs.length:=by omega
   subst hi;clear hJ;have dz:((xs.length:Int)==0)=false:=by rw[lbe]; omega
   have dl:decide ((xs.length:Int)<(xs.length:Int))=false:=by simp
   apply zgB;simp only[go_sem,di,dz,dl,laa];refine AaE (ι:=Nat) (fun i=>xs.length-i) (fun i=>[(47,.int .i64 i),(46,.int .i64 xs.length),(45,.fz 5 (xs.map scA)),(8,.sl 1 0 i i),(3,.int .i64 0),(2,.ptr 0 1 0 0),(1,.pin 2 [.agg [.str ti,.fz 5 (xs.map scA)]] 0 0)])
    (fun i=>[.arr 5 [.agg [.int .i64 0,.str [],.raw (.slice none 0 0),.raw (.slice none 0 0),.raw (.slice none 0 0)]],.arr 1 (((nosL xs).take i).map .str)]) (fun i=>i<=xs.length) 0 (by omega) ?_ ?_
   .refine Shift.trans (Ls 8 1 rfl) (Lt ?_ (by rfl))
    simp only[go_sem]
   .intro i g1 J hJ
    by_cases gi:i<xs.length
    .have di:decide ((i:Int)<(xs.length:Int))=true:=by simp; omega
     have hg':List.getD (List.map scA xs) i .any=.agg [.str xs[i].no,.int .i64 xs[i].place,.str xs[i].set,.int .i64 xs[i].time,.fz 2 (xs[i].Ld.map paA)]:=by simp[List.getD,gi,scA]
     have hni:i<(nosL xs).length:=by omega
     have hnx:(nosL xs)[i]=xs[i].no:=by simp[nosL]
     have hlt:(List.take i (nosL xs)).length=i:=by simp; omega
     have hfin:=hJ (i+1) (by omega) (by omega);rw[laf hni,hnx]at hfin;apply zgB;simp only[go_sem,di,hg',laa,hlt]
     repeat refine aqg ?_
     rw[ic i];refine ainv hfin (Shift.trans (Shift.low 2 (e':=[(47,.int .i64 ((i+1:Nat):Int)),(46,.int .i64 xs.length),(45,.fz 5 (xs.map scA)),(8,.sl 1 0 (i+1) (i+1)),(3,.int .i64 0),(2,.ptr 0 1 0 0),(1,.pin 2 [.agg [.str ti,.fz 5 (xs.map scA)]] 0 0)]) (by simp) (by simp) ?_ ?_) (Lt ?_ ?_))
     .have:=AaH ((nosL xs).take i++[xs[i].no])
      rw[lak]at this
      show(_&&(lowB 2 (.arr 1 _)&&true))=true
      rw[lax,lae];exact⟨rfl,AaD this⟩
     .simp only[go_sem]
     .simp only [go_sem]
     .rw [lak]
      rfl
    .have di:decide ((i:Int)<(xs.length:Int))=false:=by simp; omega
     have hi:i=xs.length:=by omega
     subst hi;clear hJ;rw[<- hlen,laz,hlen];refine AWp.shift (Shift.trans (Shift.freeze 8 (id:=1) rfl rfl (by simp[nosL]) (lad _) (AaH _)) (Shift.low 1 (e':=[(47,.int .i64 xs.length),(46,.int .i64 xs.length),(8,.fz 1 ((nosL xs).map .str)),(3,.int .i64 0),(2,.ptr 0 1 0 0),(1,.pin 2 [.agg [.str ti,.fz 5 (xs.map scA)]] 0 0)]) (by simp) (by simp) rfl ?_)) ?_
     .simp only[go_sem]
      rw[laj (by simp[nosL])]
     .apply zgB
      simp only[go_sem,di];refine A9H hris rfl rfl rfl ?_;rintro _ ⟨n,rfl,hn⟩;have hn0:n=0:=hn.2 ⟨fun n hn=>by
       obtain⟨x,hx,rfl⟩:=List.mem_map.1 hn;exact hd.num x hx,fun i h=>List.pairwise_iff_getElem.1 hd.rise i (i+1) _ _ (by omega)⟩
      subst hn0;apply zgB;simp only[go_sem,d2]
      repeat refine aqg ?_
      refine zqB hg (hent) ?_;simp only[go_sem];refine zpB (hpg) ?_;simp only[go_sem,AfV];have hll:(lockL xs).length=(layL (entsB xs (nosL xs))).Lh.length:=by unfold lockL; rw[AfU]
      have hL:lockL xs=lvsTo (layL (entsB xs (nosL xs))).Lh (firstsI xs (nosL xs)) (layL (entsB xs (nosL xs))).Lh.length:=rfl;rw[hL];have hrg:=fun i h=>AkQ (firstsI xs (nosL xs)) (layL (entsB xs (nosL xs))).Lh (i:=i) h
      have hrl:=AfV (firstsI xs (nosL xs)) (layL (entsB xs (nosL xs))).Lh;generalize (layL (entsB xs (nosL xs))).Lh=pg at *;generalize firstsI xs (nosL xs)=fi at *;refine AaE (ι:=Nat) (fun i=>pg.length-i) (fun i=>[(69,.int .i64 i),(68,.int .i64 pg.length),(67,.fz 2 (AdF fi pg)),(12,.ptr 1 1 0 0),(3,.int .i64 0),(2,.ptr 0 1 0 0)])
       (fun i=>[.arr 5 [.agg [.int .i64 0,.str [],.raw (.slice none 0 0),.raw (.slice none 0 0),.raw (.slice none 0 0)]],.arr 5 [.agg [.int .i64 1,.str ti,.fz 5 (xs.map scA),.fz 1 [],.sl 2 0 i i]],.arr 4 ((lvsTo pg fi i).map leA)]) (fun i=>i<=pg.length) 0 (by omega) ?_ ?_
      .refine Shift.trans (Shift.cells 1 4 [.agg [.int .i64 1,.str ti,.fz 5 (xs.map scA),.fz 1 [],.sl 2 0 0 0]] rfl rfl (by simp[cellsOf]) ⟨.refl,.refl,.refl,.fz,.sl,trivial⟩) (Lt ?_ (by rfl))
       simp only[go_sem]
      .intro i g1 J hJ
       by_cases gi:i<pg.length
       .have di:decide ((i:Int)<(pg.length:Int))=true:=by rw[lag]; omega
        have hrgi:=hrg i gi;have hlt:(lvsTo pg fi i).length=i:=AfU _ _ _;have hit:=AdP hS.ok ((i:Int)+1) (by omega) (by omega);have hfin:=hJ (i+1) (by omega) (by omega);rw[BbA]at hfin;apply zgB;simp only[go_sem,di,hrgi,hrl]
        repeat refine aqg ?_
        refine zr [.str (Lib.itoa ((i:Int)+1))] AaI ?_;simp only[go_sem,laa,hlt]
        repeat refine And.intro (by first|exact hit.at hg|omega|exact .inl trivial|rfl|(simp; done)|(simp; omega)) ?_
        apply zgB;simp only[go_sem]
        repeat refine aqg ?_
        rw[ic i];refine ainv hfin (Shift.trans (Shift.low 3 (e':=[(69,.int .i64 ((i+1:Nat):Int)),(68,.int .i64 pg.length),(67,.fz 2 (AdF fi pg)),(12,.ptr 1 1 0 0),(3,.int .i64 0),(2,.ptr 0 1 0 0)]) (by simp) (by simp) ?_ ?_) (Lt ?_ ?_))
        .have:=AsY (lvsTo pg fi i++[⟨Lib.itoa ((i:Int)+1),1,fi.getD i [],pg.getD i []⟩])
         rw[lak]at this
         show(_&&(_&&(lowB 3 (.arr 4 _)&&true)))=true
         rw[lax,lae,lae];exact⟨rfl,rfl,AaD this⟩
        .simp only[go_sem]
        .simp only [go_sem]
        .rw [lak]
         rfl
       .have di:decide ((i:Int)<(pg.length:Int))=false:=by simp; omega
        have hi:i=pg.length:=by omega
        subst hi;have d9:decide ((pg.length:Int)>999)=false:=by rw[lai]; omega
        have hlt:(lvsTo pg fi pg.length).length=pg.length:=AfU _ _ _;rw[hlt];apply zgB;simp only[go_sem,di,d9,laa,hlt]
        repeat refine aqg ?_
        refine AcA [.cell 2 37,.tmp 3] rfl [.agg [.int .i64 1,.str ti,.fz 5 (xs.map scA),.fz 1 [],.sl 2 0 pg.length pg.length],.int .i64 0] ⟨?_,rfl,trivial⟩ ⟨rfl,rfl⟩;simp only[go_sem,sideIs]
theorem A0Y(ti:LU):Pc prog 20 [.agg [.str ti,.fz 5 []]] (· = .agg [.str ti,.fz 5 []]):=by
 have hc:=BiC [] (by simp);simp only[las]at hc;refine zpIB func20 rfl fun h ρ w=>?_
 simp only[go_sem];refine AeB [] 99 [.fz 5 []] AaI (by decide) rfl rfl 100 ?_;simp only[go_sem]
 repeat refine And.intro (by first|exact hc.at|omega|exact .inl trivial|rfl|(simp; done)|(simp; omega)) ?_
 apply zgB;simp only[go_sem];refine AdZ (AcM ?_);apply zgB;simp only[go_sem];refine AcA [.cell 2 28] rfl [.agg [.str ti,.fz 5 []]] ⟨?_,trivial⟩ ⟨rfl,rfl⟩;simp only[go_sem,sideIs]
theorem BkY:lockL []=[]:=by
 unfold lockL;have:(layL (entsB [] (nosL []))).Lh=[]:=rfl;rw[this]; rfl
theorem BrZ{St:Std}(hS:LibR St){ti:LU}(hx:SkR ti []) :
  PcH prog St 6 [srA ⟨ti,[]⟩] (· = .tup [drA ⟨1,ti,[],[],lockL []⟩,.int .i64 0]):=by
 have hsf:=AeZ hS hx;have hd:StoryD []:=⟨by simp,by simp,by simp[nosL],by simp⟩;have hm:=hd.md;have hent:=PcH.nil2 (AdG hS (no:=1) (ti:=ti) (lv:=[]) (go:=[]) (hd.ent 1 ti []) hm (by simp));have hpg:=AiJ hm;have e1:entL [] (nosL [])=[]:=rfl;have e2:AdF (firstsI [] (nosL [])) (layL (entsB [] (nosL []))).Lh=[]:=rfl;have hris:=Pc.nilarg (es:=1) (AkR [] (by simp) (by simp));rw[e1]at hent hpg;rw[e2]at hpg;rw[BkY];simp only[srA,drA,las]at hsf hent hpg hris |-;have d2:((0:Int) != 0)=false:=by decide
 refine zqIF func6 rfl fun h ρ w hg=>?_
 simp only[go_sem];refine zqF hg (hsf) ?_;simp only[go_sem,d2];refine AdZ (AcM ?_);apply zgF;simp only[go_sem];refine zpF (A0Y ti) ?_;simp only[go_sem];refine AdZ (AcM ?_);apply zgF;simp only[go_sem];refine A9H hris rfl rfl rfl ?_;rintro _ ⟨n,rfl,hn⟩;have hn0:n=0:=hn.2 ⟨by simp,by simp⟩;subst hn0;apply zgF;simp only[go_sem,d2]
 repeat refine aqg ?_
 refine zqF hg (hent) ?_;simp only[go_sem];refine zpF (hpg) ?_;simp only[go_sem];refine AdZ (AcM ?_);apply zgF;simp only[go_sem];refine ARet.shift (Shift.trans (Shift.cells 1 4 [.agg [.int .i64 1,.str ti,.fz 5 [],.fz 1 [],.fz 4 []]] rfl rfl (by simp[cellsOf]) ⟨.refl,.refl,.refl,.fz,.fz,trivial⟩) (Lr (e':=[(3,.int .i64 0),(2,.ptr 1 1 0 0)]) (by simp only[go_sem]))) ?_;refine AcA [.cell 2 37,.tmp 3] rfl [.agg [.int .i64 1,.str ti,.fz 5 [],.fz 1 [],.fz 4 []],.int .i64 0] ⟨?_,rfl,trivial⟩ ⟨rfl,rfl⟩;simp only[go_sem,sideIs]
theorem BkZ{St:Std}(hS:LibR St){ti:LU}{xs:List Sc}(hx:SkR ti xs)(hd:StoryD xs) :
  PcH prog St 6 [srA ⟨ti,xs⟩] (· = .tup [drA ⟨1,ti,xs,[],lockL xs⟩,.int .i64 0]):=by
 by_cases h0:xs=[]
 .subst h0
  exact BrZ hS hx
 .refine PcH.mono (PcH.ofOwn 1 (BrY hS hx hd h0)) ?_
  rintro _ ⟨_,s,⟨rfl,hs⟩,rfl⟩;have e:bor 1 s (.sl 2 0 (lockL xs).length (lockL xs).length)=.fz 4 ((lockL xs).map leA):=by
   rw[AcR hs (by simp),AhN fun _=>rfl]
  simp only[borV,borC,lal,las,e,drA];rfl
