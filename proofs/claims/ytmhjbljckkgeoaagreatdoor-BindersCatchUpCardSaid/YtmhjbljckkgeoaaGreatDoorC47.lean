/- Scripts, as the reference checks them. -/
import Derived.Test.YtmhjbljckkgeoaaGreatDoorC46
set_option maxRecDepth 100000
set_option maxHeartbeats 4000000
set_option linter.all false
namespace Go.Proofs.YtmhjbljckkgeoaaGreatDoor
open Av RowKit Proofs.Tryz
theorem AsA:∀ (t w:LU)(ws:List LU),splitW t=w::ws->Lib.join (w::ws) [32]=t
 | [],w,ws,h=>by
  obtain⟨rfl,rfl⟩:=h;rfl
 | c::r,w,ws,h=>by
  obtain⟨w',ws',hr⟩:=AeI r;have ih:=AsA r w' ws' hr;simp only[splitW]at h
  by_cases h32:c=32
  .have e:(c==32)=true:=by simpa using h32
   rw[e]at h;obtain⟨rfl,rfl⟩:=h;rw[hr,Lib.join_cons];rw[Lib.join_cons]at ih;have e2:Lib.joinTail [32] (w'::ws')=32::(w'++Lib.joinTail [32] ws'):=by simp[Lib.joinTail]
   rw[e2,ih,h32,lbs]
  .have e:(c==32)=false:=by simpa using h32
   rw[e,hr]at h;obtain⟨rfl,rfl⟩:=h;rw[Lib.join_cons]at ih |-;rw[<- ih]; rfl
theorem A6M:∀ (t w:LU)(ws:List LU),splitW t=w::ws->noDbl t=true->t.getLast?≠some 32->(∀ x∈ws,x≠[])/\(t≠[]->t.head?≠some 32->w≠[])
 | [],w,ws,h,_,_=>by
  grind[splitW]
 | [c],w,ws,h,_,hl=>by
  grind[splitW,consW]
 | c::d::r,w,ws,h,hd,hl=>by
  obtain⟨w',ws',hr⟩:=AeI (d::r);simp only[noDbl,lag,lcb]at hd;have hl':(d::r).getLast?≠some 32:=by grind
  obtain⟨i1,i2⟩:=A6M (d::r) w' ws' hr hd.2 hl'
  grind[splitW,consW]
theorem ok_sp{c:UInt8}(h:okB c=true):Lib.isSp c=(c==32):=by
 have:=A4Q (p:=fun c=>!okB c||(Lib.isSp c==(c==32))) (by decide +kernel) c
 grind
theorem A2W{t:LU}(ha:∀ c∈t,okB c=true)(h0:t≠[])(h1:noDbl t=true)(h2:t.head?≠some 32)(h3:t.getLast?≠some 32):plainR t=true:=by
 obtain⟨w,ws,hs⟩:=AeI t;obtain⟨k1,k2⟩:=A6M t w ws hs h1 h3;have hf:Lib.fields t=w::ws:=by
  rw[fields_split fun c hc=>ok_sp (ha c hc),hs]
  simp_all
 have hj:=AsA t w ws hs;have ho:t.all okR=true:=List.all_eq_true.2 fun c hc=>ha c hc
 grind[plainR]
theorem BhJ{p:UInt8->Bool}(hp:∀ c,p c=true->okB c=true){t:LU}(h:TextOk p t):plainR t=true :=
 A2W (fun c hc=>hp c (List.all_eq_true.1 h.all c hc)) h.ne h.dbl h.hd h.lst
theorem BnW:(SetL.all setR)=true:=by decide +kernel
theorem BhK:(NameL.all nameR)=true:=by decide +kernel
theorem BhL:(TurnL.all fun t=>AnI t AhZ)=true:=by decide +kernel
theorem A9C:(TitleL.all plainR)=true:=by decide +kernel
theorem A9D{p:Pa}(h:DrawnP p):BkI p=0:=by
 have h1:=BhJ AsU h.text;unfold BkI;rw[h1,if_pos rfl]
 by_cases k2:p.kind=2
 .have e:=List.all_eq_true.1 BhK _ (h.name k2)
  grind
 .by_cases k5:p.kind=5
  .have e:=List.all_eq_true.1 BhL _ (h.turn k5)
   grind
  grind
theorem BuR:∀ s∈SetL,s.length<1000:=by decide
theorem A9E{S:Std}(hS:LibR S)(x:Sc)(h:SceneD x):PcH prog S 212 [scA x] (· = .int .i64 0):=by
 have hs:=BuR _ h.set;have hp:=h.place;have ht:=h.time;have e1:decide (x.place<1)=false:=by rw[lai]; omega
 have e2:decide (x.place>3)=false:=by rw[lai]; omega
 have e3:decide (x.time<1)=false:=by rw[lai]; omega
 have e4:decide (x.time>5)=false:=by rw[lai]; omega
 have hset:=BkH hS x.set (by omega);rw[List.all_eq_true.1 BnW _ h.set]at hset
 by_cases h0:x.no=[]
 .have e0:(x.no != [])=false:=by simp[h0]
  simp only[scA];refine zqIB func212 rfl fun h ρ w hg=>?_
  simp only[go_sem,e0,e1,e2,e3,e4];refine zqB hg (hset) ?_;simp only[go_sem];exact zt [2]
 .have hn:=h.no.resolve_left h0
  have e0:(x.no != [])=true:=by simpa using h0
  have hnp:=AcD x.no (by have:=number_len hn; omega);rw[hn]at hnp;simp only[scA];refine zqIB func212 rfl fun h ρ w hg=>?_
  simp only[go_sem,e0];refine zpB (hnp) ?_;simp only[go_sem,e1,e2,e3,e4];refine zqB hg (hset) ?_;simp only[go_sem];exact zt [2]
theorem A9F(x y:Sc):Pc prog 213 [scA x,.pin 5 [scA y] 0 0] (· = .bool (x.no==y.no)):=by
 simp only[scA];refine zpIB func213 rfl fun h ρ w=>?_
 simp only[go_sem];exact zt [3]
theorem A9G{xs:List Sc}(h:(hasNo xs).Nodup){k:Nat}(hk:k<xs.length)(h0:xs[k].no≠[]):(xs.take k).any (fun y=>y.no==xs[k].no)=false:=by
 rw[List.any_eq_false];intro y hy e;have e1:xs=xs.take k++xs[k]::xs.drop (k+1):=by simp_all
 grind[hasNo,nosL]
structure SkR(ti:LU)(xs:List Sc):Prop where
 Lk:1<=ti.length/\ti.length<=60
 plain:plainR ti=true
 len:xs.length<=300
 many:paraSum xs<=4000
 sc:∀ x∈xs,SceneD x
 nod:(hasNo xs).Nodup
 first:∀ y,xs.head? = some y->y.time≠5
theorem A2X{S:Std}(hS:LibR S){ti:LU}{xs:List Sc}(hx:SkR ti xs)(k:Nat)(hk:k<xs.length):PcH prog S 151 [.fz 5 (xs.map scA),.int .i64 k] (· = .int .i64 0):=by
 have hlen:=hx.len;have hd:=hx.sc _ (lac hk);have hh:=A9E hS xs[k] hd;have hnew:=fun h0=>A9G hx.nod hk h0
 have hany:=A6L 213 [.pin 5 [scA xs[k]] 0 0] rfl (fun y=>y.no==xs[k].no) (xs.take k) (by rw[List.length_take]; omega) (fun y _=>A9F y xs[k]);rw[List.map_take]at hany;have hft:((k:Int)==0)=false\/(xs[k].time==5)=false:=by
  by_cases h0:k=0
  .subst h0
   right
   have:=hx.first xs[0] (by rw[List.head?_eq_getElem?,lam hk])
   simpa using this
  .left; simp; omega
 obtain⟨e,hr,h2,h3⟩:=hd.run;have hget:=A2V xs k hk;have hm:=hd.len;have hpz:=fun p hp=>A9D (hd.all p hp)
 generalize hsc:xs[k]=sc at *;have hk2:decide ((k:Int)<=(xs.length:Int))=true:=by rw[laj]; omega
 have hbor:=fun(h0:sc.no≠[])=>Ct.borrowF (P:=prog) (f:=112) (args:=[.fz 5 (List.take k (xs.map scA)),.fn (.func 213) [.ptr 0 1 0 0]]) 1 [.arr 5 [scA sc]] (post:=(· = .bool false)) (by rw[<- hnew h0]; exact hany) (by rintro r rfl; rfl)
 simp only[scA]at hbor hh;have d0:((0:Int)==5)=false:=by decide
 have d1:((0:Int)==4)=false:=by decide
 have d2:((0:Int) != 0)=false:=by decide
 have hq:(((k:Int)==0)=true/\(sc.time==5)=false)\/(((k:Int)==0)=false/\True):=by
  cases h0:((k:Int)==0)with
  | true =>
   rw[h0]at hft;exact .inl ⟨rfl,hft.resolve_left (by simp)⟩
  | false=>exact .inr ⟨rfl,trivial⟩
 have hne:sc.no=[]\/sc.no≠[]:=Classical.em _;refine zqIB func151 rfl fun h ρ w hg=>?_
 simp only[go_sem,hget,laa]
 repeat refine aj ?_
 refine zqB hg (hh) ?_;refine hne.elim (fun h0=>?_) (fun h0=>?_);have e0:(sc.no != [])=false:=by simp[h0]
 refine hq.elim (fun q=>?_) (fun q=>?_);obtain⟨q1,q2⟩:=q;simp only[go_sem,e0,d0,d1,d2,q1,q2,laa]
 rotate_left
 obtain⟨q1,q2⟩:=q;simp only[go_sem,e0,d0,d1,d2,q1,q2,laa]
 rotate_left
 have e0:(sc.no != [])=true:=by simpa using h0
 simp only[go_sem,e0,d0,hk2,laa]
 repeat refine aj ?_
 refine za (hbor h0) ?_;rintro _ _ ⟨rfl,rfl⟩;refine hq.elim (fun q=>?_) (fun q=>?_);obtain⟨q1,q2⟩:=q;apply zgB;simp only[go_sem,d0,d1,d2,q1,q2,laa]
 rotate_left
 obtain⟨q1,q2⟩:=q;apply zgB;simp only[go_sem,d0,d1,d2,q1,q2,laa]
 rotate_left
 all_goals
  refine AaC (ι:=Nat×Int) (fun y=>sc.Ld.length-y.1)
   (fun y=>[(46,.int .i64 y.1),(45,.int .i64 sc.Ld.length),(44,.fz 2 (sc.Ld.map paA)),(7,.int .i64 y.2)])
   (fun _=>[.arr 5 [.agg [.str sc.no,.int .i64 sc.place,.str sc.set,.int .i64 sc.time,.fz 2 (sc.Ld.map paA)]]])
   (fun y=>y.1<=sc.Ld.length/\runL y.2 (sc.Ld.drop y.1)=some e) (0,0) ⟨by simp,hr⟩ ?_ ?_
  .refine Lu ?_ rfl
   simp only[go_sem,laa]
  .rintro ⟨i,l⟩ ⟨g1,g2⟩ J hJ
   simp only at g1 g2 hJ |-
   by_cases gi:i<sc.Ld.length
   .have di:decide ((i:Int)<(sc.Ld.length:Int))=true:=by simp; omega
    have hdr:sc.Ld.drop i=sc.Ld[i]::sc.Ld.drop (i+1):=lbl gi;rw[hdr]at g2;simp only[runL]at g2
    split at g2
    rotate_left
    .cases g2
    rename_i hp;simp only[lag]at hp;have hpf:=BcB hS sc.Ld[i] l hp.1 hp.2;rw[hpz _ (lac gi)]at hpf;simp only[paA]at hpf;apply zgB;simp only[go_sem,di,BuQ sc.Ld i gi,laa]
    repeat refine aj ?_
    refine zqB hg (hpf) ?_;simp only[go_sem,d2]
    repeat refine aj ?_
    rw[ic i];refine ainv (hJ (i+1,sc.Ld[i].kind) ⟨by simp only; omega,g2⟩ (by simp only; omega)) (Shift.low 1 (by simp) (by simp) ?_ ?_)
    .simp only[go_sem,lowB,flat]
    .simp only [go_sem]
   .have di:decide ((i:Int)<(sc.Ld.length:Int))=false:=by simp; omega
    have:i=sc.Ld.length:=by omega
    subst this;rw[List.drop_length]at g2;simp only[runL,lbr]at g2;subst g2;have q2:(l==2)=false:=by simpa using h2
    have q3:(l==3)=false:=by simpa using h3
    apply zgB;simp only[go_sem,di,q2,q3];exact zt [4]
theorem AeS{S:Std}(hS:LibR S){ti:LU}{xs:List Sc}(hx:SkR ti xs):PcH prog S 101 [srA ⟨ti,xs⟩] (· = .int .i64 0):=by
 have htb:=hx.Lk;have hlen:=hx.len;have hsum:=hx.many;have h1:=AtA ti 1 60;have hl:longR ti 1 60=true:=by simp[longR]; omega
 rw[hl]at h1;have h2:=AgZ hS ti (by omega);rw[hx.plain]at h2;have hsf:=fun k hk=>A2X hS hx k hk
 simp only[srA];refine zqIB func101 rfl fun h ρ w hg=>?_
 simp only[go_sem];refine zpB (h1) ?_;simp only[go_sem];refine zqB hg (h2) ?_;simp only[go_sem];refine AaC (ι:=Nat) (fun i=>xs.length-i)
  (fun i=>[(21,.int .i64 i),(20,.int .i64 xs.length),(19,.fz 5 (xs.map scA)),(3,.int .i64 (paraSum (xs.take i))),(1,.pin 2 [.agg [.str ti,.fz 5 (xs.map scA)]] 0 0)])
  (fun _=>[]) (fun i=>i<=xs.length) 0 (by simp) ?_ ?_
 .refine Lu ?_ rfl
  simp only[go_sem,laa]
  simp[paraSum]
 .intro i g1 J hJ
  by_cases gi:i<xs.length
  .have di:decide ((i:Int)<(xs.length:Int))=true:=by simp; omega
   have hs:=AlI xs i gi;have hle:=AfZ xs (i+1);apply zgB;simp only[go_sem,di,A2V xs i gi,laa]
   repeat refine aj ?_
   rw[show(paraSum (xs.take i):Int)+(xs[i].Ld.length:Int)=(paraSum (xs.take (i+1)):Int) by omega,show(i:Int)+1=((i+1:Nat):Int) by omega];refine ainv (hJ (i+1) (by omega) (by omega)) (Shift.low 0 (by simp) (by simp) ?_ ?_)
   .simp only [lcc,lba]
   .simp only [go_sem]
  .have di:decide ((i:Int)<(xs.length:Int))=false:=by simp; omega
   have:i=xs.length:=by omega
   subst this;rw[lap];have d3:decide ((xs.length:Int)>300)=false:=by simp; omega
   have d4:decide ((paraSum xs:Int)>4000)=false:=by simp; omega
   apply zgB;simp only[go_sem,di,d3,d4,laa];refine AaC (ι:=Nat) (fun y=>xs.length-y)
    (fun y=>[(42,.int .i64 y),(41,.int .i64 xs.length),(1,.pin 2 [.agg [.str ti,.fz 5 (xs.map scA)]] 0 0)])
    (fun y=>[]) (fun y=>y<=xs.length) 0 (by simp) ?_ ?_
   .refine Lu ?_ rfl
    simp only[go_sem]
   .clear hJ J
    rintro i g1 J hJ;have d2:((0:Int) != 0)=false:=by decide
    by_cases gi:i<xs.length
    .have di:decide ((i:Int)<(xs.length:Int))=true:=by simp; omega
     apply zgB;simp only[go_sem,di];refine zqB hg (hsf i gi) ?_;simp only[go_sem,d2]
     repeat refine aj ?_
     rw[ic i];refine ainv (hJ (i+1) (by omega) (by omega)) (Lu ?_ rfl);simp only[go_sem]
    .have di:decide ((i:Int)<(xs.length:Int))=false:=by simp; omega
     apply zgB;simp only[go_sem,di];exact zt [2]
theorem A9H:∀ i j:Fin 5,i<j->compareN (AcX (i.1+1)) (AcX (j.1+1))<0:=by decide +kernel
theorem A2Y:∀ i:Fin 5,(AcX (i.1+1)).length<=50:=by decide +kernel
theorem A2Z{xs:List Sc}(h5:xs.length<=5){j:Nat}(hj:j<xs.length):∃ h:j<(numL 0 xs).length,(numL 0 xs)[j]={ xs[j]with no:=AcX (j+1) }:=by
 have h2:=AtP xs 0 j hj
 grind[nm,AtO]
theorem BuS{x:Sr}(hx:DrawnR x):StoryD (numL 0 x.Lc)/\∀ y∈numL 0 x.Lc,y.no.length<=50:=by
 obtain⟨ti,xs⟩:=x;have h5:=hx.len;have hall:=hx.all;simp only at h5 hall |-;have hnl:=numL_len 0 xs;have get:∀ y∈numL 0 xs,∃ j,∃ h:j<xs.length,y={ xs[j]with no:=AcX (j+1) }:=fun y hy=>by
  grind[List.mem_iff_getElem,A2Z]
 refine⟨⟨fun y hy=>?_,fun y hy=>?_,?_,by omega⟩,fun y hy=>?_⟩
 .obtain ⟨j,hj,rfl⟩:=get y hy
  exact(hall _ (lac hj)).d.renum (.inr (A1O j (by omega)).2.1)
 .obtain ⟨j,hj,rfl⟩:=get y hy
  exact(A1O j (by omega)).2.1
 .rw [lbj]
  intro i j hi hj hij;simp only[nosL,laa]at hi hj;have hi':i<xs.length:=by omega
  have hj':j<xs.length:=by omega
  simp only[nosL,List.getElem_map,(A2Z h5 hi').2,(A2Z h5 hj').2];exact compareN_lt.1 (A9H ⟨i,by omega⟩ ⟨j,by omega⟩ hij)
 .obtain ⟨j,hj,rfl⟩:=get y hy
  exact A2Y ⟨j,by omega⟩
theorem A9I{xs:List Sc}{nos:List LU}(hm:MdOk xs nos):∀ p∈(layL (entsB xs nos)).Lh,∀ l∈p,l.length<=3000100:=by
 have hb:∀ b∈entsB xs nos,sizB b:=fun b hb=>by
  obtain⟨n,hn,hb⟩:=List.mem_flatMap.1 hb;exact((AdA hm.sc (hm.num n hn)).1 b hb).2.2.2
 have h1:=BwN hb _ (lab _);have h2:qS (layL (entsB xs nos)):=by grind[layL,q_flush]
 exact h2.1
theorem A9J{xs:List Sc}{nos:List LU}(hm:MdOk xs nos)(k:Int):(AdH xs nos k).length<1000:=by
 unfold AdH
 split
 .rename_i j hj
  by_cases h:j<nos.length
  .have:=(number_okA (hm.num (nos.getD j []) (by grind))).2.1
   omega
  grind
 .simp
theorem AzL{xs:List Sc}{nos:List LU}(hm:MdOk xs nos)(k:Nat):((firstsI xs nos).getD k []).length<1000:=by
 grind[firstsI,A9J]
theorem BuT{ti:LU}{xs:List Sc}(hs:ScriptOk ⟨ti,xs⟩)(hd:StoryD xs):DrIn ⟨1,ti,xs,[],lockL xs⟩:=by
 have hm:=hd.md;have hfew:=AoP xs hd.sc hd.few (nosL xs) (by have:=hd.few; grind[nosL]) fun n hn=>AoQ hn
 have hb:=AfF hm;have hpl:=A9I hm;have hfs:=AzL hm;refine⟨hs,hd.sc,by simp,by simp,by grind[lockL,AfH],fun f hf=>?_⟩;simp only[lockL,lvsTo,List.mem_map,List.mem_range]at hf
 grind[itoa_dig3,dig3]
theorem A6N{xs:List Sc}{E:List LU}{j:Nat}(h:j<E.length):List.getD ((entL xs E).map enA) j .any=.agg [.str E[j],.fz 3 ((entB xs E[j]).map rbA)]:=by
 simp[entL,List.getD,h,enA]
theorem AuY(xs:List Sc)(E:List LU):(entL xs E).length=E.length:=by simp[entL]
theorem AlT{St:Std}(hS:LibR St){d:Dr}{E:List LU}(hE:EntOf d E)(hm:MdOk d.Lc E)(hg:d.Lp.length<=1000):PcH prog St 111 [drA d] (· = .fz 1 (E.map .str)):=by
 have hen:=AdM hS (no:=d.no) (ti:=d.Lk) (lv:=d.La) (go:=d.Lp) hE hm hg;have hel:=AuY d.Lc E;have hfn:=hm.fewN;obtain⟨no,ti,xs,go,lv⟩:=d;simp only[drA]at hen hel |-;refine zqIB func111 rfl fun h ρ w hg=>?_
 simp only[go_sem];refine zqB hg (hen) ?_;simp only[go_sem,laa,hel];refine AaC (ι:=Nat) (fun j=>E.length-j) (fun j=>[(12,.int .i64 j),(11,.int .i64 E.length),(10,.fz 2 ((entL xs E).map enA)),(3,.sl 0 0 j j)])
  (fun j=>[.arr 1 ((E.take j).map .str)]) (fun j=>j<=E.length) 0 (by omega) ?_ ?_
 .refine Shift.trans (Lv 3 1 rfl) (Lu ?_ (by rfl))
  simp only[go_sem]
 .intro j g1 J hJ
  by_cases gj:j<E.length
  .have dj:decide ((j:Int)<(E.length:Int))=true:=by simp; omega
   have hg':=A6N (xs:=xs) gj;have hlt:(List.take j E).length=j:=by simp; omega
   have hfin:=hJ (j+1) (by omega) (by omega);rw[lad gj]at hfin;apply zgB;simp only[go_sem,dj,hg',laa,hel,hlt]
   repeat refine aqb ?_
   rw[ic j];refine ainv hfin (Shift.trans (Shift.low 1 (e':=[(12,.int .i64 ((j+1:Nat):Int)),(11,.int .i64 E.length),(10,.fz 2 ((entL xs E).map enA)),(3,.sl 0 0 (j+1) (j+1))]) (by simp) (by simp) ?_ ?_) (Lu ?_ ?_))
   .have:=AaD (E.take j++[E[j]])
    rw[laf]at this
    show(lowB 1 (.arr 1 _)&&true)=true
    rw[lau];exact AaH this
   .simp only[go_sem]
   .simp only [go_sem]
   .rw [laf]
    rfl
  .have dj:decide ((j:Int)<(E.length:Int))=false:=by simp; omega
   have hj:j=E.length:=by omega
   subst hj;rw[lap];apply zgB;simp only[go_sem,dj];refine ARet.shift (Shift.freeze 2 (id:=0) rfl rfl (by simp) (lab _) (AaD _)) (aret [2] rfl ⟨?_,rfl⟩)
   simp[resV,Av.get,Av.put,lae]
theorem BnX{St:Std}(hS:LibR St){ti:LU}{xs:List Sc}(hx:SkR ti xs)(hd:StoryD xs)(h0:xs≠[]) :
  CtH prog St 59 [srA ⟨ti,xs⟩] [] (fun r s=>r=.tup [.agg [.int .i64 1,.str ti,.fz 5 (xs.map scA),.fz 1 [],.sl 2 0 (lockL xs).length (lockL xs).length],.int .i64 0]/\s.getD 2 .dead=.arr 4 ((lockL xs).map leA)):=by
 have hsf:=AeS hS hx;have hm:=hd.md;have hent:=PcH.nil2 (AdM hS (no:=1) (ti:=ti) (lv:=[]) (go:=[]) (hd.ent 1 ti []) hm (by simp));have hpg:=AhI hm;have hfew:=AoP xs hd.sc hd.few (nosL xs) (by have:=hd.few; simp[nosL]; omega) fun n hn=>AoQ hn
 have h5:=hd.few;have hris:=AjV (nosL xs) (by simp[nosL]; omega) (fun n hn=>by
  obtain⟨x,hx,rfl⟩:=List.mem_map.1 hn;have:=number_len (hd.num x hx); omega)
 have hlen:(nosL xs).length=xs.length:=by simp[nosL]
 have hpos:=List.length_pos_iff.2 h0;simp only[srA]at hsf |-;have d2:((0:Int) != 0)=false:=by decide
 refine zdIB func59 rfl fun h ρ w hg=>?_
 simp only[go_sem];refine zqB hg (hsf) ?_;simp only[go_sem,d2,laa];refine AaC (ι:=Nat) (fun i=>xs.length-i) (fun i=>[(24,.int .i64 i),(23,.int .i64 xs.length),(22,.fz 5 (xs.map scA)),(5,.int .i64 i),(3,.int .i64 0),(2,.ptr 0 1 0 0),(1,.pin 2 [.agg [.str ti,.fz 5 (xs.map scA)]] 0 0)])
  (fun i=>[.arr 5 [.agg [.int .i64 0,.str [],.raw (.slice none 0 0),.raw (.slice none 0 0),.raw (.slice none 0 0)]]]) (fun i=>i<=xs.length) 0 (by omega) ?_ ?_
 .refine Ls ?_
  simp only[go_sem]
 .intro i g1 J hJ
  by_cases gi:i<xs.length
  .have di:decide ((i:Int)<(xs.length:Int))=true:=by simp; omega
   have hg':List.getD (List.map scA xs) i .any=.agg [.str xs[i].no,.int .i64 xs[i].place,.str xs[i].set,.int .i64 xs[i].time,.fz 2 (xs[i].Ld.map paA)]:=by simp[List.getD,gi,scA]
   have hne:(xs[i].no != [])=true:=by
    have:=num_ne (hd.num _ (lac gi))
    simpa using this
   have hfin:=hJ (i+1) (by omega) (by omega);apply zgB;simp only[go_sem,di,hg',hne,laa]
   repeat refine aqb ?_
   rw[ic i];refine ainv hfin (Shift.low 1 (by simp) (by simp) rfl ?_);simp only[go_sem]
  .have di:decide ((i:Int)<(xs.length:Int))=false:=by simp; omega
   have hi:i=xs.length:=by omega
   subst hi;clear hJ;have dz:((xs.length:Int)==0)=false:=by rw[lax]; omega
   have dl:decide ((xs.length:Int)<(xs.length:Int))=false:=by simp
   apply zgB;simp only[go_sem,di,dz,dl,laa];refine AaC (ι:=Nat) (fun i=>xs.length-i) (fun i=>[(47,.int .i64 i),(46,.int .i64 xs.length),(45,.fz 5 (xs.map scA)),(8,.sl 1 0 i i),(3,.int .i64 0),(2,.ptr 0 1 0 0),(1,.pin 2 [.agg [.str ti,.fz 5 (xs.map scA)]] 0 0)])
    (fun i=>[.arr 5 [.agg [.int .i64 0,.str [],.raw (.slice none 0 0),.raw (.slice none 0 0),.raw (.slice none 0 0)]],.arr 1 (((nosL xs).take i).map .str)]) (fun i=>i<=xs.length) 0 (by omega) ?_ ?_
   .refine Shift.trans (Lv 8 1 rfl) (Lu ?_ (by rfl))
    simp only[go_sem]
   .intro i g1 J hJ
    by_cases gi:i<xs.length
    .have di:decide ((i:Int)<(xs.length:Int))=true:=by simp; omega
     have hg':List.getD (List.map scA xs) i .any=.agg [.str xs[i].no,.int .i64 xs[i].place,.str xs[i].set,.int .i64 xs[i].time,.fz 2 (xs[i].Ld.map paA)]:=by simp[List.getD,gi,scA]
     have hni:i<(nosL xs).length:=by omega
     have hnx:(nosL xs)[i]=xs[i].no:=by simp[nosL]
     have hlt:(List.take i (nosL xs)).length=i:=by simp; omega
     have hfin:=hJ (i+1) (by omega) (by omega);rw[lad hni,hnx]at hfin;apply zgB;simp only[go_sem,di,hg',laa,hlt]
     repeat refine aqb ?_
     rw[ic i];refine ainv hfin (Shift.trans (Shift.low 2 (e':=[(47,.int .i64 ((i+1:Nat):Int)),(46,.int .i64 xs.length),(45,.fz 5 (xs.map scA)),(8,.sl 1 0 (i+1) (i+1)),(3,.int .i64 0),(2,.ptr 0 1 0 0),(1,.pin 2 [.agg [.str ti,.fz 5 (xs.map scA)]] 0 0)]) (by simp) (by simp) ?_ ?_) (Lu ?_ ?_))
     .have:=AaD ((nosL xs).take i++[xs[i].no])
      rw[laf]at this
      show(_&&(lowB 2 (.arr 1 _)&&true))=true
      rw[lau,lag];exact⟨rfl,AaH this⟩
     .simp only[go_sem]
     .simp only [go_sem]
     .rw [laf]
      rfl
    .have di:decide ((i:Int)<(xs.length:Int))=false:=by simp; omega
     have hi:i=xs.length:=by omega
     subst hi;clear hJ;rw[<- hlen,lap,hlen];refine AWp.shift (Shift.trans (Shift.freeze 8 (id:=1) rfl rfl (by simp[nosL]) (lab _) (AaD _)) (Shift.low 1 (e':=[(47,.int .i64 xs.length),(46,.int .i64 xs.length),(8,.fz 1 ((nosL xs).map .str)),(3,.int .i64 0),(2,.ptr 0 1 0 0),(1,.pin 2 [.agg [.str ti,.fz 5 (xs.map scA)]] 0 0)]) (by simp) (by simp) rfl ?_)) ?_
     .simp only[go_sem]
      rw[lae (by simp[nosL])]
     .apply zgB
      simp only[go_sem,di];refine ApU hris rfl rfl rfl ?_;rintro _ ⟨n,rfl,hn⟩;have hn0:n=0:=hn.2 ⟨fun n hn=>by
       obtain⟨x,hx,rfl⟩:=List.mem_map.1 hn;exact hd.num x hx,fun i h=>List.pairwise_iff_getElem.1 hd.rise i (i+1) _ _ (by omega)⟩
      subst hn0;apply zgB;simp only[go_sem,d2]
      repeat refine aqb ?_
      refine zqB hg (hent) ?_;simp only[go_sem];refine zpB (hpg) ?_;simp only[go_sem,AfJ];have hll:(lockL xs).length=(layL (entsB xs (nosL xs))).Lh.length:=by unfold lockL; rw[AfH]
      have hL:lockL xs=lvsTo (layL (entsB xs (nosL xs))).Lh (firstsI xs (nosL xs)) (layL (entsB xs (nosL xs))).Lh.length:=rfl;rw[hL];have hrg:=fun i h=>AjU (firstsI xs (nosL xs)) (layL (entsB xs (nosL xs))).Lh (i:=i) h
      have hrl:=AfJ (firstsI xs (nosL xs)) (layL (entsB xs (nosL xs))).Lh;generalize (layL (entsB xs (nosL xs))).Lh=pg at *;generalize firstsI xs (nosL xs)=fi at *;refine AaC (ι:=Nat) (fun i=>pg.length-i) (fun i=>[(69,.int .i64 i),(68,.int .i64 pg.length),(67,.fz 2 (AdL fi pg)),(12,.ptr 1 1 0 0),(3,.int .i64 0),(2,.ptr 0 1 0 0)])
       (fun i=>[.arr 5 [.agg [.int .i64 0,.str [],.raw (.slice none 0 0),.raw (.slice none 0 0),.raw (.slice none 0 0)]],.arr 5 [.agg [.int .i64 1,.str ti,.fz 5 (xs.map scA),.fz 1 [],.sl 2 0 i i]],.arr 4 ((lvsTo pg fi i).map leA)]) (fun i=>i<=pg.length) 0 (by omega) ?_ ?_
      .refine Shift.trans (Shift.cells 1 4 [.agg [.int .i64 1,.str ti,.fz 5 (xs.map scA),.fz 1 [],.sl 2 0 0 0]] rfl rfl (by simp[cellsOf]) ⟨.refl,.refl,.refl,.fz,.sl,trivial⟩) (Lu ?_ (by rfl))
       simp only[go_sem]
      .intro i g1 J hJ
       by_cases gi:i<pg.length
       .have di:decide ((i:Int)<(pg.length:Int))=true:=by rw[laj]; omega
        have hrgi:=hrg i gi;have hlt:(lvsTo pg fi i).length=i:=AfH _ _ _;have hit:=AeN hS.ok ((i:Int)+1) (by omega) (by omega);have hfin:=hJ (i+1) (by omega) (by omega);rw[A8F]at hfin;apply zgB;simp only[go_sem,di,hrgi,hrl]
        repeat refine aqb ?_
        refine zr [.str (Lib.itoa ((i:Int)+1))] AaF ?_;simp only[go_sem,laa,hlt]
        repeat refine And.intro (by first|exact hit.at hg|omega|exact .inl trivial|rfl|(simp; done)|(simp; omega)) ?_
        apply zgB;simp only[go_sem]
        repeat refine aqb ?_
        rw[ic i];refine ainv hfin (Shift.trans (Shift.low 3 (e':=[(69,.int .i64 ((i+1:Nat):Int)),(68,.int .i64 pg.length),(67,.fz 2 (AdL fi pg)),(12,.ptr 1 1 0 0),(3,.int .i64 0),(2,.ptr 0 1 0 0)]) (by simp) (by simp) ?_ ?_) (Lu ?_ ?_))
        .have:=AdS (lvsTo pg fi i++[⟨Lib.itoa ((i:Int)+1),1,fi.getD i [],pg.getD i []⟩])
         rw[laf]at this
         show(_&&(_&&(lowB 3 (.arr 4 _)&&true)))=true
         rw[lau,lag,lag];exact⟨rfl,rfl,AaH this⟩
        .simp only[go_sem]
        .simp only [go_sem]
        .rw [laf]
         rfl
       .have di:decide ((i:Int)<(pg.length:Int))=false:=by simp; omega
        have hi:i=pg.length:=by omega
        subst hi;have d9:decide ((pg.length:Int)>999)=false:=by rw[lai]; omega
        have hlt:(lvsTo pg fi pg.length).length=pg.length:=AfH _ _ _;rw[hlt];apply zgB;simp only[go_sem,di,d9,laa,hlt]
        repeat refine aqb ?_
        refine AbF [.cell 2 33,.tmp 3] rfl [.agg [.int .i64 1,.str ti,.fz 5 (xs.map scA),.fz 1 [],.sl 2 0 pg.length pg.length],.int .i64 0] ⟨?_,rfl,trivial⟩ ⟨rfl,rfl⟩;simp only[go_sem,sideIs]
theorem AzM(ti:LU):Pc prog 102 [.agg [.str ti,.fz 5 []]] (· = .agg [.str ti,.fz 5 []]):=by
 have hc:=BeG [] (by simp);simp only[lao]at hc;refine zpIB func102 rfl fun h ρ w=>?_
 simp only[go_sem];refine AfW [] 99 [.fz 5 []] AaF (by decide) rfl rfl 100 ?_;simp only[go_sem]
 repeat refine And.intro (by first|exact hc.at|omega|exact .inl trivial|rfl|(simp; done)|(simp; omega)) ?_
 apply zgB;simp only[go_sem];refine AcE (around ?_);apply zgB;simp only[go_sem];refine AbF [.cell 2 30] rfl [.agg [.str ti,.fz 5 []]] ⟨?_,trivial⟩ ⟨rfl,rfl⟩;simp only[go_sem,sideIs]
theorem BhM:lockL []=[]:=by
 unfold lockL;have:(layL (entsB [] (nosL []))).Lh=[]:=rfl;rw[this]; rfl
theorem BnY{St:Std}(hS:LibR St){ti:LU}(hx:SkR ti []) :
  PcH prog St 59 [srA ⟨ti,[]⟩] (· = .tup [drA ⟨1,ti,[],[],lockL []⟩,.int .i64 0]):=by
 have hsf:=AeS hS hx;have hd:StoryD []:=⟨by simp,by simp,by simp[nosL],by simp⟩;have hm:=hd.md;have hent:=PcH.nil2 (AdM hS (no:=1) (ti:=ti) (lv:=[]) (go:=[]) (hd.ent 1 ti []) hm (by simp));have hpg:=AhI hm;have e1:entL [] (nosL [])=[]:=rfl;have e2:AdL (firstsI [] (nosL [])) (layL (entsB [] (nosL []))).Lh=[]:=rfl;have hris:=Pc.nilarg (es:=1) (AjV [] (by simp) (by simp));rw[e1]at hent hpg;rw[e2]at hpg;rw[BhM];simp only[srA,drA,lao]at hsf hent hpg hris |-;have d2:((0:Int) != 0)=false:=by decide
 refine zqIF func59 rfl fun h ρ w hg=>?_
 simp only[go_sem];refine zqF hg (hsf) ?_;simp only[go_sem,d2];refine AcE (around ?_);apply zgF;simp only[go_sem];refine zpF (AzM ti) ?_;simp only[go_sem];refine AcE (around ?_);apply zgF;simp only[go_sem];refine ApU hris rfl rfl rfl ?_;rintro _ ⟨n,rfl,hn⟩;have hn0:n=0:=hn.2 ⟨by simp,by simp⟩;subst hn0;apply zgF;simp only[go_sem,d2]
 repeat refine aqb ?_
 refine zqF hg (hent) ?_;simp only[go_sem];refine zpF (hpg) ?_;simp only[go_sem];refine AcE (around ?_);apply zgF;simp only[go_sem];refine ARet.shift (Shift.trans (Shift.cells 1 4 [.agg [.int .i64 1,.str ti,.fz 5 [],.fz 1 [],.fz 4 []]] rfl rfl (by simp[cellsOf]) ⟨.refl,.refl,.refl,.fz,.fz,trivial⟩) (Ls (e':=[(3,.int .i64 0),(2,.ptr 1 1 0 0)]) (by simp only[go_sem]))) ?_;refine AbF [.cell 2 33,.tmp 3] rfl [.agg [.int .i64 1,.str ti,.fz 5 [],.fz 1 [],.fz 4 []],.int .i64 0] ⟨?_,rfl,trivial⟩ ⟨rfl,rfl⟩;simp only[go_sem,sideIs]
theorem BhN{St:Std}(hS:LibR St){ti:LU}{xs:List Sc}(hx:SkR ti xs)(hd:StoryD xs) :
  PcH prog St 59 [srA ⟨ti,xs⟩] (· = .tup [drA ⟨1,ti,xs,[],lockL xs⟩,.int .i64 0]):=by
 by_cases h0:xs=[]
 .subst h0
  exact BnY hS hx
 .refine PcH.mono (PcH.ofOwn 1 (BnX hS hx hd h0)) ?_
  rintro _ ⟨_,s,⟨rfl,hs⟩,rfl⟩;have e:bor 1 s (.sl 2 0 (lockL xs).length (lockL xs).length)=.fz 4 ((lockL xs).map leA):=by
   rw[AcR hs (by simp),AgM fun _=>rfl]
  simp only[borV,borC,lak,lao,e,drA];rfl
theorem BuU(l:List (LU×List Bl))(i:Nat)(h:i<l.length):List.getD (l.map enA) i .any=.agg [.str l[i].1,.fz 3 (l[i].2.map rbA)]:=by grind[enA]
theorem AmJ(f:FuncId)(caps:LY)(hc:caps.all frozen0=true)(p:LU×List Bl->Bool)(l:List (LU×List Bl))(hl:l.length<100000000)(hf:∀ x∈l,Pc prog f (enA x::caps) (· = .bool (p x))) :
  Pc prog 223 [.fz 2 (l.map enA),.fn (.func f) caps] (· = .int .i64 (idxP p l)):=by
 refine zpIB func223 rfl fun h ρ w=>?_
 simp only[go_sem];refine AaC (ι:=Nat) (fun i=>l.length-i) (fun i=>[(8,.int .i64 i),(7,.int .i64 l.length),(1,.fn (.func f) caps),(0,.fz 2 (l.map enA))]) (fun _=>[]) (fun i=>i<=l.length/\∀ j,(hj:j<l.length)->j<i->p l[j]=false) 0 ⟨by simp,fun j _ h=>absurd h (by omega)⟩ ?_ ?_
 .refine Ls ?_
  simp only[go_sem,laa]
 .rintro i ⟨g1,g2⟩ J hJ
  by_cases gi:i<l.length
  .have di:decide ((i:Int)<(l.length:Int))=true:=by simp; omega
   have hfx:=hf _ (lac gi);simp only[enA]at hfx;apply zgB;simp only[go_sem,di,BuU l i gi,laa]
   repeat refine aqe ?_
   cases hp:p l[i]with
   | true =>
    rw[hp]at hfx;refine AaL hfx (nr1_cons rfl hc) rfl rfl (zgB ?_);simp only[go_sem];exact aret [4] rfl ⟨congrArg _ (AzK gi hp fun j hj=>g2 j (by omega) hj).symm,rfl⟩
   | false =>
    rw[hp]at hfx;refine AaL hfx (nr1_cons rfl hc) rfl rfl (zgB ?_);simp only[go_sem]
    repeat refine aqf ?_
    rw[ic i];refine ainv (hJ (i+1) ⟨by omega,fun j hj h=>?_⟩ (by omega)) (Ls ?_)
    .rcases Nat.lt_or_ge j i with h2|h2
     .exact g2 j hj h2
     .have:j=i:=by omega
      subst this; exact hp
    .simp only [go_sem]
  .have di:decide ((i:Int)<(l.length:Int))=false:=by simp; omega
   apply zgB;simp only[go_sem,di];exact aret [4] rfl ⟨congrArg _ (AzJ fun j hj=>g2 j hj (by omega)).symm,rfl⟩
theorem A3A(e:LU×List Bl)(f:Le'):Pc prog 224 [enA e,.pin 4 [leA f] 0 0] (· = .bool (e.1==f.first)):=by
 simp only[enA,leA];refine zpIB func224 rfl fun h ρ w=>?_
 simp only[go_sem];exact zt [3]
theorem A3B(e:LU×List Bl)(d:Dr)(n:Nat)(hn:n<d.La.length):Pc prog 225 [enA e,.pin 5 [drA d] 0 0,.pin 1 [.int .i64 (n:Int)] 0 0] (· = .bool (e.1==fst d.La n)):=by
 have hg:=AaY hn;have hf:fst d.La n=d.La[n].first:=by simp[fst,List.getD,hn]
 rw[hf];simp only[enA,drA];refine zpIB func225 rfl fun h ρ w=>?_
 simp only[go_sem];refine zr [] AaF ?_;simp only[go_sem,hg,laa]
 repeat refine aqb ?_
 apply zgB;simp only[go_sem];exact zt [4]
theorem A3C(e:LU×List Bl)(d:Dr)(n:Nat)(hn:n<d.La.length):Pc prog 226 [enA e,.pin 5 [drA d] 0 0,.pin 1 [.int .i64 (n:Int)] 0 0] (· = .bool (e.1==fst d.La n)):=by
 have hg:=AaY hn;have hf:fst d.La n=d.La[n].first:=by simp[fst,List.getD,hn]
 rw[hf];simp only[enA,drA];refine zpIB func226 rfl fun h ρ w=>?_
 simp only[go_sem];refine zr [] AaF ?_;simp only[go_sem,hg,laa]
 repeat refine aqb ?_
 apply zgB;simp only[go_sem];exact zt [4]
theorem BhO(f:Le')(x:LU)(p:List Ln)(hp:p.length<1000000)(hf:f.Lb.length<1000000):Pc prog 228 [leA f,.agg [.str x,.fz 1 (p.map .str)]] (· = .bool (f.Lb==p)):=by
 have he:=AfD f.Lb p (by omega) (by omega);simp only[leA];refine zpIB func228 rfl fun h ρ w=>?_
 simp only[go_sem];refine zpB (he) ?_;simp only[go_sem];exact zt [4]
theorem AzN(fs:List Le')(fi:List LU)(ps:List (List Ln))(he:fs.map (·.Lb)=ps)(h1:∀ p∈ps,p.length<1000000)(h3:ps.length<1000000) :
  Pc prog 227 [.fz 4 (fs.map leA),.fz 2 (AdL fi ps),.fn (.func 228) []] (· = .bool true):=by
 have hl:fs.length=ps.length:=by rw[<- he,laa]
 have hrl:=AfJ fi ps;have d0:((fs.length:Int) != (ps.length:Int))=false:=by simp[hl]
 refine zpIB func227 rfl fun h ρ w=>?_
 simp only[go_sem,d0,laa,hrl];refine AaC (ι:=Nat) (fun i=>fs.length-i) (fun i=>[(17,.int .i64 i),(16,.int .i64 fs.length),(15,.fz 4 (fs.map leA)),(2,.fn (.func 228) []),(1,.fz 2 (AdL fi ps)),(0,.fz 4 (fs.map leA))]) (fun _=>[]) (fun i=>i<=fs.length) 0 (by omega) ?_ ?_
 .refine Ls ?_
  simp only[go_sem]
 .rintro i g1 J hJ
  by_cases gi:i<fs.length
  .have di:decide ((i:Int)<(fs.length:Int))=true:=by simp; omega
   have gb:i<ps.length:=by omega
   have e1:=AaY gi;have e2:=AjU fi ps gb;have hli:fs[i].Lb=ps.getD i []:=by
    have:(fs.map (·.Lb))[i]? = ps[i]?:=by rw[he]
    rw[lbw,lam gi,lam gb]at this;simp only[Option.map_some,lbr]at this;rw[this]
    simp[List.getD,gb]
   have hpl:(ps.getD i []).length<1000000:=by
    have:ps.getD i []∈ps:=by simp[List.getD,gb]
    exact h1 _ this
   have hc:=BhO fs[i] (fi.getD i []) (ps.getD i []) hpl (by rw[hli]; exact hpl);have hb:(fs[i].Lb==ps.getD i [])=true:=by rw[hli]; simp
   rw[hb]at hc;simp only[leA]at hc;have hfin:=hJ (i+1) (by omega) (by omega);apply zgB;simp only[go_sem,di,e1,e2,laa,hrl]
   repeat refine aqb ?_
   refine zpB (hc) ?_;simp only[go_sem]
   repeat refine aqb ?_
   rw[ic i];refine ainv hfin (Shift.low 0 (by simp) (by simp) rfl ?_);simp only[go_sem]
  .have di:decide ((i:Int)<(fs.length:Int))=false:=by simp; omega
   apply zgB;simp only[go_sem,di];exact zt [6]
def ancs(l:List Le')(i:Nat):List Nat:=(runsTo l i).map (·.1)
theorem AgP(l:List Le'){i:Nat}(hi:i<l.length):ancs l (i+1)=if fst l i=[] then ancs l i else ancs l i++[i]:=by
 have hf:fst l i=l[i].first:=by grind[fst]
 unfold ancs;simp only[runsTo,lam hi,runStep,hf]
 by_cases h0:l[i].first=[]
 .·refine lbo fun j=>?_<;>grind
 grind
theorem ancs_len(l:List Le')(i:Nat):(ancs l i).length=(runsTo l i).length:=by simp[ancs]
def lastX(E:List LU)(l:List Le')(i:Nat):Int:=if lastF l i=[] then -1 else(ixN E (lastF l i):Int)
theorem AmK{xs:List Sc}{E:List LU}{n:LU}(h:n∈E):idxP (fun e:LU×List Bl=>e.1==n) (entL xs E)=(ixN E n:Int):=by
 obtain⟨_,_,h3⟩:=AfT h;rw[<- h3];unfold idxP entL;have:((fun e:LU×List Bl=>e.1==n)∘fun m=>(m,entB xs m))=fun y=>n==y:=by
  grind
 grind
