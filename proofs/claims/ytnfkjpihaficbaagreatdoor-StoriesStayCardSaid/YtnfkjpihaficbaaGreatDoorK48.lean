/- Stories stay: the law, walked. -/
import Derived.Test.YtnfkjpihaficbaaGreatDoorK47
set_option maxRecDepth 100000
set_option maxHeartbeats 16000000
set_option linter.unusedSimpArgs false
set_option linter.unusedVariables false
namespace Go.Proofs.YtnfkjpihaficbaaGreatDoor
open Go Go.Av Go.RowKit _root_.Go.Proofs.Tryz
theorem PcH.imp{P:Program}{g:Std}{f:FuncId}{args:List AV}{p q:AV->Prop}(h:PcH P g f args p)(hpq:∀ r,p r->q r):PcH P g f args q:=by
 refine⟨h.1,fun hh w vs h1 h2 h3=>(h.2 hh w vs h1 h2 h3).mono ?_⟩;rintro en w' ⟨v,r,h',e,hp,rest⟩;exact⟨v,r,h',e,hpq r hp,rest⟩
theorem Pc.imp{P:Program}{f:FuncId}{args:List AV}{p q:AV->Prop}(h:Pc P f args p)(hpq:∀ r,p r->q r):Pc P f args q:=by
 refine⟨h.1,fun hh w vs h2 h3=>(h.2 hh w vs h2 h3).mono ?_⟩;rintro en w' ⟨v,r,h',e,hp,rest⟩;exact⟨v,r,h',e,hpq r hp,rest⟩
theorem CtH.nil3{P:Program}{g:Std}{f:FuncId}{a b:AV}{es:Nat}{r:List AV}{s:List Blk}{post:AV->List Blk->Prop}(hc:CtH P g f (a::b::.fz es []::r) s post):CtH P g f (a::b::.raw (.slice none 0 0)::r) s post:=by
 refine⟨hc.1,fun h ρ w vs hg m rl=>hc.2 h ρ w vs hg m ?_⟩
 cases rl with
 | cons r1 rl =>
  cases rl with
  | cons r2 rl =>
   cases rl with
   | cons r3 rl =>
    refine .cons r1 (.cons r2 (.cons ?_ rl))
    cases r3 with
    | leaf l=>exact l.2.elim
    | raw v=>exact .fznil es
structure SpS(T:List Blk)(p n:Nat)(so:Option (Nat×Nat)):Prop where
 ord:∃ l:List Int,T[p]? = some (.arr 1 (l.map (.int .i64)))/\l.length=n
 sh:∀ z,so=some z->∃ R:List Shr,T[z.1]? = some (.arr 2 (R.map shRow))/\R.length=z.2/\∀ q∈R,q.l.length<=12/\∃ l:List Nd,T[q.id]? = some (.arr 4 (l.map ndA))/\l.length=q.l.length
theorem SpS.app{T p n so}(h:SpS T p n so)(U:List Blk):SpS (T++U) p n so:=by
 obtain⟨l,h1,h2⟩:=h.ord;refine⟨⟨l,AbU h1 U,h2⟩,fun z hz=>?_⟩;obtain⟨R,h3,h4,h5⟩:=h.sh z hz;refine⟨R,AbU h3 U,h4,fun q hq=>⟨(h5 q hq).1,?_⟩⟩;obtain⟨l,h6,h7⟩:=(h5 q hq).2;exact⟨l,AbU h6 U,h7⟩
theorem BkO{a:List Lk}{b:List Nd}(h:0<a.length):Blk.arr 4 (a.map lookA)≠Blk.arr 4 (b.map ndA):=by
 intro e
 cases a with
 | nil=>simp at h
 | cons x r =>
  cases b with
  | nil=>simp at e
  | cons y t=>simp[lookA,ndA]at e
theorem SpS.look{T p n so}(h:SpS T p n so){j:Nat}{a:List Lk}(hj:T[j]? = some (.arr 4 (a.map lookA)))(ha:0<a.length)(b:List AV):SpS (T.set j (.arr 4 b)) p n so:=by
 obtain⟨l,h1,h2⟩:=h.ord;refine⟨⟨l,AcJ h1 (AhP hj h1 (by simp)) _,h2⟩,fun z hz=>?_⟩;obtain⟨R,h3,h4,h5⟩:=h.sh z hz;refine⟨R,AcJ h3 (AhP hj h3 (by simp)) _,h4,fun q hq=>⟨(h5 q hq).1,?_⟩⟩;obtain⟨l,h6,h7⟩:=(h5 q hq).2;exact⟨l,AcJ h6 (AhP hj h6 (BkO ha)) _,h7⟩
theorem SpS.need{T p n so}(h:SpS T p n so){j:Nat}{a b:List Nd}(hj:T[j]? = some (.arr 4 (a.map ndA)))(hb:b.length=a.length):SpS (T.set j (.arr 4 (b.map ndA))) p n so:=by
 obtain⟨l,h1,h2⟩:=h.ord;refine⟨⟨l,AcJ h1 (AhP hj h1 (by simp)) _,h2⟩,fun z hz=>?_⟩;obtain⟨R,h3,h4,h5⟩:=h.sh z hz;refine⟨R,AcJ h3 (AhP hj h3 (by simp)) _,h4,fun q hq=>⟨(h5 q hq).1,?_⟩⟩;obtain⟨l,h6,h7⟩:=(h5 q hq).2
 by_cases e:j=q.id
 .subst e
  rw[h6]at hj;have hll:=congrArg (fun b=>match b with|some (Blk.arr _ r)=>r.length|_=>0) hj;simp only[List.length_map]at hll;exact⟨b,AhO (AeV h6) _,by omega⟩
 .exact ⟨l,AcJ h6 e _,h7⟩
theorem SpS.ordw{T p n so}(h:SpS T p n so){b:List Int}(hb:b.length=n):SpS (T.set p (.arr 1 (b.map (.int .i64)))) p n so:=by
 obtain⟨l,h1,h2⟩:=h.ord;refine⟨⟨b,AhO (AeV h1) _,hb⟩,fun z hz=>?_⟩;obtain⟨R,h3,h4,h5⟩:=h.sh z hz;refine⟨R,AcJ h3 (AhP h1 h3 (by simp)) _,h4,fun q hq=>⟨(h5 q hq).1,?_⟩⟩;obtain⟨l2,h6,h7⟩:=(h5 q hq).2;exact⟨l2,AcJ h6 (AhP h1 h6 (by simp)) _,h7⟩
theorem A1P(l:List Int)(i:Nat)(v:Int):(l.map (AV.int .i64)).set i (.int .i64 v)=(l.set i v).map (.int .i64):=by rw[List.map_set]
theorem BaN(R:List Shr)(i:Nat)(h:i<R.length):(R.map shRow).getD i .any=.agg [.str R[i].no,.sl R[i].id 0 R[i].l.length R[i].l.length]:=by simp[List.getD,h,shRow]
theorem AnY{S:Std}(hS:LibR S)(L:List Int):PcH prog S 7 [.fz 1 (L.map (.int .i64))] (· = .bool true):=by
 obtain⟨⟨hx,hj,hf⟩,k1,k2⟩:=BaL L 0;have hr:=AoK hS L 0 (by omega) (by omega);have ht:=AsF hS.ok;generalize rightF L 0=z at *;obtain⟨x,js,fs,k'⟩:=z;simp only at hx hj hf k1 k2 hr;have hxl:=hx.len;have hfl:=hf.len;have hjl:=hj.len;have hru:=A2Z hS.ok L k' (by omega) (by omega);obtain⟨r1,r2,_,_⟩:=A8V L k';generalize rulesF L k'=z at *;obtain⟨rs,k''⟩:=z;simp only at r1 r2 hru;have hsh:=CtH.nil3 (A3Q hS.ok x hx rs r1 r2 [] (by simp) (by simp) [] rfl);have hst:=A3U hS.ok x hx js hj;have hlk:=A3S hS.ok x hx js hj fs hf;have hsame:=BkK x (by omega) (fun y hy=>by have:=(AhJ hx y hy).1; omega);have hejm:=BkL js (by omega);have hefa:=BkM fs (by omega);have heru:=BeU rs (by omega) (fun r hr l hl=>by have:=(r1 r hr).inn l hl; omega);simp only[srA]at hr hsh hst hlk hsame;refine zqIF func7 rfl fun h ρ w hg=>?_
 simp only[go_sem];refine AtA hg (agg:=str L 0) hr rfl rfl (id:=0) rfl rfl rfl ?_;rintro _ _ ⟨rfl,rfl⟩;refine zgF ?_;simp only[go_sem,List.length_map];refine AtA hg (agg:=str L 0) hr rfl rfl (id:=1) rfl rfl rfl ?_;rintro _ _ ⟨rfl,rfl⟩;refine zgF ?_;simp only[go_sem,List.length_map];refine AtA hg (agg:=str L k') hru rfl rfl (id:=0) rfl rfl rfl ?_;rintro _ _ ⟨rfl,rfl⟩;refine zgF ?_;simp only[go_sem,List.length_map];refine AtA hg (agg:=str L k') hru rfl rfl (id:=1) rfl rfl rfl ?_;rintro _ _ ⟨rfl,rfl⟩;refine goF rfl 5 ?_;simp only[go_sem];refine AWp.shift (Shift.weak (e':=[(12,.fz 5 (rs.map ruA)),(11,.fz 5 (rs.map ruA)),(10,.fz 5 (fs.map faA)),(9,.fz 4 (js.map jmA)),(7,.fz 5 (fs.map faA)),(6,.fz 4 (js.map jmA)),(8,.ptr 3 1 0 0),(5,.ptr 2 1 0 0)]) ?_) ?_
 .simp only [go_sem]
 refine AWp.shift (Shift.frz 3 (es:=2) (l:=[.agg [.str x.title,.fz 5 (x.scenes.map scA)]]) rfl rfl) ?_;refine AWp.shift (Shift.frz 2 (es:=2) (l:=[.agg [.str x.title,.fz 5 (x.scenes.map scA)]]) rfl rfl) ?_;refine AWp.shift (Shift.low 0 (e':=[(12,.fz 5 (rs.map ruA)),(11,.fz 5 (rs.map ruA)),(10,.fz 5 (fs.map faA)),(9,.fz 4 (js.map jmA)),(7,.fz 5 (fs.map faA)),(6,.fz 4 (js.map jmA)),(8,.pin 2 [.agg [.str x.title,.fz 5 (x.scenes.map scA)]] 0 0),(5,.pin 2 [.agg [.str x.title,.fz 5 (x.scenes.map scA)]] 0 0)]) (by simp) (by simp) rfl ?_) ?_
 .simp only [wkl,frzE,frz,frz1,lowV,lowC,Av.get,go_sem]
 simp only[List.take_zero];refine zgF ?_;simp only[go_sem];refine zaH hg (hsh) ?_;intro sr T hR;obtain⟨sv,en,so,rfl,hso,hT⟩:∃ (sv:AV) (en:Int) (so:Option (Nat×Nat)),sr=.tup [sv,.int .i64 en]/\(en=0->∃ z,so=some z/\sv=.sl z.1 0 z.2 z.2/\z.2<=5)/\(∀ z,so=some z->∃ R:List Shr,T[z.1]? = some (.arr 2 (R.map shRow))/\R.length=z.2/\∀ q∈R,q.l.length<=12/\∃ l:List Nd,T[q.id]? = some (.arr 4 (l.map ndA))/\l.length=q.l.length):=by
  rcases hR with⟨en,h1,_,rfl,_⟩|⟨_,_,o,R,rfl,hO,_,hRl,hall⟩
  .exact ⟨_,en,none,rfl,fun e=>absurd e h1,fun z e=>by cases e⟩
  .refine ⟨_,0,some (o,R.length),rfl,fun _=>⟨_,rfl,rfl,by simp only; omega⟩,fun z e=>?_⟩
   simp only[Option.some.injEq]at e;subst e;refine⟨R,hO.out,rfl,fun q hq=>?_⟩;obtain⟨i,hi,rfl⟩:=List.getElem_of_mem hq;exact⟨(hall i (by omega) hi).2.2,_,(hO.rows _ hq).2,rfl⟩
 clear hR hsh hr hru;refine zgF ?_;simp only[go_sem];refine zaH hg (hst.liftN rfl (by rintro _ _ ⟨_,rfl⟩; rfl) T) ?_;rintro _ _ ⟨_,_,⟨rfl,rfl⟩,rfl,rfl⟩;have hsp:SpS (T++[.arr 1 ((ordL x js).map inA)]) T.length x.scenes.length so:=by
  have ho:(ordL x js).length=x.scenes.length:=by rw[(AnP hx hj).length_eq,List.length_range]
  refine⟨⟨(ordL x js).map (fun n=>((n:Nat):Int)),?_,by simp[ho]⟩,fun z hz=>?_⟩
  .rw [List.map_map]
   have:((AV.int IntKind.i64)∘fun n=>((n:Nat):Int))=inA:=rfl;rw[this]
   simp
  .obtain ⟨R,h3,h4,h5⟩:=hT z hz
   refine⟨R,AbU h3 _,h4,fun q hq=>⟨(h5 q hq).1,?_⟩⟩;obtain⟨l,h6,h7⟩:=(h5 q hq).2;exact⟨l,AbU h6 _,h7⟩
 have hmi:∀ l:List Nat,(l.map inA).map (shC T.length)=l.map inA:=fun l=>by
  rw[List.map_map];exact List.map_congr_left fun c _=>rfl
 simp only[shV,shC,sh1,shB,hmi,List.map_cons,List.map_nil,Nat.zero_add];clear hT hst hmi;generalize T++[Blk.arr 1 ((ordL x js).map inA)]=T2 at *;generalize T.length=p at *;obtain⟨n,hn⟩:∃ n,n=x.scenes.length:=⟨_,rfl⟩;rw[<- hn]at hsp hxl |-;refine zgF ?_;simp only[go_sem,List.length_map];refine AaC (ι:=Nat×List Blk) (fun y=>x.scenes.length-y.1)
  (fun y=>[(66,.int .i64 y.1),(65,.int .i64 x.scenes.length),(64,.fz 5 (x.scenes.map scA)),(15,.sl p 0 n n),(14,.int .i64 en),(13,sv),(12,.fz 5 (rs.map ruA)),(11,.fz 5 (rs.map ruA)),(10,.fz 5 (fs.map faA)),(9,.fz 4 (js.map jmA)),(7,.fz 5 (fs.map faA)),(6,.fz 4 (js.map jmA)),(8,.pin 2 [.agg [.str x.title,.fz 5 (x.scenes.map scA)]] 0 0),(5,.pin 2 [.agg [.str x.title,.fz 5 (x.scenes.map scA)]] 0 0)])
  (fun y=>y.2) (fun y=>y.1<=x.scenes.length/\SpS y.2 p n so) (0,T2) ⟨Nat.zero_le _,hsp⟩ ?_ ?_
 .refine Shift.weakS ?_ rfl
  simp only[go_sem,List.length_map]
  try rfl
 clear hsp;rintro⟨i,T⟩ ⟨g1,g2⟩ J hJ;simp only at g1 g2 hJ |-
 by_cases gi:i<x.scenes.length
 .have di:decide ((i:Int)<(x.scenes.length:Int))=true:=by simp; omega
  have p2:=AdL x.scenes i gi;have hl2:=hlk i gi;have hfin:∀ T',SpS T' p n so->_:=fun T' h=>hJ (i+1,T') ⟨by simp only; omega,h⟩ (by simp only; omega)
  clear hJ;generalize x.scenes[i]=y at *;have g3:=g2.app [.arr 5 [scA y]];simp only[scA]at g3;refine zgF ?_;simp only[go_sem,di,p2,gt_at,gt_at0,st_at,st_at0,List.length_map,List.append_assoc,List.cons_append,List.nil_append,List.length_append,List.length_cons,List.length_nil,Nat.zero_add,List.set_cons_zero,List.set_cons_succ,List.getD_cons_zero,List.getD_cons_succ]
  repeat refine ai ?_
  generalize T++[Blk.arr 5 [.agg [.str y.no,.int .i64 y.place,.str y.set,.int .i64 y.time,.fz 2 (y.paras.map paA)]]]=T1 at *;generalize T.length=yp at *;refine zaH hg (hl2 T1) ?_;rintro _ _ ⟨l,hlo,rfl,rfl⟩;have hlm:l.length<=8:=by
   rw[A3R (AkI x js fs i) hlo];exact A3T hx hj hf i
  have g4:=g3.app [.arr 4 (l.map lookA)];have hlb:(T1++[Blk.arr 4 (l.map lookA)])[T1.length]? = some (.arr 4 (l.map lookA)):=by simp
  generalize T1++[Blk.arr 4 (l.map lookA)]=T3 at *;generalize T1.length=j at *;clear g2 g3;obtain⟨m,hm⟩:∃ m,m=l.length:=⟨_,rfl⟩;rw[<- hm]at hlm |-;have hm2:=hm.symm;have k7:=AeU hlb;refine zgF ?_;simp only[go_sem,k7,hm2,List.length_map]
  repeat refine ai ?_
  refine AaC (ι:=Nat×List Blk×List Lk) (fun y=>m-y.1)
   (fun y=>[(83,.int .i64 y.1),(82,.int .i64 m),(19,.sl j 0 m m),(66,.int .i64 i),(65,.int .i64 x.scenes.length),(64,.fz 5 (x.scenes.map scA)),(15,.sl p 0 n n),(14,.int .i64 en),(13,sv),(12,.fz 5 (rs.map ruA)),(11,.fz 5 (rs.map ruA)),(10,.fz 5 (fs.map faA)),(9,.fz 4 (js.map jmA)),(7,.fz 5 (fs.map faA)),(6,.fz 4 (js.map jmA)),(8,.pin 2 [.agg [.str x.title,.fz 5 (x.scenes.map scA)]] 0 0),(5,.pin 2 [.agg [.str x.title,.fz 5 (x.scenes.map scA)]] 0 0)])
   (fun y=>y.2.1) (fun y=>y.1<=m/\SpS y.2.1 p n so/\y.2.1[j]? = some (.arr 4 (y.2.2.map lookA))/\y.2.2.length=m) (0,T3,l) ⟨by simp,g4,hlb,hm2⟩ ?_ ?_
  .refine Shift.weakS ?_ rfl
   simp only[go_sem]
  clear g4 hlb hm hm2 k7;rintro⟨c,T,cs⟩ ⟨f1,f2,f3,f4⟩ J2 hJ2;simp only at f1 f2 f3 f4 hJ2 |-
  by_cases gc:c<m
  .have dc:decide ((c:Int)<(m:Int))=true:=by simp; omega
   have hgc:=AiK cs c (by omega);have hst:=AnV cs c ⟨cs[c].el,cs[c].facet,[115,112,111,105,108,116]⟩;have k6:=AeU f3;have hw:=f2.look f3 (by omega) ((cs.set c ⟨cs[c].el,cs[c].facet,[115,112,111,105,108,116]⟩).map lookA);have hfin2:=hJ2 (c+1,_,_) ⟨by simp only; omega,hw,by simp only; exact AhO (AeV f3) _,by simp only; rw[List.length_set]; exact f4⟩ (by simp only; omega);simp only at hst;clear hJ2;refine zgF ?_;simp only[go_sem,dc,hgc,k6,f4,hst,List.length_map]
   repeat refine ai ?_
   rw[ic c];refine ainv hfin2 (Shift.weakS ?_ rfl);simp only[go_sem]
  .have dc:decide ((c:Int)<(m:Int))=false:=by simp; omega
   have hfin3:=hfin T f2;clear hJ2;refine zgF ?_;simp only[go_sem,dc]
   repeat refine ai ?_
   rw[ic i];refine ainv hfin3 (Shift.weakS ?_ rfl);simp only[go_sem]
 have di:decide ((i:Int)<(x.scenes.length:Int))=false:=by simp; omega
 clear hJ
 by_cases he:en=0
 rotate_left
 .have de:(en==0)=false:=by simpa using he
  obtain⟨lo,q1,q2⟩:=g2.ord;have k1:=AeU q1;refine zgF ?_;simp only[go_sem,di,de,k1,q2,List.length_map]
  repeat refine ai ?_
  refine AaC (ι:=Nat×List Blk) (fun y=>n-y.1) (fun y=>[(115,.int .i64 y.1),(114,.int .i64 n),(15,.sl p 0 n n),(14,.int .i64 en),(13,sv),(12,.fz 5 (rs.map ruA)),(11,.fz 5 (rs.map ruA)),(10,.fz 5 (fs.map faA)),(9,.fz 4 (js.map jmA)),(7,.fz 5 (fs.map faA)),(6,.fz 4 (js.map jmA)),(8,.pin 2 [.agg [.str x.title,.fz 5 (x.scenes.map scA)]] 0 0),(5,.pin 2 [.agg [.str x.title,.fz 5 (x.scenes.map scA)]] 0 0)]) (fun y=>y.2) (fun y=>y.1<=n/\SpS y.2 p n so) (0,T) ⟨Nat.zero_le _,g2⟩ ?_ ?_
  .refine Shift.weakS ?_ rfl
   simp only[go_sem]
  clear g2 q1 q2 k1;rintro⟨c,T⟩ ⟨f1,f2⟩ J2 hJ2;simp only at f1 f2 hJ2 |-
  by_cases gc:c<n
  .have dc:decide ((c:Int)<(n:Int))=true:=by simp; omega
   obtain⟨lo,q1,q2⟩:=f2.ord;have k1:=AeU q1;have hst:=A1P lo c (-1);have hgc:=AsE lo c (by omega);have hw:=f2.ordw (b:=lo.set c (-1)) (by simp[q2]);have hfin2:=hJ2 (c+1,_) ⟨by simp only; omega,hw⟩ (by simp only; omega);clear hJ2;refine zgF ?_;simp only[go_sem,dc,k1,q2,hgc,hst,List.length_map]
   repeat refine ai ?_
   rw[ic c];refine ainv hfin2 (Shift.weakS ?_ rfl);simp only[go_sem]
  .have dc:decide ((c:Int)<(n:Int))=false:=by simp; omega
   clear hJ2;refine zgB ?_;simp only[go_sem,dc];refine zpB (heru) ?_;simp only[go_sem];refine zqB hg (ht) ?_;simp only[go_sem];refine zpB (hsame) ?_;simp only[go_sem];refine zpB (hejm) ?_;simp only[go_sem];refine zpB (hefa) ?_;simp only[go_sem];exact zt [2]
 have de:(en==0)=true:=by simpa using he
 obtain⟨⟨o,m⟩,hz,rfl,hm5⟩:=hso he;simp only at hz hm5 |-;subst hz;obtain⟨R0,q1,q2,_⟩:=g2.sh _ rfl;have k1:=AeU q1;simp only at q2 k1;refine zgF ?_;simp only[go_sem,di,de,k1,q2,List.length_map]
 repeat refine ai ?_
 refine AaC (ι:=Nat×List Blk) (fun y=>m-y.1)
  (fun y=>[(96,.int .i64 y.1),(95,.int .i64 m),(94,.sl o 0 m m),(15,.sl p 0 n n),(14,.int .i64 en),(13,.sl o 0 m m),(12,.fz 5 (rs.map ruA)),(11,.fz 5 (rs.map ruA)),(10,.fz 5 (fs.map faA)),(9,.fz 4 (js.map jmA)),(7,.fz 5 (fs.map faA)),(6,.fz 4 (js.map jmA)),(8,.pin 2 [.agg [.str x.title,.fz 5 (x.scenes.map scA)]] 0 0),(5,.pin 2 [.agg [.str x.title,.fz 5 (x.scenes.map scA)]] 0 0)])
  (fun y=>y.2) (fun y=>y.1<=m/\SpS y.2 p n (some (o,m))) (0,T) ⟨Nat.zero_le _,g2⟩ ?_ ?_
 .refine Shift.weakS ?_ rfl
  simp only[go_sem]
 clear g2 q1 q2 k1;rintro⟨i,T⟩ ⟨g1,g2⟩ J hJ;simp only at g1 g2 hJ |-
 by_cases gi:i<m
 rotate_left
 .have di:decide ((i:Int)<(m:Int))=false:=by simp; omega
  obtain⟨lo,q1,q2⟩:=g2.ord;have k1:=AeU q1;clear hJ;refine zgF ?_;simp only[go_sem,di,k1,q2,List.length_map]
  repeat refine ai ?_
  refine AaC (ι:=Nat×List Blk) (fun y=>n-y.1) (fun y=>[(115,.int .i64 y.1),(114,.int .i64 n),(15,.sl p 0 n n),(14,.int .i64 en),(13,.sl o 0 m m),(12,.fz 5 (rs.map ruA)),(11,.fz 5 (rs.map ruA)),(10,.fz 5 (fs.map faA)),(9,.fz 4 (js.map jmA)),(7,.fz 5 (fs.map faA)),(6,.fz 4 (js.map jmA)),(8,.pin 2 [.agg [.str x.title,.fz 5 (x.scenes.map scA)]] 0 0),(5,.pin 2 [.agg [.str x.title,.fz 5 (x.scenes.map scA)]] 0 0)]) (fun y=>y.2) (fun y=>y.1<=n/\SpS y.2 p n (some (o,m))) (0,T) ⟨Nat.zero_le _,g2⟩ ?_ ?_
  .refine Shift.weakS ?_ rfl
   simp only[go_sem]
  clear g2 q1 q2 k1;rintro⟨c,T⟩ ⟨f1,f2⟩ J2 hJ2;simp only at f1 f2 hJ2 |-
  by_cases gc:c<n
  .have dc:decide ((c:Int)<(n:Int))=true:=by simp; omega
   obtain⟨lo,q1,q2⟩:=f2.ord;have k1:=AeU q1;have hst:=A1P lo c (-1);have hgc:=AsE lo c (by omega);have hw:=f2.ordw (b:=lo.set c (-1)) (by simp[q2]);have hfin2:=hJ2 (c+1,_) ⟨by simp only; omega,hw⟩ (by simp only; omega);clear hJ2;refine zgF ?_;simp only[go_sem,dc,k1,q2,hgc,hst,List.length_map]
   repeat refine ai ?_
   rw[ic c];refine ainv hfin2 (Shift.weakS ?_ rfl);simp only[go_sem]
  .have dc:decide ((c:Int)<(n:Int))=false:=by simp; omega
   clear hJ2;refine zgB ?_;simp only[go_sem,dc];refine zpB (heru) ?_;simp only[go_sem];refine zqB hg (ht) ?_;simp only[go_sem];refine zpB (hsame) ?_;simp only[go_sem];refine zpB (hejm) ?_;simp only[go_sem];refine zpB (hefa) ?_;simp only[go_sem];exact zt [2]
 have di:decide ((i:Int)<(m:Int))=true:=by simp; omega
 obtain⟨R0,q1,q2,q3⟩:=g2.sh _ rfl;have k1:=AeU q1;simp only at q2 k1;have hget:=BaN R0 i (by omega);obtain⟨c1,l0,c2,c3⟩:=q3 R0[i] (List.getElem_mem (by omega));generalize R0[i]=q at hget c1 c2 c3;obtain⟨sno,sl,sid⟩:=q;simp only at hget c1 c2 c3;obtain⟨cl,hcl⟩:∃ z,z=sl.length:=⟨_,rfl⟩;rw[<- hcl]at c1 c3 hget;have hfin:∀ T',SpS T' p n (some (o,m))->_:=fun T' h=>hJ (i+1,T') ⟨by simp only; omega,h⟩ (by simp only; omega)
 clear hJ;have g3:=g2.app [.arr 2 [.agg [.str sno,.sl sid 0 cl cl]]];have c4:=AbU c2 [.arr 2 [.agg [.str sno,.sl sid 0 cl cl]]];have hro:(T++[Blk.arr 2 [.agg [.str sno,.sl sid 0 cl cl]]])[T.length]? = some (.arr 2 [.agg [.str sno,.sl sid 0 cl cl]]):=by simp
 have c5:=AeU c4;have hroG:=AeU hro;have c6:=fun U=>AdQ c2 U
 refine zgF ?_;simp only[go_sem,di,k1,q2,hget,c6,c3,gt_at,gt_at0,st_at,st_at0,List.length_map,List.append_assoc,List.cons_append,List.nil_append,List.length_append,List.length_cons,List.length_nil,Nat.zero_add,List.set_cons_zero,List.set_cons_succ,List.getD_cons_zero,List.getD_cons_succ]
 repeat refine ai ?_
 generalize T++[Blk.arr 2 [.agg [.str sno,.sl sid 0 cl cl]]]=T3 at *;generalize T.length=tl at *;refine AaC (ι:=Nat×List Blk×List Nd) (fun y=>cl-y.1)
  (fun y=>[(103,.int .i64 y.1),(102,.int .i64 cl),(23,.ptr tl 1 0 0),(96,.int .i64 i),(95,.int .i64 m),(94,.sl o 0 m m),(15,.sl p 0 n n),(14,.int .i64 en),(13,.sl o 0 m m),(12,.fz 5 (rs.map ruA)),(11,.fz 5 (rs.map ruA)),(10,.fz 5 (fs.map faA)),(9,.fz 4 (js.map jmA)),(7,.fz 5 (fs.map faA)),(6,.fz 4 (js.map jmA)),(8,.pin 2 [.agg [.str x.title,.fz 5 (x.scenes.map scA)]] 0 0),(5,.pin 2 [.agg [.str x.title,.fz 5 (x.scenes.map scA)]] 0 0)])
  (fun y=>y.2.1) (fun y=>y.1<=cl/\SpS y.2.1 p n (some (o,m))/\y.2.1[sid]? = some (.arr 4 (y.2.2.map ndA))/\y.2.2.length=cl/\y.2.1[tl]? = some (.arr 2 [.agg [.str sno,.sl sid 0 cl cl]])) (0,T3,l0) ⟨by simp,g3,c4,c3,hro⟩ ?_ ?_
 .refine Shift.weakS ?_ rfl
  simp only[go_sem]
 clear g2 g3 c4 c5 c6 hro hroG q1 q3 k1 c2 c3;rintro⟨c,T,cs⟩ ⟨f1,f2,f3,f4,f5⟩ J2 hJ2;simp only at f1 f2 f3 f4 f5 hJ2 |-
 by_cases gc:c<cl
 .have dc:decide ((c:Int)<(cl:Int))=true:=by simp; omega
  have hgc:=ArW cs c (by omega);have hst:=AxZ cs c ⟨cs[c].el,777,cs[c].hand⟩;have k6:=AeU f3;have k7:=AeU f5;have hjt:sid≠tl:=AhP f3 f5 (by simp);have hw:=f2.need (b:=cs.set c ⟨cs[c].el,777,cs[c].hand⟩) f3 (by simp);have hfin2:=hJ2 (c+1,_,_) ⟨by simp only; omega,hw,by simp only; exact AhO (AeV f3) _,by simp only; rw[List.length_set]; exact f4,AcJ f5 hjt _⟩ (by simp only; omega);simp only at hst;clear hJ2;refine zgF ?_;simp only[go_sem,dc,hgc,k6,k7,f4,hst,List.length_map]
  repeat refine ai ?_
  rw[ic c];refine ainv hfin2 (Shift.weakS ?_ rfl);simp only[go_sem]
 .have dc:decide ((c:Int)<(cl:Int))=false:=by simp; omega
  have hfin3:=hfin T f2;clear hJ2;refine zgF ?_;simp only[go_sem,dc]
  repeat refine ai ?_
  rw[ic i];refine ainv hfin3 (Shift.weakS ?_ rfl);simp only[go_sem]
