/- Story days: the walk. -/
import Derived.Test.YtnfkjpihaficbaaGreatDoorK38
set_option maxRecDepth 100000
set_option maxHeartbeats 8000000
set_option linter.unusedSimpArgs false
set_option linter.unusedVariables false
namespace Go.Proofs.YtnfkjpihaficbaaGreatDoor
open Go Go.Av Go.RowKit _root_.Go.Proofs.Tryz
def blA(b:Bool):AV:=.bool b
theorem BfU:∀ l:List Bool,(flat (l.map blA)).all Av.frozen=true
 | []=>rfl
 | a::l=>by simp only[List.map_cons,flat,blA,cellsOf,List.cons_append,List.nil_append,List.all_cons,Av.frozen,BfU l,Bool.and_self]
def outL(n i:Nat)(s:DSt):List AV:=(s.os++List.replicate (n-i) (0,0,0)).map sdA
def flL(n i:Nat)(s:DSt):List AV:=(s.fs++List.replicate (n-i) false).map blA
def bumpM(M:List (AV×AV))(a:Int):List (AV×AV):=match mfind (.int .i64) (.int .i64 a) M 0 with
 | some (some (ix,.int .i64 v))=>M.set ix (.int .i64 a,.int .i64 (v+1))
 | _=>M++[(.int .i64 a,.int .i64 1)]
def valM(M:List (AV×AV))(a:Int):Int:=match mfind (.int .i64) (.int .i64 a) M 0 with
 | some (some (_,.int .i64 v))=>v
 | _=>0
def numGo:List Nat->List (Int×Int×Int)->List (AV×AV)->List (Int×Int×Int)
 | [],ds,_=>ds
 | k::r,ds,M=>numGo r (ds.set k ((ds.getD k (0,0,0)).1,(ds.getD k (0,0,0)).2.1,valM (bumpM M (ds.getD k (0,0,0)).1) (ds.getD k (0,0,0)).1)) (bumpM M (ds.getD k (0,0,0)).1)
theorem AhL:∀ (q:List Nat)(ds:List (Int×Int×Int))(M:List (AV×AV)),(∀ k∈q,k<ds.length)->(numGo q ds M).map (fun d=>(d.1,d.2.1))=ds.map (fun d=>(d.1,d.2.1))
 | [],ds,M,_=>rfl
 | k::r,ds,M,h=>by
  have hk:=h k (by simp);rw[numGo,AhL r _ _ (fun j hj=>by rw[List.length_set]; exact h j (by simp[hj])),List.map_set];have hl:k<(ds.map fun d=>(d.1,d.2.1)).length:=by rw[List.length_map]; exact hk
  have:(ds.map fun d=>(d.1,d.2.1))[k]=((ds.getD k (0,0,0)).1,(ds.getD k (0,0,0)).2.1):=by simp[List.getD,hk]
  rw[<- this,List.set_getElem_self]
def AkK(x:Sr)(l:List Jm):List (Int×Int×Int):=numGo (orderD (dRun x l (timesTo x.scenes x.scenes.length) x.scenes.length).os) (dRun x l (timesTo x.scenes x.scenes.length) x.scenes.length).os []
def MI(b:Nat)(M:List (AV×AV)):Prop:=∀ e∈M,∃ k v:Int,e=(.int .i64 k,.int .i64 v)/\0<=v/\v<=b
theorem BmE{b:Nat}{M:List (AV×AV)}{k v:Int}(h:MI b M)(hv:0<=v/\v<=(b:Int)+1):MI (b+1) (M++[(.int .i64 k,.int .i64 v)]):=by
 intro e he
 rcases List.mem_append.1 he with h1|h1
 .obtain ⟨k',v',h2,h3,h4⟩:=h e h1
  exact⟨k',v',h2,h3,by omega⟩
 .rw [List.mem_singleton]at h1
  exact⟨k,v,h1,hv.1,by omega⟩
theorem BmF{b:Nat}{M:List (AV×AV)}{i:Nat}{k v:Int}(h:MI b M)(hv:0<=v/\v<=(b:Int)+1):MI (b+1) (M.set i (.int .i64 k,.int .i64 v)):=by
 intro e he
 rcases List.mem_or_eq_of_mem_set he with h1|h1
 .obtain ⟨k',v',h2,h3,h4⟩:=h e h1
  exact⟨k',v',h2,h3,by omega⟩
 .exact ⟨k,v,h1,hv.1,by omega⟩
theorem A0X(n:Int):∀ (M:List (AV×AV))(k:Nat),(∀ e∈M,∃ a v:Int,e=(.int .i64 a,.int .i64 v))->mfind (.int .i64) (.int .i64 n) M k=some none\/∃ q v,mfind (.int .i64) (.int .i64 n) M k=some (some (k+q,.int .i64 v))/\M[q]? = some (.int .i64 n,.int .i64 v)
 | [],k,_=>.inl rfl
 | e::r,k,h=>by
  obtain⟨a,v,rfl⟩:=h e (by simp)
  by_cases hn:n=a
  .refine .inr ⟨0,v,?_,by simp[hn]⟩
   simp[mfind,keyEq,hn]
  .have h1:(n==a)=false:=by simpa using hn
   have e:mfind (.int .i64) (.int .i64 n) ((AV.int .i64 a,AV.int .i64 v)::r) k=mfind (.int .i64) (.int .i64 n) r (k+1):=by
    simp[mfind,keyEq,h1,hn]
   rw[e]
   rcases A0X n r (k+1) (fun e he=>h e (by simp[he]))with h2|⟨q,v',h2,h3⟩
   .exact .inl h2
   .exact .inr ⟨q+1,v',by rw[h2,show k+1+q=k+(q+1) by omega],by simpa using h3⟩
theorem AxR{b:Nat}{M:List (AV×AV)}(h:MI b M)(n:Int):mfind (.int .i64) (.int .i64 n) M 0=some none\/∃ q v:Int,∃ ix:Nat,mfind (.int .i64) (.int .i64 n) M 0=some (some (ix,.int .i64 v))/\0<=v/\v<=b/\q=0:=by
 rcases A0X n M 0 (fun e he=>by obtain⟨a,v,h1,_⟩:=h e he; exact⟨a,v,h1⟩)with h1|⟨q,v,h1,h2⟩
 .exact .inl h1
 .obtain ⟨a,v',h3,h4,h5⟩:=h _ (List.mem_of_getElem? h2)
  simp only[Prod.mk.injEq,AV.int.injEq,true_and]at h3;exact .inr ⟨0,v,_,h1,by omega,by omega,rfl⟩
theorem A0Y{S:Std}(hS:LibOk S)(x:Sr)(hx:StoryOk x)(l:List Jm)(hl:JumpsOk x l):PcH prog S 85 [srA x,.fz 4 (l.map jmA)] (· = .fz 3 ((AkK x l).map sdA)):=by
 have hlen:=hx.len;have hll:=hl.len;have htl:=AcO x.scenes x.scenes.length;have htb:=AgK hx x.scenes.length (Nat.le_refl _);have h1:=A3B hS x hx;have h2:=AgI x hx;have hok:=fun i hi=>ArS (x:=x) hl.jm htb i (by rw[htl]; exact hi)
 unfold AkK;generalize timesTo x.scenes x.scenes.length=ts at *;simp only[srA]at h1 h2 |-;refine zqIB func85 rfl fun h ρ w hg=>?_
 simp only[go_sem];refine zqB hg (h1) ?_;simp only[go_sem];refine za (h2) ?_;rintro _ _ ⟨rfl,rfl⟩;refine zgB ?_;simp only[go_sem,List.length_map];refine AaC (ι:=Nat) (fun y=>l.length-y)
  (fun y=>[(32,.int .i64 y),(31,.int .i64 l.length),(30,.fz 4 (l.map jmA)),(8,.mp 1),(7,.mp 0),(5,.fz 1 (ts.map (.int .i64))),(2,.pin 2 [.agg [.str x.title,.fz 5 (x.scenes.map scA)]] 0 0)])
  (fun y=>[.mp (scMF 0 x.scenes),.mp (jmM x (l.take y))]) (fun y=>y<=l.length) 0 (by simp) ?_ ?_
 .refine Shift.weakS ?_ rfl
  simp only[go_sem,List.length_map]
 rintro i g1 J hJ
 by_cases gi:i<l.length
 .have di:decide ((i:Int)<(l.length:Int))=true:=by simp; omega
  have hget:=ArH l i gi;obtain⟨q,hq,hqi,hqs⟩:=hl.at' _ (List.getElem_mem gi);have m0:=AnL hx hq hqs;have m1:=A0V x (q:Int) (l.take i) 0 (fun j hj e=>by
   obtain⟨k,hk,rfl⟩:=List.getElem_of_mem hj;rw[List.length_take]at hk;rw[List.getElem_take]at e;have:=List.pairwise_iff_getElem.1 hl.up k i (by omega) gi (by omega);omega)
  have m2:jmM x (l.take i)++[(.int .i64 (q:Int),jmA l[i])]=jmM x (l.take (i+1)):=by
   rw[List.take_add_one,List.getElem?_eq_getElem gi,jmM,jmM,List.map_append,<- hqi];rfl
  have hfin:=hJ (i+1) (by omega) (by omega);generalize l[i]=j at *;have hja:jmA j=.agg [.str j.scene,.int .i64 j.by',.int .i64 j.to',.bool j.flash]:=rfl;rw[hja]at hget m2;refine zgB ?_;simp only[go_sem,di,hget,m0,m1,m2,List.length_map]
  repeat refine ak ?_
  rw[ic i];refine ainv hfin (Shift.low 2 (by simp) (by simp) ?_ ?_)
  .simp only [List.take_succ_cons,List.take_zero,List.all_cons,List.all_nil,↓low_scM,↓A9E,Bool.and_self]
  .simp only [go_sem]
 have di:decide ((i:Int)<(l.length:Int))=false:=by simp; omega
 rw[show l.take i=l from List.take_of_length_le (by omega)];clear hJ;refine zgB ?_;simp only[go_sem,di,List.length_map]
 repeat refine aj ?_
 refine AaC (ι:=Nat) (fun y=>x.scenes.length-y)
  (fun y=>[(54,.int .i64 y),(53,.int .i64 x.scenes.length),(13,.int .i64 (dRun x l ts y).st),(12,.sl 3 0 x.scenes.length x.scenes.length),(11,.sl 2 0 x.scenes.length x.scenes.length),(8,.mp 1),(5,.fz 1 (ts.map (.int .i64)))])
  (fun y=>[.mp (scMF 0 x.scenes),.mp (jmM x l),.arr 3 (outL x.scenes.length y (dRun x l ts y)),.arr 1 (flL x.scenes.length y (dRun x l ts y))]) (fun y=>y<=x.scenes.length) 0 (by simp) ?_ ?_
 .refine Shift.weakS ?_ ?_
  .simp only [go_sem,List.length_map,dRun]
  .simp [outL,flL,dRun,sdA,blA]
 clear g1 di gi i J;intro i g1 J hJ
 by_cases gi:i<x.scenes.length
 .have di:decide ((i:Int)<(x.scenes.length:Int))=true:=by simp; omega
  have ok:=hok i (by omega);have hfin:=hJ (i+1) (by omega) (by omega);rw[dRun]at hfin;generalize dRun x l ts i=s at *;generalize hn:x.scenes.length=n at *;obtain⟨j,hj⟩:∃ j,(jmAt x l i).getD j0=j:=⟨_,rfl⟩;obtain⟨fl,hfl⟩:∃ fl,dFl (jmAt x l i) i s.fs=fl:=⟨_,rfl⟩;have hjb:=BfT (x:=x) hl.jm i;rw[hj]at hjb;have hjb:=A0W hjb;have til:i<ts.length:=by rw[htl]; omega
  have hti:List.getD (ts.map (AV.int .i64)) i .any=.int .i64 (ts.getD i 0):=by simp[List.getD,til]
  have hset:(flL n i s).set i (.bool fl)=flL n (i+1) (dStep x l ts i s):=by
   unfold flL;obtain⟨m,hm⟩:∃ m,n-i=m+1:=⟨n-i-1,by omega⟩;rw[hm,show n-(i+1)=m by omega,List.replicate_succ,List.map_append,List.map_cons,List.set_append_right _ _ (by rw[List.length_map,ok.fs]; omega),List.length_map,ok.fs,Nat.sub_self,List.set_cons_zero]
   simp[blA,dStep,hfl]
  have hgi:∃ b:Bool,(flL n i s).getD i .any=.bool b:=⟨false,by
   unfold flL;obtain⟨m,hm⟩:∃ m,n-i=m+1:=⟨n-i-1,by omega⟩;rw[hm,List.replicate_succ]
   simp[List.getD,blA,ok.fs,List.getElem?_append_right]⟩
  have hgp:0<i->(flL n i s).getD ((i:Int)-1).toNat .any=.bool (s.fs.getD (i-1) false):=fun h0=>by
   have h1:i-1<s.fs.length:=by rw[ok.fs]; omega
   rw[show((i:Int)-1).toNat=i-1 by omega];unfold flL;rw[List.map_append];have h2:i-1<(s.fs.map blA).length:=by rw[List.length_map]; exact h1
   simp only[List.getD,List.getElem?_append_left h2,List.getElem?_map,List.getElem?_eq_getElem h1,Option.map_some,Option.getD_some,blA]
  have hgp2:0<i->((flL n i s).set i (.bool fl)).getD ((i:Int)-1).toNat .any=.bool (s.fs.getD (i-1) false):=fun h0=>by
   rw[<- hgp h0];simp only[List.getD];rw[List.getElem?_set_ne (by omega)]
  have hfll:(flL n i s).length=n:=by unfold flL; simp[ok.fs]; omega
  have hgi2:((flL n i s).set i (.bool fl)).getD i .any=.bool fl:=by
   simp only[List.getD];rw[List.getElem?_set_self (by rw[hfll]; exact gi)];rfl
  have hfll2:((flL n i s).set i (.bool fl)).length=n:=by rw[List.length_set,hfll]
  have hol:(outL n i s).length=n:=by unfold outL; simp[ok.os]; omega
  have hoi:(outL n i s).getD i .any=.agg [.int .i64 0,.int .i64 0,.int .i64 0]:=by
   unfold outL;obtain⟨m,hm⟩:∃ m,n-i=m+1:=⟨n-i-1,by omega⟩;rw[hm,List.replicate_succ]
   simp[List.getD,sdA,ok.os,List.getElem?_append_right]
  have hog:∀ k:Nat,k<i->∃ a b,(outL n i s).getD k .any=.agg [.int .i64 (s.os.getD k (0,0,0)).1,.int .i64 a,.int .i64 b]:=fun k hk=>by
   have h1:k<s.os.length:=by rw[ok.os]; exact hk
   refine⟨s.os[k].2.1,s.os[k].2.2,?_⟩;unfold outL;rw[List.map_append];have h2:k<(s.os.map sdA).length:=by rw[List.length_map]; exact h1
   simp only[List.getD,List.getElem?_append_left h2,List.getElem?_map,List.getElem?_eq_getElem h1,Option.map_some,Option.getD_some,sdA]
  have hoset:∀ d,d=dDay j ts i s.os (dP i s.fs fl s.st) s.st->(outL n i s).set i (.agg [.int .i64 d,.int .i64 (ts.getD i 0),.int .i64 0])=outL n (i+1) (dStep x l ts i s):=fun d hd=>by
   unfold outL;obtain⟨m,hm⟩:∃ m,n-i=m+1:=⟨n-i-1,by omega⟩;rw[hm,show n-(i+1)=m by omega,List.replicate_succ,List.map_append,List.map_cons,List.set_append_right _ _ (by rw[List.length_map,ok.os]; omega),List.length_map,ok.os,Nat.sub_self,List.set_cons_zero]
   simp[sdA,dStep,hfl,hj,hd]
  have hlowO:lowB 4 (.arr 3 (outL n (i+1) (dStep x l ts i s)))=true:=AaD (A0U _);have hlowF:lowB 4 (.arr 1 (flL n (i+1) (dStep x l ts i s)))=true:=AaD (BfU _);have hst:(dStep x l ts i s).st=if fl then s.st else i:=by simp[dStep,hfl]
  obtain⟨b0,hgi⟩:=hgi;have sb:=ok.st;have bdS:0<=s.st -> -2001*(i:Int)<=(s.os.getD s.st.toNat (0,0,0)).1/\(s.os.getD s.st.toNat (0,0,0)).1<=2001*(i:Int):=fun h=>ok.bd _ (osD (by rw[ok.os]; omega))
  have bdP:0<i -> -2001*(i:Int)<=(s.os.getD (i-1) (0,0,0)).1/\(s.os.getD (i-1) (0,0,0)).1<=2001*(i:Int):=fun h=>ok.bd _ (by
   have:=osD (os:=s.os) (p:=(i:Int)-1) (by rw[ok.os]; omega);rw[show((i:Int)-1).toNat=i-1 by omega]at this;exact this)
  have htS:0<=s.st->List.getD (ts.map (AV.int .i64)) s.st.toNat .any=.int .i64 (ts.getD s.st.toNat 0):=fun h=>by
   have:s.st.toNat<ts.length:=by omega
   simp[List.getD,this]
  have htP:0<i->List.getD (ts.map (AV.int .i64)) ((i:Int)-1).toNat .any=.int .i64 (ts.getD (i-1) 0):=fun h=>by
   have:i-1<ts.length:=by omega
   rw[show((i:Int)-1).toNat=i-1 by omega]
   simp[List.getD,this]
  have rk:∀ k,k<ts.length->Pc prog 138 [.int .i64 (ts.getD k 0)] (· = .int .i64 (AaU (ts.getD k 0))):=fun k hk=>AxN _ (by
   rw[show ts.getD k 0=ts[k] by simp[List.getD,hk]];exact htb _ (List.getElem_mem hk))
  have r1:=rk i til;rw[hst]at hfin;generalize hO2:outL n (i+1) (dStep x l ts i s)=O2 at *;generalize hF2:flL n (i+1) (dStep x l ts i s)=F2 at *;rw[hset]at hgi2 hgp2 hfll2;generalize flL n i s=F at *;generalize outL n i s=O at *;have FA:=And.intro di (And.intro hti (And.intro hgi (And.intro hgi2 (And.intro hset (And.intro hfll (And.intro hfll2 (And.intro hol (And.intro hoi htl))))))));have hl4:([.mp (scMF 0 x.scenes),.mp (jmM x l),.arr 3 O2,.arr 1 F2]:List Blk).all (lowB 4)=true:=by
   simp only[List.all_cons,List.all_nil,↓low_scM,↓A9E,↓hlowO,↓hlowF,Bool.and_self]
  rcases BfS x i l 0 with⟨h3,h4⟩|⟨j',q,h3,hjl,h4⟩
  .rw [h3]at hj hfl
   have hto:j.to'=0:=by rw[<- hj]; rfl
   have hby:j.by'=0:=by rw[<- hj]; rfl
   by_cases h0:0<i
   .have d0:decide ((i:Int)>0)=true:=by simp; omega
    have hfe:s.fs.getD (i-1) false=fl:=by simpa[dFl,h0]using hfl
    have hp1:=hgp h0;have hp2:=hgp2 h0;rw[hfe]at hp1 hp2;have hpp:dP i s.fs fl s.st=(i:Int)-1:=if_pos ⟨h0,hfe⟩;clear hfl
    cases fl with
    | true =>
     simp only[Bool.false_eq_true,if_true,if_false]at hfin;have dpv:decide ((i:Int)-1>=0)=true:=by simp; omega
     obtain⟨a1,a2,hgs⟩:=hog (i-1) (by omega);have hgs:O.getD ((i:Int)-1).toNat .any=.agg [.int .i64 (s.os.getD (i-1) (0,0,0)).1,.int .i64 a1,.int .i64 a2]:=by rw[show((i:Int)-1).toNat=i-1 by omega]; exact hgs
     have bs:=bdP h0;have hT:=htP h0;have r2:=rk (i-1) (by omega)
     cases dr:decide (AaU (ts.getD i 0)<AaU (ts.getD (i-1) 0))with
     | true =>
      have hos:=hoset _ (show(s.os.getD (i-1) (0,0,0)).1+1=_ by rw[hpp,dDay,if_neg (by simp[hto]),if_neg (by simp[hby]),if_pos (by omega),if_pos (by simpa[show((i:Int)-1).toNat=i-1 by omega]using dr)]; rw[show((i:Int)-1).toNat=i-1 by omega]);refine zgB ?_;simp only[go_sem,FA,List.length_map,h4,d0,hp1,hp2,dpv,hgs,hT,dr,hos]
      repeat refine ak ?_
      refine zr [] mixed ?_;simp only[go_sem,FA,List.length_map,h4,d0,hp1,hp2,dpv,hgs,hT,dr,hos]
      repeat refine ak ?_
      refine zgB ?_;simp only[go_sem,FA,List.length_map,h4,d0,hp1,hp2,dpv,hgs,hT,dr,hos]
      repeat refine ak ?_
      refine zr [.int .i64 (AaU (ts.getD i 0)),.int .i64 (AaU (ts.getD (i-1) 0))] mixed ?_;simp only[go_sem,FA,List.length_map,h4,d0,hp1,hp2,dpv,hgs,hT,dr,hos]
      repeat first|refine And.intro (by first|exact r1.at|exact r2.at) ?_|refine ak ?_
      refine zgB ?_;simp only[go_sem,FA,List.length_map,h4,d0,hp1,hp2,dpv,hgs,hT,dr,hos]
      repeat refine ak ?_
      rw[ic i];refine ainv hfin (Shift.low 4 (by simp) (by simp) ?_ ?_)
      .exact hl4
      .simp only [go_sem]
     | false =>
      have hos:=hoset _ (show(s.os.getD (i-1) (0,0,0)).1=_ by rw[hpp,dDay,if_neg (by simp[hto]),if_neg (by simp[hby]),if_pos (by omega),if_neg (by simpa[show((i:Int)-1).toNat=i-1 by omega]using dr)]; rw[show((i:Int)-1).toNat=i-1 by omega]);refine zgB ?_;simp only[go_sem,FA,List.length_map,h4,d0,hp1,hp2,dpv,hgs,hT,dr,hos]
      repeat refine ak ?_
      refine zr [] mixed ?_;simp only[go_sem,FA,List.length_map,h4,d0,hp1,hp2,dpv,hgs,hT,dr,hos]
      repeat refine ak ?_
      refine zgB ?_;simp only[go_sem,FA,List.length_map,h4,d0,hp1,hp2,dpv,hgs,hT,dr,hos]
      repeat refine ak ?_
      refine zr [.int .i64 (AaU (ts.getD i 0)),.int .i64 (AaU (ts.getD (i-1) 0))] mixed ?_;simp only[go_sem,FA,List.length_map,h4,d0,hp1,hp2,dpv,hgs,hT,dr,hos]
      repeat first|refine And.intro (by first|exact r1.at|exact r2.at) ?_|refine ak ?_
      refine zgB ?_;simp only[go_sem,FA,List.length_map,h4,d0,hp1,hp2,dpv,hgs,hT,dr,hos]
      repeat refine ak ?_
      rw[ic i];refine ainv hfin (Shift.low 4 (by simp) (by simp) ?_ ?_)
      .exact hl4
      .simp only [go_sem]
    | false =>
     simp only[Bool.false_eq_true,if_true,if_false]at hfin;have dpv:decide ((i:Int)-1>=0)=true:=by simp; omega
     obtain⟨a1,a2,hgs⟩:=hog (i-1) (by omega);have hgs:O.getD ((i:Int)-1).toNat .any=.agg [.int .i64 (s.os.getD (i-1) (0,0,0)).1,.int .i64 a1,.int .i64 a2]:=by rw[show((i:Int)-1).toNat=i-1 by omega]; exact hgs
     have bs:=bdP h0;have hT:=htP h0;have r2:=rk (i-1) (by omega)
     cases dr:decide (AaU (ts.getD i 0)<AaU (ts.getD (i-1) 0))with
     | true =>
      have hos:=hoset _ (show(s.os.getD (i-1) (0,0,0)).1+1=_ by rw[hpp,dDay,if_neg (by simp[hto]),if_neg (by simp[hby]),if_pos (by omega),if_pos (by simpa[show((i:Int)-1).toNat=i-1 by omega]using dr)]; rw[show((i:Int)-1).toNat=i-1 by omega]);refine zgB ?_;simp only[go_sem,FA,List.length_map,h4,d0,hp1,hp2,dpv,hgs,hT,dr,hos]
      repeat refine ak ?_
      refine zr [] mixed ?_;simp only[go_sem,FA,List.length_map,h4,d0,hp1,hp2,dpv,hgs,hT,dr,hos]
      repeat refine ak ?_
      refine zgB ?_;simp only[go_sem,FA,List.length_map,h4,d0,hp1,hp2,dpv,hgs,hT,dr,hos]
      repeat refine ak ?_
      refine zr [.int .i64 (AaU (ts.getD i 0)),.int .i64 (AaU (ts.getD (i-1) 0))] mixed ?_;simp only[go_sem,FA,List.length_map,h4,d0,hp1,hp2,dpv,hgs,hT,dr,hos]
      repeat first|refine And.intro (by first|exact r1.at|exact r2.at) ?_|refine ak ?_
      refine zgB ?_;simp only[go_sem,FA,List.length_map,h4,d0,hp1,hp2,dpv,hgs,hT,dr,hos]
      repeat refine ak ?_
      rw[ic i];refine ainv hfin (Shift.low 4 (by simp) (by simp) ?_ ?_)
      .exact hl4
      .simp only [go_sem]
     | false =>
      have hos:=hoset _ (show(s.os.getD (i-1) (0,0,0)).1=_ by rw[hpp,dDay,if_neg (by simp[hto]),if_neg (by simp[hby]),if_pos (by omega),if_neg (by simpa[show((i:Int)-1).toNat=i-1 by omega]using dr)]; rw[show((i:Int)-1).toNat=i-1 by omega]);refine zgB ?_;simp only[go_sem,FA,List.length_map,h4,d0,hp1,hp2,dpv,hgs,hT,dr,hos]
      repeat refine ak ?_
      refine zr [] mixed ?_;simp only[go_sem,FA,List.length_map,h4,d0,hp1,hp2,dpv,hgs,hT,dr,hos]
      repeat refine ak ?_
      refine zgB ?_;simp only[go_sem,FA,List.length_map,h4,d0,hp1,hp2,dpv,hgs,hT,dr,hos]
      repeat refine ak ?_
      refine zr [.int .i64 (AaU (ts.getD i 0)),.int .i64 (AaU (ts.getD (i-1) 0))] mixed ?_;simp only[go_sem,FA,List.length_map,h4,d0,hp1,hp2,dpv,hgs,hT,dr,hos]
      repeat first|refine And.intro (by first|exact r1.at|exact r2.at) ?_|refine ak ?_
      refine zgB ?_;simp only[go_sem,FA,List.length_map,h4,d0,hp1,hp2,dpv,hgs,hT,dr,hos]
      repeat refine ak ?_
      rw[ic i];refine ainv hfin (Shift.low 4 (by simp) (by simp) ?_ ?_)
      .exact hl4
      .simp only [go_sem]
   .have d0:decide ((i:Int)>0)=false:=by simp; omega
    have hff:fl=false:=by simpa[dFl,h0]using hfl.symm
    subst hff;have hpn:dP i s.fs false s.st=s.st:=if_neg (fun h=>h0 h.1);simp only[Bool.false_eq_true,if_false]at hfin;have hs1:¬ s.st>=0:=by omega
    have ds1:decide (s.st>=0)=false:=by simpa using hs1
    have hos:=hoset _ (show 1=_ by rw[hpn,dDay,if_neg (by simp[hto]),if_neg (by simp[hby]),if_neg hs1]);refine zgB ?_;simp only[go_sem,FA,List.length_map,h4,d0,ds1,hos]
    repeat refine ak ?_
    refine zr [] mixed ?_;simp only[go_sem,FA,List.length_map,h4,d0,ds1,hos]
    repeat refine ak ?_
    refine zgB ?_;simp only[go_sem,FA,List.length_map,h4,d0,ds1,hos]
    repeat refine ak ?_
    rw[ic i];refine ainv hfin (Shift.low 4 (by simp) (by simp) ?_ ?_)
    .exact hl4
    .simp only [go_sem]
  .rw [h3]at hj hfl
   have hj:j'=j:=hj;subst hj;have hfl:j'.flash=fl:=hfl;rw[show jmA j'=.agg [.str j'.scene,.int .i64 j'.by',.int .i64 j'.to',.bool j'.flash] from rfl,hfl]at h4
   cases fl with
   | true =>
    simp only[Bool.false_eq_true,if_true,if_false]at hfin
    by_cases h0:0<i
    .have d0:decide ((i:Int)>0)=true:=by simp; omega
     have hp1:=hgp h0;have hp2:=hgp2 h0
     cases hfe:s.fs.getD (i-1) false with
     | true =>
      rw[hfe]at hp1 hp2;have hpp:dP i s.fs true s.st=(i:Int)-1:=if_pos ⟨h0,hfe⟩
      by_cases hto:j'.to'≠0
      .have dto:(j'.to' != 0)=true:=by simpa using hto
       have hos:=hoset _ (show j'.to'=_ by rw[dDay,if_pos hto]);refine zgB ?_;simp only[go_sem,FA,List.length_map,h4,d0,hp1,hp2,dto,hos]
       repeat refine ak ?_
       refine zr [] mixed ?_;simp only[go_sem,FA,List.length_map,h4,d0,hp1,hp2,dto,hos]
       repeat refine ak ?_
       refine zgB ?_;simp only[go_sem,FA,List.length_map,h4,d0,hp1,hp2,dto,hos]
       repeat refine ak ?_
       rw[ic i];refine ainv hfin (Shift.low 4 (by simp) (by simp) ?_ ?_)
       .exact hl4
       .simp only [go_sem]
      have hto:j'.to'=0:=by simpa using hto
      have dto:(j'.to' != 0)=false:=by simpa using hto
      by_cases hby:j'.by'≠0
      .have dby:(j'.by' != 0)=true:=by simpa using hby
       by_cases hs0:0<=s.st
       .have ds0:decide (s.st>=0)=true:=by simpa using hs0
        obtain⟨a1,a2,hgs⟩:=hog s.st.toNat (by omega);have bs:=bdS hs0;have hos:=hoset _ (show(s.os.getD s.st.toNat (0,0,0)).1+j'.by'=_ by rw[dDay,if_neg (by simp[hto]),if_pos hby,if_pos hs0]);refine zgB ?_;simp only[go_sem,FA,List.length_map,h4,d0,hp1,hp2,dto,dby,ds0,hgs,hos]
        repeat refine ak ?_
        refine zr [] mixed ?_;simp only[go_sem,FA,List.length_map,h4,d0,hp1,hp2,dto,dby,ds0,hgs,hos]
        repeat refine ak ?_
        refine zgB ?_;simp only[go_sem,FA,List.length_map,h4,d0,hp1,hp2,dto,dby,ds0,hgs,hos]
        repeat refine ak ?_
        rw[ic i];refine ainv hfin (Shift.low 4 (by simp) (by simp) ?_ ?_)
        .exact hl4
        .simp only [go_sem]
       have ds0:decide (s.st>=0)=false:=by simpa using hs0
       have hos:=hoset _ (show 1+j'.by'=_ by rw[dDay,if_neg (by simp[hto]),if_pos hby,if_neg hs0]);refine zgB ?_;simp only[go_sem,FA,List.length_map,h4,d0,hp1,hp2,dto,dby,ds0,hos]
       repeat refine ak ?_
       refine zr [] mixed ?_;simp only[go_sem,FA,List.length_map,h4,d0,hp1,hp2,dto,dby,ds0,hos]
       repeat refine ak ?_
       refine zgB ?_;simp only[go_sem,FA,List.length_map,h4,d0,hp1,hp2,dto,dby,ds0,hos]
       repeat refine ak ?_
       rw[ic i];refine ainv hfin (Shift.low 4 (by simp) (by simp) ?_ ?_)
       .exact hl4
       .simp only [go_sem]
      have hby:j'.by'=0:=by simpa using hby
      have dby:(j'.by' != 0)=false:=by simpa using hby
      have dpv:decide ((i:Int)-1>=0)=true:=by simp; omega
      obtain⟨a1,a2,hgs⟩:=hog (i-1) (by omega);have hgs:O.getD ((i:Int)-1).toNat .any=.agg [.int .i64 (s.os.getD (i-1) (0,0,0)).1,.int .i64 a1,.int .i64 a2]:=by rw[show((i:Int)-1).toNat=i-1 by omega]; exact hgs
      have bs:=bdP h0;have hT:=htP h0;have r2:=rk (i-1) (by omega)
      cases dr:decide (AaU (ts.getD i 0)<AaU (ts.getD (i-1) 0))with
      | true =>
       have hos:=hoset _ (show(s.os.getD (i-1) (0,0,0)).1+1=_ by rw[hpp,dDay,if_neg (by simp[hto]),if_neg (by simp[hby]),if_pos (by omega),if_pos (by simpa[show((i:Int)-1).toNat=i-1 by omega]using dr)]; rw[show((i:Int)-1).toNat=i-1 by omega]);refine zgB ?_;simp only[go_sem,FA,List.length_map,h4,d0,hp1,hp2,dto,dby,dpv,hgs,hT,dr,hos]
       repeat refine ak ?_
       refine zr [] mixed ?_;simp only[go_sem,FA,List.length_map,h4,d0,hp1,hp2,dto,dby,dpv,hgs,hT,dr,hos]
       repeat refine ak ?_
       refine zgB ?_;simp only[go_sem,FA,List.length_map,h4,d0,hp1,hp2,dto,dby,dpv,hgs,hT,dr,hos]
       repeat refine ak ?_
       refine zr [.int .i64 (AaU (ts.getD i 0)),.int .i64 (AaU (ts.getD (i-1) 0))] mixed ?_;simp only[go_sem,FA,List.length_map,h4,d0,hp1,hp2,dto,dby,dpv,hgs,hT,dr,hos]
       repeat first|refine And.intro (by first|exact r1.at|exact r2.at) ?_|refine ak ?_
       refine zgB ?_;simp only[go_sem,FA,List.length_map,h4,d0,hp1,hp2,dto,dby,dpv,hgs,hT,dr,hos]
       repeat refine ak ?_
       rw[ic i];refine ainv hfin (Shift.low 4 (by simp) (by simp) ?_ ?_)
       .exact hl4
       .simp only [go_sem]
      | false =>
       have hos:=hoset _ (show(s.os.getD (i-1) (0,0,0)).1=_ by rw[hpp,dDay,if_neg (by simp[hto]),if_neg (by simp[hby]),if_pos (by omega),if_neg (by simpa[show((i:Int)-1).toNat=i-1 by omega]using dr)]; rw[show((i:Int)-1).toNat=i-1 by omega]);refine zgB ?_;simp only[go_sem,FA,List.length_map,h4,d0,hp1,hp2,dto,dby,dpv,hgs,hT,dr,hos]
       repeat refine ak ?_
       refine zr [] mixed ?_;simp only[go_sem,FA,List.length_map,h4,d0,hp1,hp2,dto,dby,dpv,hgs,hT,dr,hos]
       repeat refine ak ?_
       refine zgB ?_;simp only[go_sem,FA,List.length_map,h4,d0,hp1,hp2,dto,dby,dpv,hgs,hT,dr,hos]
       repeat refine ak ?_
       refine zr [.int .i64 (AaU (ts.getD i 0)),.int .i64 (AaU (ts.getD (i-1) 0))] mixed ?_;simp only[go_sem,FA,List.length_map,h4,d0,hp1,hp2,dto,dby,dpv,hgs,hT,dr,hos]
       repeat first|refine And.intro (by first|exact r1.at|exact r2.at) ?_|refine ak ?_
       refine zgB ?_;simp only[go_sem,FA,List.length_map,h4,d0,hp1,hp2,dto,dby,dpv,hgs,hT,dr,hos]
       repeat refine ak ?_
       rw[ic i];refine ainv hfin (Shift.low 4 (by simp) (by simp) ?_ ?_)
       .exact hl4
       .simp only [go_sem]
     | false =>
      rw[hfe]at hp1 hp2;have hps:dP i s.fs true s.st=s.st:=if_neg (fun h=>by rw[hfe]at h; cases h.2)
      by_cases hto:j'.to'≠0
      .have dto:(j'.to' != 0)=true:=by simpa using hto
       have hos:=hoset _ (show j'.to'=_ by rw[dDay,if_pos hto]);refine zgB ?_;simp only[go_sem,FA,List.length_map,h4,d0,hp1,hp2,dto,hos]
       repeat refine ak ?_
       refine zr [] mixed ?_;simp only[go_sem,FA,List.length_map,h4,d0,hp1,hp2,dto,hos]
       repeat refine ak ?_
       refine zgB ?_;simp only[go_sem,FA,List.length_map,h4,d0,hp1,hp2,dto,hos]
       repeat refine ak ?_
       rw[ic i];refine ainv hfin (Shift.low 4 (by simp) (by simp) ?_ ?_)
       .exact hl4
       .simp only [go_sem]
      have hto:j'.to'=0:=by simpa using hto
      have dto:(j'.to' != 0)=false:=by simpa using hto
      by_cases hby:j'.by'≠0
      .have dby:(j'.by' != 0)=true:=by simpa using hby
       by_cases hs0:0<=s.st
       .have ds0:decide (s.st>=0)=true:=by simpa using hs0
        obtain⟨a1,a2,hgs⟩:=hog s.st.toNat (by omega);have bs:=bdS hs0;have hos:=hoset _ (show(s.os.getD s.st.toNat (0,0,0)).1+j'.by'=_ by rw[dDay,if_neg (by simp[hto]),if_pos hby,if_pos hs0]);refine zgB ?_;simp only[go_sem,FA,List.length_map,h4,d0,hp1,hp2,dto,dby,ds0,hgs,hos]
        repeat refine ak ?_
        refine zr [] mixed ?_;simp only[go_sem,FA,List.length_map,h4,d0,hp1,hp2,dto,dby,ds0,hgs,hos]
        repeat refine ak ?_
        refine zgB ?_;simp only[go_sem,FA,List.length_map,h4,d0,hp1,hp2,dto,dby,ds0,hgs,hos]
        repeat refine ak ?_
        rw[ic i];refine ainv hfin (Shift.low 4 (by simp) (by simp) ?_ ?_)
        .exact hl4
        .simp only [go_sem]
       have ds0:decide (s.st>=0)=false:=by simpa using hs0
       have hos:=hoset _ (show 1+j'.by'=_ by rw[dDay,if_neg (by simp[hto]),if_pos hby,if_neg hs0]);refine zgB ?_;simp only[go_sem,FA,List.length_map,h4,d0,hp1,hp2,dto,dby,ds0,hos]
       repeat refine ak ?_
       refine zr [] mixed ?_;simp only[go_sem,FA,List.length_map,h4,d0,hp1,hp2,dto,dby,ds0,hos]
       repeat refine ak ?_
       refine zgB ?_;simp only[go_sem,FA,List.length_map,h4,d0,hp1,hp2,dto,dby,ds0,hos]
       repeat refine ak ?_
       rw[ic i];refine ainv hfin (Shift.low 4 (by simp) (by simp) ?_ ?_)
       .exact hl4
       .simp only [go_sem]
      have hby:j'.by'=0:=by simpa using hby
      have dby:(j'.by' != 0)=false:=by simpa using hby
      by_cases hs1:s.st>=0
      .have ds1:decide (s.st>=0)=true:=by simpa using hs1
       obtain⟨a1,a2,hgs⟩:=hog s.st.toNat (by omega);have bs:=bdS hs1;have hT:=htS hs1;have r2:=rk s.st.toNat (by omega)
       cases dr:decide (AaU (ts.getD i 0)<AaU (ts.getD s.st.toNat 0))with
       | true =>
        have hos:=hoset _ (show(s.os.getD s.st.toNat (0,0,0)).1+1=_ by rw[hps,dDay,if_neg (by simp[hto]),if_neg (by simp[hby]),if_pos (by omega),if_pos (by simpa[dr]using dr)]);refine zgB ?_;simp only[go_sem,FA,List.length_map,h4,d0,hp1,hp2,dto,dby,ds1,hgs,hT,dr,hos]
        repeat refine ak ?_
        refine zr [] mixed ?_;simp only[go_sem,FA,List.length_map,h4,d0,hp1,hp2,dto,dby,ds1,hgs,hT,dr,hos]
        repeat refine ak ?_
        refine zgB ?_;simp only[go_sem,FA,List.length_map,h4,d0,hp1,hp2,dto,dby,ds1,hgs,hT,dr,hos]
        repeat refine ak ?_
        refine zr [.int .i64 (AaU (ts.getD i 0)),.int .i64 (AaU (ts.getD s.st.toNat 0))] mixed ?_;simp only[go_sem,FA,List.length_map,h4,d0,hp1,hp2,dto,dby,ds1,hgs,hT,dr,hos]
        repeat first|refine And.intro (by first|exact r1.at|exact r2.at) ?_|refine ak ?_
        refine zgB ?_;simp only[go_sem,FA,List.length_map,h4,d0,hp1,hp2,dto,dby,ds1,hgs,hT,dr,hos]
        repeat refine ak ?_
        rw[ic i];refine ainv hfin (Shift.low 4 (by simp) (by simp) ?_ ?_)
        .exact hl4
        .simp only [go_sem]
       | false =>
        have hos:=hoset _ (show(s.os.getD s.st.toNat (0,0,0)).1=_ by rw[hps,dDay,if_neg (by simp[hto]),if_neg (by simp[hby]),if_pos (by omega),if_neg (by simpa[dr]using dr)]);refine zgB ?_;simp only[go_sem,FA,List.length_map,h4,d0,hp1,hp2,dto,dby,ds1,hgs,hT,dr,hos]
        repeat refine ak ?_
        refine zr [] mixed ?_;simp only[go_sem,FA,List.length_map,h4,d0,hp1,hp2,dto,dby,ds1,hgs,hT,dr,hos]
        repeat refine ak ?_
        refine zgB ?_;simp only[go_sem,FA,List.length_map,h4,d0,hp1,hp2,dto,dby,ds1,hgs,hT,dr,hos]
        repeat refine ak ?_
        refine zr [.int .i64 (AaU (ts.getD i 0)),.int .i64 (AaU (ts.getD s.st.toNat 0))] mixed ?_;simp only[go_sem,FA,List.length_map,h4,d0,hp1,hp2,dto,dby,ds1,hgs,hT,dr,hos]
        repeat first|refine And.intro (by first|exact r1.at|exact r2.at) ?_|refine ak ?_
        refine zgB ?_;simp only[go_sem,FA,List.length_map,h4,d0,hp1,hp2,dto,dby,ds1,hgs,hT,dr,hos]
        repeat refine ak ?_
        rw[ic i];refine ainv hfin (Shift.low 4 (by simp) (by simp) ?_ ?_)
        .exact hl4
        .simp only [go_sem]
      have ds1:decide (s.st>=0)=false:=by simpa using hs1
      have hos:=hoset _ (show 1=_ by rw[hps,dDay,if_neg (by simp[hto]),if_neg (by simp[hby]),if_neg hs1]);refine zgB ?_;simp only[go_sem,FA,List.length_map,h4,d0,hp1,hp2,dto,dby,ds1,hos]
      repeat refine ak ?_
      refine zr [] mixed ?_;simp only[go_sem,FA,List.length_map,h4,d0,hp1,hp2,dto,dby,ds1,hos]
      repeat refine ak ?_
      refine zgB ?_;simp only[go_sem,FA,List.length_map,h4,d0,hp1,hp2,dto,dby,ds1,hos]
      repeat refine ak ?_
      rw[ic i];refine ainv hfin (Shift.low 4 (by simp) (by simp) ?_ ?_)
      .exact hl4
      .simp only [go_sem]
    .have d0:decide ((i:Int)>0)=false:=by simp; omega
     have hpn:dP i s.fs true s.st=s.st:=if_neg (fun h=>h0 h.1)
     by_cases hto:j'.to'≠0
     .have dto:(j'.to' != 0)=true:=by simpa using hto
      have hos:=hoset _ (show j'.to'=_ by rw[dDay,if_pos hto]);refine zgB ?_;simp only[go_sem,FA,List.length_map,h4,d0,dto,hos]
      repeat refine ak ?_
      refine zr [] mixed ?_;simp only[go_sem,FA,List.length_map,h4,d0,dto,hos]
      repeat refine ak ?_
      refine zgB ?_;simp only[go_sem,FA,List.length_map,h4,d0,dto,hos]
      repeat refine ak ?_
      rw[ic i];refine ainv hfin (Shift.low 4 (by simp) (by simp) ?_ ?_)
      .exact hl4
      .simp only [go_sem]
     have hto:j'.to'=0:=by simpa using hto
     have dto:(j'.to' != 0)=false:=by simpa using hto
     by_cases hby:j'.by'≠0
     .have dby:(j'.by' != 0)=true:=by simpa using hby
      have hs0:¬ 0<=s.st:=by omega
      have ds0:decide (s.st>=0)=false:=by simpa using hs0
      have hos:=hoset _ (show 1+j'.by'=_ by rw[dDay,if_neg (by simp[hto]),if_pos hby,if_neg hs0]);refine zgB ?_;simp only[go_sem,FA,List.length_map,h4,d0,dto,dby,ds0,hos]
      repeat refine ak ?_
      refine zr [] mixed ?_;simp only[go_sem,FA,List.length_map,h4,d0,dto,dby,ds0,hos]
      repeat refine ak ?_
      refine zgB ?_;simp only[go_sem,FA,List.length_map,h4,d0,dto,dby,ds0,hos]
      repeat refine ak ?_
      rw[ic i];refine ainv hfin (Shift.low 4 (by simp) (by simp) ?_ ?_)
      .exact hl4
      .simp only [go_sem]
     have hby:j'.by'=0:=by simpa using hby
     have dby:(j'.by' != 0)=false:=by simpa using hby
     have hs1:¬ s.st>=0:=by omega
     have ds1:decide (s.st>=0)=false:=by simpa using hs1
     have hos:=hoset _ (show 1=_ by rw[hpn,dDay,if_neg (by simp[hto]),if_neg (by simp[hby]),if_neg hs1]);refine zgB ?_;simp only[go_sem,FA,List.length_map,h4,d0,dto,dby,ds1,hos]
     repeat refine ak ?_
     refine zr [] mixed ?_;simp only[go_sem,FA,List.length_map,h4,d0,dto,dby,ds1,hos]
     repeat refine ak ?_
     refine zgB ?_;simp only[go_sem,FA,List.length_map,h4,d0,dto,dby,ds1,hos]
     repeat refine ak ?_
     rw[ic i];refine ainv hfin (Shift.low 4 (by simp) (by simp) ?_ ?_)
     .exact hl4
     .simp only [go_sem]
   | false =>
    simp only[Bool.false_eq_true,if_true,if_false]at hfin
    by_cases h0:0<i
    .have d0:decide ((i:Int)>0)=true:=by simp; omega
     have hp1:=hgp h0;have hp2:=hgp2 h0
     cases hfe:s.fs.getD (i-1) false with
     | true =>
      rw[hfe]at hp1 hp2;have hps:dP i s.fs false s.st=s.st:=if_neg (fun h=>by rw[hfe]at h; cases h.2)
      by_cases hto:j'.to'≠0
      .have dto:(j'.to' != 0)=true:=by simpa using hto
       have hos:=hoset _ (show j'.to'=_ by rw[dDay,if_pos hto]);refine zgB ?_;simp only[go_sem,FA,List.length_map,h4,d0,hp1,hp2,dto,hos]
       repeat refine ak ?_
       refine zr [] mixed ?_;simp only[go_sem,FA,List.length_map,h4,d0,hp1,hp2,dto,hos]
       repeat refine ak ?_
       refine zgB ?_;simp only[go_sem,FA,List.length_map,h4,d0,hp1,hp2,dto,hos]
       repeat refine ak ?_
       rw[ic i];refine ainv hfin (Shift.low 4 (by simp) (by simp) ?_ ?_)
       .exact hl4
       .simp only [go_sem]
      have hto:j'.to'=0:=by simpa using hto
      have dto:(j'.to' != 0)=false:=by simpa using hto
      by_cases hby:j'.by'≠0
      .have dby:(j'.by' != 0)=true:=by simpa using hby
       by_cases hs0:0<=s.st
       .have ds0:decide (s.st>=0)=true:=by simpa using hs0
        obtain⟨a1,a2,hgs⟩:=hog s.st.toNat (by omega);have bs:=bdS hs0;have hos:=hoset _ (show(s.os.getD s.st.toNat (0,0,0)).1+j'.by'=_ by rw[dDay,if_neg (by simp[hto]),if_pos hby,if_pos hs0]);refine zgB ?_;simp only[go_sem,FA,List.length_map,h4,d0,hp1,hp2,dto,dby,ds0,hgs,hos]
        repeat refine ak ?_
        refine zr [] mixed ?_;simp only[go_sem,FA,List.length_map,h4,d0,hp1,hp2,dto,dby,ds0,hgs,hos]
        repeat refine ak ?_
        refine zgB ?_;simp only[go_sem,FA,List.length_map,h4,d0,hp1,hp2,dto,dby,ds0,hgs,hos]
        repeat refine ak ?_
        rw[ic i];refine ainv hfin (Shift.low 4 (by simp) (by simp) ?_ ?_)
        .exact hl4
        .simp only [go_sem]
       have ds0:decide (s.st>=0)=false:=by simpa using hs0
       have hos:=hoset _ (show 1+j'.by'=_ by rw[dDay,if_neg (by simp[hto]),if_pos hby,if_neg hs0]);refine zgB ?_;simp only[go_sem,FA,List.length_map,h4,d0,hp1,hp2,dto,dby,ds0,hos]
       repeat refine ak ?_
       refine zr [] mixed ?_;simp only[go_sem,FA,List.length_map,h4,d0,hp1,hp2,dto,dby,ds0,hos]
       repeat refine ak ?_
       refine zgB ?_;simp only[go_sem,FA,List.length_map,h4,d0,hp1,hp2,dto,dby,ds0,hos]
       repeat refine ak ?_
       rw[ic i];refine ainv hfin (Shift.low 4 (by simp) (by simp) ?_ ?_)
       .exact hl4
       .simp only [go_sem]
      have hby:j'.by'=0:=by simpa using hby
      have dby:(j'.by' != 0)=false:=by simpa using hby
      by_cases hs1:s.st>=0
      .have ds1:decide (s.st>=0)=true:=by simpa using hs1
       obtain⟨a1,a2,hgs⟩:=hog s.st.toNat (by omega);have bs:=bdS hs1;have hT:=htS hs1;have r2:=rk s.st.toNat (by omega)
       cases dr:decide (AaU (ts.getD i 0)<AaU (ts.getD s.st.toNat 0))with
       | true =>
        have hos:=hoset _ (show(s.os.getD s.st.toNat (0,0,0)).1+1=_ by rw[hps,dDay,if_neg (by simp[hto]),if_neg (by simp[hby]),if_pos (by omega),if_pos (by simpa[dr]using dr)]);refine zgB ?_;simp only[go_sem,FA,List.length_map,h4,d0,hp1,hp2,dto,dby,ds1,hgs,hT,dr,hos]
        repeat refine ak ?_
        refine zr [] mixed ?_;simp only[go_sem,FA,List.length_map,h4,d0,hp1,hp2,dto,dby,ds1,hgs,hT,dr,hos]
        repeat refine ak ?_
        refine zgB ?_;simp only[go_sem,FA,List.length_map,h4,d0,hp1,hp2,dto,dby,ds1,hgs,hT,dr,hos]
        repeat refine ak ?_
        refine zr [.int .i64 (AaU (ts.getD i 0)),.int .i64 (AaU (ts.getD s.st.toNat 0))] mixed ?_;simp only[go_sem,FA,List.length_map,h4,d0,hp1,hp2,dto,dby,ds1,hgs,hT,dr,hos]
        repeat first|refine And.intro (by first|exact r1.at|exact r2.at) ?_|refine ak ?_
        refine zgB ?_;simp only[go_sem,FA,List.length_map,h4,d0,hp1,hp2,dto,dby,ds1,hgs,hT,dr,hos]
        repeat refine ak ?_
        rw[ic i];refine ainv hfin (Shift.low 4 (by simp) (by simp) ?_ ?_)
        .exact hl4
        .simp only [go_sem]
       | false =>
        have hos:=hoset _ (show(s.os.getD s.st.toNat (0,0,0)).1=_ by rw[hps,dDay,if_neg (by simp[hto]),if_neg (by simp[hby]),if_pos (by omega),if_neg (by simpa[dr]using dr)]);refine zgB ?_;simp only[go_sem,FA,List.length_map,h4,d0,hp1,hp2,dto,dby,ds1,hgs,hT,dr,hos]
        repeat refine ak ?_
        refine zr [] mixed ?_;simp only[go_sem,FA,List.length_map,h4,d0,hp1,hp2,dto,dby,ds1,hgs,hT,dr,hos]
        repeat refine ak ?_
        refine zgB ?_;simp only[go_sem,FA,List.length_map,h4,d0,hp1,hp2,dto,dby,ds1,hgs,hT,dr,hos]
        repeat refine ak ?_
        refine zr [.int .i64 (AaU (ts.getD i 0)),.int .i64 (AaU (ts.getD s.st.toNat 0))] mixed ?_;simp only[go_sem,FA,List.length_map,h4,d0,hp1,hp2,dto,dby,ds1,hgs,hT,dr,hos]
        repeat first|refine And.intro (by first|exact r1.at|exact r2.at) ?_|refine ak ?_
        refine zgB ?_;simp only[go_sem,FA,List.length_map,h4,d0,hp1,hp2,dto,dby,ds1,hgs,hT,dr,hos]
        repeat refine ak ?_
        rw[ic i];refine ainv hfin (Shift.low 4 (by simp) (by simp) ?_ ?_)
        .exact hl4
        .simp only [go_sem]
      have ds1:decide (s.st>=0)=false:=by simpa using hs1
      have hos:=hoset _ (show 1=_ by rw[hps,dDay,if_neg (by simp[hto]),if_neg (by simp[hby]),if_neg hs1]);refine zgB ?_;simp only[go_sem,FA,List.length_map,h4,d0,hp1,hp2,dto,dby,ds1,hos]
      repeat refine ak ?_
      refine zr [] mixed ?_;simp only[go_sem,FA,List.length_map,h4,d0,hp1,hp2,dto,dby,ds1,hos]
      repeat refine ak ?_
      refine zgB ?_;simp only[go_sem,FA,List.length_map,h4,d0,hp1,hp2,dto,dby,ds1,hos]
      repeat refine ak ?_
      rw[ic i];refine ainv hfin (Shift.low 4 (by simp) (by simp) ?_ ?_)
      .exact hl4
      .simp only [go_sem]
     | false =>
      rw[hfe]at hp1 hp2;have hpp:dP i s.fs false s.st=(i:Int)-1:=if_pos ⟨h0,hfe⟩
      by_cases hto:j'.to'≠0
      .have dto:(j'.to' != 0)=true:=by simpa using hto
       have hos:=hoset _ (show j'.to'=_ by rw[dDay,if_pos hto]);refine zgB ?_;simp only[go_sem,FA,List.length_map,h4,d0,hp1,hp2,dto,hos]
       repeat refine ak ?_
       refine zr [] mixed ?_;simp only[go_sem,FA,List.length_map,h4,d0,hp1,hp2,dto,hos]
       repeat refine ak ?_
       refine zgB ?_;simp only[go_sem,FA,List.length_map,h4,d0,hp1,hp2,dto,hos]
       repeat refine ak ?_
       rw[ic i];refine ainv hfin (Shift.low 4 (by simp) (by simp) ?_ ?_)
       .exact hl4
       .simp only [go_sem]
      have hto:j'.to'=0:=by simpa using hto
      have dto:(j'.to' != 0)=false:=by simpa using hto
      by_cases hby:j'.by'≠0
      .have dby:(j'.by' != 0)=true:=by simpa using hby
       by_cases hs0:0<=s.st
       .have ds0:decide (s.st>=0)=true:=by simpa using hs0
        obtain⟨a1,a2,hgs⟩:=hog s.st.toNat (by omega);have bs:=bdS hs0;have hos:=hoset _ (show(s.os.getD s.st.toNat (0,0,0)).1+j'.by'=_ by rw[dDay,if_neg (by simp[hto]),if_pos hby,if_pos hs0]);refine zgB ?_;simp only[go_sem,FA,List.length_map,h4,d0,hp1,hp2,dto,dby,ds0,hgs,hos]
        repeat refine ak ?_
        refine zr [] mixed ?_;simp only[go_sem,FA,List.length_map,h4,d0,hp1,hp2,dto,dby,ds0,hgs,hos]
        repeat refine ak ?_
        refine zgB ?_;simp only[go_sem,FA,List.length_map,h4,d0,hp1,hp2,dto,dby,ds0,hgs,hos]
        repeat refine ak ?_
        rw[ic i];refine ainv hfin (Shift.low 4 (by simp) (by simp) ?_ ?_)
        .exact hl4
        .simp only [go_sem]
       have ds0:decide (s.st>=0)=false:=by simpa using hs0
       have hos:=hoset _ (show 1+j'.by'=_ by rw[dDay,if_neg (by simp[hto]),if_pos hby,if_neg hs0]);refine zgB ?_;simp only[go_sem,FA,List.length_map,h4,d0,hp1,hp2,dto,dby,ds0,hos]
       repeat refine ak ?_
       refine zr [] mixed ?_;simp only[go_sem,FA,List.length_map,h4,d0,hp1,hp2,dto,dby,ds0,hos]
       repeat refine ak ?_
       refine zgB ?_;simp only[go_sem,FA,List.length_map,h4,d0,hp1,hp2,dto,dby,ds0,hos]
       repeat refine ak ?_
       rw[ic i];refine ainv hfin (Shift.low 4 (by simp) (by simp) ?_ ?_)
       .exact hl4
       .simp only [go_sem]
      have hby:j'.by'=0:=by simpa using hby
      have dby:(j'.by' != 0)=false:=by simpa using hby
      have dpv:decide ((i:Int)-1>=0)=true:=by simp; omega
      obtain⟨a1,a2,hgs⟩:=hog (i-1) (by omega);have hgs:O.getD ((i:Int)-1).toNat .any=.agg [.int .i64 (s.os.getD (i-1) (0,0,0)).1,.int .i64 a1,.int .i64 a2]:=by rw[show((i:Int)-1).toNat=i-1 by omega]; exact hgs
      have bs:=bdP h0;have hT:=htP h0;have r2:=rk (i-1) (by omega)
      cases dr:decide (AaU (ts.getD i 0)<AaU (ts.getD (i-1) 0))with
      | true =>
       have hos:=hoset _ (show(s.os.getD (i-1) (0,0,0)).1+1=_ by rw[hpp,dDay,if_neg (by simp[hto]),if_neg (by simp[hby]),if_pos (by omega),if_pos (by simpa[show((i:Int)-1).toNat=i-1 by omega]using dr)]; rw[show((i:Int)-1).toNat=i-1 by omega]);refine zgB ?_;simp only[go_sem,FA,List.length_map,h4,d0,hp1,hp2,dto,dby,dpv,hgs,hT,dr,hos]
       repeat refine ak ?_
       refine zr [] mixed ?_;simp only[go_sem,FA,List.length_map,h4,d0,hp1,hp2,dto,dby,dpv,hgs,hT,dr,hos]
       repeat refine ak ?_
       refine zgB ?_;simp only[go_sem,FA,List.length_map,h4,d0,hp1,hp2,dto,dby,dpv,hgs,hT,dr,hos]
       repeat refine ak ?_
       refine zr [.int .i64 (AaU (ts.getD i 0)),.int .i64 (AaU (ts.getD (i-1) 0))] mixed ?_;simp only[go_sem,FA,List.length_map,h4,d0,hp1,hp2,dto,dby,dpv,hgs,hT,dr,hos]
       repeat first|refine And.intro (by first|exact r1.at|exact r2.at) ?_|refine ak ?_
       refine zgB ?_;simp only[go_sem,FA,List.length_map,h4,d0,hp1,hp2,dto,dby,dpv,hgs,hT,dr,hos]
       repeat refine ak ?_
       rw[ic i];refine ainv hfin (Shift.low 4 (by simp) (by simp) ?_ ?_)
       .exact hl4
       .simp only [go_sem]
      | false =>
       have hos:=hoset _ (show(s.os.getD (i-1) (0,0,0)).1=_ by rw[hpp,dDay,if_neg (by simp[hto]),if_neg (by simp[hby]),if_pos (by omega),if_neg (by simpa[show((i:Int)-1).toNat=i-1 by omega]using dr)]; rw[show((i:Int)-1).toNat=i-1 by omega]);refine zgB ?_;simp only[go_sem,FA,List.length_map,h4,d0,hp1,hp2,dto,dby,dpv,hgs,hT,dr,hos]
       repeat refine ak ?_
       refine zr [] mixed ?_;simp only[go_sem,FA,List.length_map,h4,d0,hp1,hp2,dto,dby,dpv,hgs,hT,dr,hos]
       repeat refine ak ?_
       refine zgB ?_;simp only[go_sem,FA,List.length_map,h4,d0,hp1,hp2,dto,dby,dpv,hgs,hT,dr,hos]
       repeat refine ak ?_
       refine zr [.int .i64 (AaU (ts.getD i 0)),.int .i64 (AaU (ts.getD (i-1) 0))] mixed ?_;simp only[go_sem,FA,List.length_map,h4,d0,hp1,hp2,dto,dby,dpv,hgs,hT,dr,hos]
       repeat first|refine And.intro (by first|exact r1.at|exact r2.at) ?_|refine ak ?_
       refine zgB ?_;simp only[go_sem,FA,List.length_map,h4,d0,hp1,hp2,dto,dby,dpv,hgs,hT,dr,hos]
       repeat refine ak ?_
       rw[ic i];refine ainv hfin (Shift.low 4 (by simp) (by simp) ?_ ?_)
       .exact hl4
       .simp only [go_sem]
    .have d0:decide ((i:Int)>0)=false:=by simp; omega
     have hpn:dP i s.fs false s.st=s.st:=if_neg (fun h=>h0 h.1)
     by_cases hto:j'.to'≠0
     .have dto:(j'.to' != 0)=true:=by simpa using hto
      have hos:=hoset _ (show j'.to'=_ by rw[dDay,if_pos hto]);refine zgB ?_;simp only[go_sem,FA,List.length_map,h4,d0,dto,hos]
      repeat refine ak ?_
      refine zr [] mixed ?_;simp only[go_sem,FA,List.length_map,h4,d0,dto,hos]
      repeat refine ak ?_
      refine zgB ?_;simp only[go_sem,FA,List.length_map,h4,d0,dto,hos]
      repeat refine ak ?_
      rw[ic i];refine ainv hfin (Shift.low 4 (by simp) (by simp) ?_ ?_)
      .exact hl4
      .simp only [go_sem]
     have hto:j'.to'=0:=by simpa using hto
     have dto:(j'.to' != 0)=false:=by simpa using hto
     by_cases hby:j'.by'≠0
     .have dby:(j'.by' != 0)=true:=by simpa using hby
      have hs0:¬ 0<=s.st:=by omega
      have ds0:decide (s.st>=0)=false:=by simpa using hs0
      have hos:=hoset _ (show 1+j'.by'=_ by rw[dDay,if_neg (by simp[hto]),if_pos hby,if_neg hs0]);refine zgB ?_;simp only[go_sem,FA,List.length_map,h4,d0,dto,dby,ds0,hos]
      repeat refine ak ?_
      refine zr [] mixed ?_;simp only[go_sem,FA,List.length_map,h4,d0,dto,dby,ds0,hos]
      repeat refine ak ?_
      refine zgB ?_;simp only[go_sem,FA,List.length_map,h4,d0,dto,dby,ds0,hos]
      repeat refine ak ?_
      rw[ic i];refine ainv hfin (Shift.low 4 (by simp) (by simp) ?_ ?_)
      .exact hl4
      .simp only [go_sem]
     have hby:j'.by'=0:=by simpa using hby
     have dby:(j'.by' != 0)=false:=by simpa using hby
     have hs1:¬ s.st>=0:=by omega
     have ds1:decide (s.st>=0)=false:=by simpa using hs1
     have hos:=hoset _ (show 1=_ by rw[hpn,dDay,if_neg (by simp[hto]),if_neg (by simp[hby]),if_neg hs1]);refine zgB ?_;simp only[go_sem,FA,List.length_map,h4,d0,dto,dby,ds1,hos]
     repeat refine ak ?_
     refine zr [] mixed ?_;simp only[go_sem,FA,List.length_map,h4,d0,dto,dby,ds1,hos]
     repeat refine ak ?_
     refine zgB ?_;simp only[go_sem,FA,List.length_map,h4,d0,dto,dby,ds1,hos]
     repeat refine ak ?_
     rw[ic i];refine ainv hfin (Shift.low 4 (by simp) (by simp) ?_ ?_)
     .exact hl4
     .simp only [go_sem]
 .have di:decide ((i:Int)<(x.scenes.length:Int))=false:=by simp; omega
  have hi:i=x.scenes.length:=by omega
  subst hi;have ok:=hok x.scenes.length (Nat.le_refl _);clear hJ;generalize dRun x l ts x.scenes.length=s at *;have hO:outL x.scenes.length x.scenes.length s=s.os.map sdA:=by simp[outL]
  rw[hO];have hro:=A9D s.os ok.tm (by rw[ok.os]; exact hlen);have hosl:=ok.os;have hren:renS [2,4] [.mp (scMF 0 x.scenes),.mp (jmM x l),.arr 3 (s.os.map sdA),.arr 1 (flL x.scenes.length x.scenes.length s),.mp []]=[.arr 3 (s.os.map sdA),.mp []]:=by
   have h:renS [2,4] [.mp (scMF 0 x.scenes),.mp (jmM x l),.arr 3 (s.os.map sdA),.arr 1 (flL x.scenes.length x.scenes.length s),.mp []]=[.arr 3 ((s.os.map sdA).map (renC [2,4])),.mp []]:=rfl;rw[h,List.map_map,show renC [2,4]∘sdA=sdA from by funext t; rfl]
  rw[hosl]at hro;generalize x.scenes.length=n at *;refine goB rfl 18 ?_;simp only[go_sem,di];refine AWp.shift (Shift.trans (Shift.ren [2,4] rfl) (Shift.weakS (e':=[(19,.mp 1),(11,.sl 0 0 n n)]) ?_ hren)) ?_
  .simp only [renE,List.map_cons,List.map_nil,wk,go_sem,renV,renC,ren1]
   repeat(first|rfl|refine And.intro rfl ?_)
  refine zgB ?_;simp only[go_sem];refine za (hro) ?_;rintro _ _ ⟨rfl,rfl⟩;unfold ordT;have hq:=AeT s.os;rw[hosl]at hq;have hnp:=AhL (orderD s.os) s.os [] (fun k hk=>by have:=hq.mem_iff.1 hk; rw[hosl]; simpa using this);generalize orderD s.os=q at *;rw[hosl];have hql:q.length=n:=by rw[hq.length_eq,List.length_range]
  have hqb:∀ k (hk:k<q.length),q[k]<n:=fun k hk=>by
   have:=hq.mem_iff.1 (List.getElem_mem hk)
   simpa using this
  refine zgB ?_;simp only[go_sem,List.length_map,hql]
  repeat refine aj ?_
  clear hro hren hO;have htm:=ok.tm;generalize s.os=os at *;refine AaC (ι:=Nat×List (Int×Int×Int)×List (AV×AV)) (fun y=>n-y.1)
   (fun y=>[(165,.int .i64 y.1),(164,.int .i64 n),(163,.sl 3 0 n n),(19,.mp 1),(11,.sl 0 0 n n)])
   (fun y=>[.arr 3 (y.2.1.map sdA),.mp y.2.2,.arr 1 [.sl 0 0 n n],.arr 1 (q.map inA)])
   (fun y=>y.1<=n/\(y.2.1.length=n/\numGo (q.drop y.1) y.2.1 y.2.2=numGo q os [])/\MI y.1 y.2.2) (0,os,[]) ⟨by simp,⟨hosl,rfl⟩,by simp[MI]⟩ ?_ ?_
  .refine Shift.weakS ?_ rfl
   simp only[go_sem]
  rintro⟨i,ds,M⟩ ⟨g1,g2,g3⟩ J hJ;simp only at g1 g2 g3 hJ |-;obtain⟨hdl,g2⟩:=g2
  by_cases gi:i<n
  .have di2:decide ((i:Int)<(n:Int))=true:=by simp; omega
   have hqi:=AdP q i (by omega);have hqn:=hqb i (by omega);rw[List.drop_eq_getElem_cons (by omega:i<q.length),numGo]at g2;generalize q[i]'(by omega)=k at *;rw[show ds.getD k (0,0,0)=ds[k]'(by omega) by simp[List.getD,show k<ds.length by omega]]at g2;have hdk:=AxO ds k (by omega);have hset:∀ v:Int,(ds.map sdA).set k (.agg [.int .i64 (ds[k]'(by omega)).1,.int .i64 (ds[k]'(by omega)).2.1,.int .i64 v])=(ds.set k ((ds[k]'(by omega)).1,(ds[k]'(by omega)).2.1,v)).map sdA:=fun v=>by
    rw[List.map_set];rfl
   generalize (ds[k]'(by omega))=d at *;obtain⟨a,b,c⟩:=d;simp only at hdk hset g2;have hfin:=fun ds' M' h1 h3 h2=>hJ (i+1,ds',M') ⟨by simp only; omega,⟨h1,h3⟩,h2⟩ (by simp only; omega)
   simp only at hfin
   rcases AxR g3 a with h1|⟨_,v,ix,h1,hv1,hv2,_⟩
   .have hM:=BmE (k:=a) (v:=1) g3 (by omega)
    obtain⟨M',hM'⟩:∃ M',M++[(AV.int .i64 a,AV.int .i64 1)]=M':=⟨_,rfl⟩;rw[hM']at hM;have hb0:bumpM M a=M':=by simp only[bumpM,h1,<- hM']
    rw[hb0]at g2
    rcases AxR hM a with h2|⟨_,v2,ix2,h2,hv3,hv4,_⟩
    .
     have hv0:valM M' a=0:=by simp only[valM,h2]
     rw[hv0]at g2;have hfin:=hfin (ds.set k (a,b,0)) M' (by simp[hdl]) g2 hM;have hset:=hset 0;refine zgB ?_;simp only[go_sem,di2,hqi,hql,hdk,h1,hM',h2,hset,List.length_map,hdl]
     repeat refine ak ?_
     rw[ic i];refine ainv hfin (Shift.weakS ?_ rfl);simp only[go_sem]
    .
     have hv0:valM M' a=v2:=by simp only[valM,h2]
     rw[hv0]at g2;have hfin:=hfin (ds.set k (a,b,v2)) M' (by simp[hdl]) g2 hM;have hset:=hset v2;refine zgB ?_;simp only[go_sem,di2,hqi,hql,hdk,h1,hM',h2,hset,List.length_map,hdl]
     repeat refine ak ?_
     rw[ic i];refine ainv hfin (Shift.weakS ?_ rfl);simp only[go_sem]
   .have hM:=BmF (i:=ix) (k:=a) (v:=v+1) g3 (by omega)
    obtain⟨M',hM'⟩:∃ M',M.set ix (AV.int .i64 a,AV.int .i64 (v+1))=M':=⟨_,rfl⟩;rw[hM']at hM;have hb0:bumpM M a=M':=by simp only[bumpM,h1,<- hM']
    rw[hb0]at g2
    rcases AxR hM a with h2|⟨_,v2,ix2,h2,hv3,hv4,_⟩
    .
     have hv0:valM M' a=0:=by simp only[valM,h2]
     rw[hv0]at g2;have hfin:=hfin (ds.set k (a,b,0)) M' (by simp[hdl]) g2 hM;have hset:=hset 0;refine zgB ?_;simp only[go_sem,di2,hqi,hql,hdk,h1,hM',h2,hset,List.length_map,hdl]
     repeat refine ak ?_
     rw[ic i];refine ainv hfin (Shift.weakS ?_ rfl);simp only[go_sem]
    .
     have hv0:valM M' a=v2:=by simp only[valM,h2]
     rw[hv0]at g2;have hfin:=hfin (ds.set k (a,b,v2)) M' (by simp[hdl]) g2 hM;have hset:=hset v2;refine zgB ?_;simp only[go_sem,di2,hqi,hql,hdk,h1,hM',h2,hset,List.length_map,hdl]
     repeat refine ak ?_
     rw[ic i];refine ainv hfin (Shift.weakS ?_ rfl);simp only[go_sem]
  .have di2:decide ((i:Int)<(n:Int))=false:=by simp; omega
   refine zgB ?_;simp only[go_sem,di2];refine ARet.shift (Shift.freeze 4 (id:=0) (l:=ds.map sdA) rfl rfl (by simp[hdl]) (Nat.le_refl _) (A0U ds)) (aret [4] rfl ⟨?_,rfl⟩);rw[List.drop_eq_nil_of_le (by omega),numGo]at g2;rw[<- g2]
   simp[resV,Av.get,Av.put,List.take_of_length_le,hdl]
