/- Pages with their first scenes, as the reference tells them. -/
import Derived.Test.YtccfklnmolggiaaGreatDoorZ35
set_option maxRecDepth 100000
set_option maxHeartbeats 2000000
set_option linter.all false
namespace Go.Proofs.YtccfklnmolggiaaGreatDoor
open Av RowKit Proofs.Tryz
theorem AeK{n id m es:Nat}{s:LB}{l:LY}(hb:s.getD id .dead=.arr es l)(hl:m=l.length):bor (n+1) s (.sl id 0 m m)=.fz es (l.map (borC n s)):=by
 grind[AnM]
theorem borC_sl(n:Nat)(s:LB)(a b c d:Nat):borC n s (.sl a b c d)=bor n s (.sl a b c d):=rfl
theorem AmM{α:Type}{n:Nat}{s:LB}{f:α->AV}(h:∀ x,borC n s (f x)=f x)(xs:List α):(xs.map f).map (borC n s)=xs.map f:=by
 simp_all
theorem BiD(ss:List (List Bl))(hh:HdOk ss)(hb:∀ l∈ss,∀ b∈l,LdOk b)(ho:∀ b∈ss.flatten,∀ x∈b.La,OwnLn x)(hpl:∀ g,g<=ss.flatten.length->(layTo ss.flatten g).Lg.length<=80000)(h1:ss.length<=1000000)(h2:∀ l∈ss,l.length<=1000000) :
  Pc prog 36 [ssA ss] (· = .tup [.fz 1 ((layL ss.flatten).Lg.map pgA),.fz 1 ((stsL ss ss.length).map (.int .i64)),.fz 1 ((tpsL ss ss.length).map .bool)]):=by
 refine Pc.mono (Pc.ofOwn 2 (BiC ss hh hb ho hpl h1 h2)) ?_;rintro _ ⟨_,_,⟨o,e1,rfl,rfl⟩,rfl⟩;have b1:bor 2 (tabL (stsL ss ss.length) (tpsL ss ss.length) o) (.sl 1 0 ss.length ss.length)=.fz 1 ((stsL ss ss.length).map (.int .i64)):=by
  rw[AeK (AxH _ _ o).1 (by rw[laa,stsL_len]),AmM (fun _=>rfl)]
 have b2:bor 2 (tabL (stsL ss ss.length) (tpsL ss ss.length) o) (.sl 2 0 ss.length ss.length)=.fz 1 ((tpsL ss ss.length).map .bool):=by
  rw[AeK (AxH _ _ o).2 (by rw[laa,tpsL_len]),AmM (fun _=>rfl)]
 have b3:bor 2 (tabL (stsL ss ss.length) (tpsL ss ss.length) o) (.sl 3 0 (toO o).length (toO o).length)=.fz 1 ((toO o).map pgA):=by
  cases o with
  | none=>rfl
  | some x =>
   have hg:(tabL (stsL ss ss.length) (tpsL ss ss.length) (some x)).getD 3 .dead=.arr 1 (x.1.map pgA++[.sl 4 0 x.2.length x.2.length]):=rfl;have hg4:(tabL (stsL ss ss.length) (tpsL ss ss.length) (some x)).getD 4 .dead=.arr 1 (x.2.map .str):=rfl;rw[AeK hg (by simp[toO]),lap,AmM (fun _=>rfl)];have e:borC 1 (tabL (stsL ss ss.length) (tpsL ss ss.length) (some x)) (.sl 4 0 x.2.length x.2.length)=pgA x.2:=by
    rw[borC_sl,AeK hg4 (by simp),AmM (fun _=>rfl)];rfl
   simp only[lah,laq,e,toO,lap]
 simp only[borV,lah,laq,borC_sl];rw[b1,b2,b3,e1]
end Go.Proofs.YtccfklnmolggiaaGreatDoor
namespace Go.Proofs.YtccfklnmolggiaaGreatDoor
open Av RowKit
section strict
attribute [local instance] trUp
end strict
end Go.Proofs.YtccfklnmolggiaaGreatDoor
namespace Go.Proofs.YtccfklnmolggiaaGreatDoor
open Av RowKit Proofs.Tryz
structure QB(b:Bl):Prop where
 kind:b.kind=0\/b.kind=1\/b.kind=2\/b.kind=3
 some:b.La≠[]
 first:b.kind=3->b.La.getD 0 []=indent 20 b.name
theorem BkD{p:Pa}(h:DrawnP p):QB (newB p):=by
 unfold newB
 split
 .have:=AiQ (W:=60) (by omega) h.text.ne h.text.hd
  refine⟨.inr (.inl rfl),fun e=>?_,fun e=>absurd (show(1:Int)=3 from e) (by decide)⟩<;>grind
 .split
  .exact ⟨.inr (.inr (.inl rfl)),by simp,fun e=>absurd (show(2:Int)=3 from e) (by decide)⟩
  .exact ⟨.inr (.inr (.inr rfl)),by simp,fun _=>rfl⟩
theorem BkE{b:Bl}(h:QB b)(kd:Int)(n:Nat)(ls:List LU):QB (addB b kd n ls):=by
 refine⟨h.kind,by simp[addB,h.some],fun e=>?_⟩;have h1:=h.first e;have h2:=h.some
 grind[addB]
theorem BiE{b:Bl}(h:QB b)(p:Pa):QB (moreB b p):=by
 grind[moreB,BkE]
theorem A8T:∀ (ps:List Pa)(s:List Bl×Bl),(∀ p∈ps,DrawnP p)->(∀ b∈s.1++[s.2],QB b)->∀ b∈(ps.foldl bstep s).1++[(ps.foldl bstep s).2],QB b
 | [],s,_,h=>h
 | p::r,s,hp,h=>by
  refine A8T r (bstep s p) (fun q hq=>hp q (by simp[hq])) ?_;unfold bstep
  split
  .intro b hb
   simp at hb
   rcases hb with hb|rfl
   .exact h b (by simp[hb])
   .exact BiE (h s.2 (by simp)) p
  .intro b hb
   simp only[List.mem_append,lcf]at hb
   rcases hb with(hb|rfl)|rfl
   .exact h b (by simp[hb])
   .exact h s.2 (by simp)
   .exact BkD (hp p (by simp))
theorem BdL{bs:List Bl}{b:Bl}(h:b∈bs):72+b.La.length<=costP bs:=by
 induction bs<;>grind[costP]
theorem A8U(bs:List Bl)(g:Nat):costP (bs.take g)<=costP bs:=by
 grind[costP_append,List.take_append_drop]
theorem AuL{x:Sr}(hx:AnX x):LayOk x:=by
 have hok:=AzM hx;obtain⟨y,hy,hxy⟩:=hx;have own:∀ z∈y.Lb,∀ p∈z.Lc,(p.kind=2->p.text∈NameL)/\A6Y p/\1<=p.kind/\p.kind<=5:=fun z hz p hp=>by
  have:=(hy.all z hz).all p hp;exact⟨this.name,this.turn,this.kind.1,this.kind.2⟩
 rcases hxy with rfl|rfl
 .exact ⟨hok,by have:=hy.len; omega,fun z hz b hb=>AlU (own z hz) b hb⟩
 .refine ⟨hok,by have:=hy.len; simp only[numR,numL_len]; omega,fun z hz b hb=>?_⟩
  have key:∀ (l:List Sc) (i:Nat),∀ z∈numL i l,∃ u∈l,z.Lc=u.Lc:=by
   intro l
   induction l with
   | nil=>intro i z hz; simp[numL]at hz
   | cons a r ih =>
    intro i z hz;simp only[numL]at hz
    rcases List.mem_cons.1 hz with rfl|hz
    .exact ⟨a,by simp,rfl⟩
    .obtain ⟨u,h1,h2⟩:=ih _ z hz
     exact⟨u,lcg _ h1,h2⟩
  obtain⟨u,h1,h2⟩:=key _ _ z hz;exact AlU (by rw[h2]; exact own u h1) b hb
theorem A8V{x:Sr}(hx:AnX x):(∀ z∈x.Lb,SceneD z)/\x.Lb.length<=5:=by
 obtain⟨y,hy,hxy⟩:=hx;have h1:∀ z∈y.Lb,SceneD z:=fun z hz=>(hy.all z hz).d
 rcases hxy with rfl|rfl
 .exact ⟨h1,hy.len⟩
 .refine ⟨fun z hz=>?_,by simp only[numR,numL_len]; exact hy.len⟩
  obtain⟨i,hi,rfl⟩:=List.getElem_of_mem hz;have hi':i<y.Lb.length:=by simpa only [numR,numL_len]using hi
  have h3:=AqL y.Lb 0 i hi';simp only[lau]at h3;have e:(numR y).Lb[i]=nm i y.Lb[i]:=(List.getElem?_eq_some_iff.1 h3).2;have h5:=hy.len;have h4:=AqK i (by omega);have h2:=(A6U i (by omega)).2.1;rw[e];exact(hy.all _ (lai hi')).d.renum (.inr (by rw[h4]; exact h2))
theorem AoJ{x:Sc}(h:SceneD x):headL x≠[]/\(headL x).head?≠some 32:=by
 rcases h.no with h0|h0
 .have e:headL x=headLine x:=by unfold headL; rw[h0]; rfl
  rw[e];obtain⟨h1,h2⟩:=h.place;unfold headLine;obtain hp|hp|hp:x.place=1\/x.place=2\/x.place=3:=by omega
  all_goals rw[hp]; exact⟨by simp[AgK],by simp[AgK]⟩
 .have hb:(x.no != [])=true:=by simpa using BeU h0
  unfold headL;rw[if_pos hb];refine⟨by simp,?_⟩;rw[lae]; exact(AtW h0).2 _
theorem BdM{x:Sc}(hd:SceneD x):∀ b∈blocksL x,QB b:=by
 have hw:1<=(wrapL 60 (headL x)).length:=AiQ (by omega) (AoJ hd).1 (AoJ hd).2;refine A8T x.Lc ([],⟨0,wrapL 60 (headL x),[],[]⟩) hd.all (fun b hb=>?_);simp only[lbm,lcf]at hb;subst hb;refine⟨.inl rfl,fun e=>?_,fun e=>absurd (show(0:Int)=3 from e) (by decide)⟩;simp only at e;rw[e]at hw
 simp at hw
theorem A8W{x:Sc}(hd:SceneD x):∀ b∈blocksL x,FitB b:=by
 refine AuA x.Lc _ hd.all fun b hb=>?_
 simp only[lbm,lcf]at hb;subst hb;refine⟨fun l hl=>?_,fun e=>absurd e (by simp)⟩;obtain⟨a1,a2,a3⟩:=AjX (by omega) (AoE hd) l hl;exact AwZ a1 (by omega)
theorem AoK{x:Sc}(hd:SceneD x):costP (blocksL x)<=5256:=by
 have:=(AmF hd).2;have:=hd.wt;omega
theorem BdN{x:Sc}(hd:SceneD x):∀ b∈blocksL x,LdOk b:=by
 intro b hb;have q:=BdM hd b hb;have hc:=BdL hb;have hc2:=AoK hd;have hf:=A8W hd b hb;exact⟨BdC ((AmF hd).1 b hb) q.some,⟨q.kind,(hd.bl b hb).kinds,by omega⟩,q.first,fun l hl=>by have:=(hf.La l hl).len; omega,by omega⟩
def ssB(xs:List Sc):List (List Bl):=xs.map blocksL
theorem AqX(xs:List Sc):(ssB xs).flatten=allB xs:=by simp[ssB,allB,List.flatMap_def]
theorem A0F(xs:List Sc)(h:∀ z∈xs,SceneD z):(∀ b∈allB xs,AiR b)/\costP (allB xs)<=5256*xs.length:=by
 induction xs with
 | nil=>exact⟨by simp[allB],by simp[allB,costP]⟩
 | cons z r ih =>
  obtain⟨i1,i2⟩:=ih fun m hm=>h m (by simp[hm])
  have s1:=(AmF (h z (by simp))).1;have s2:=AoK (h z (by simp));have e:allB (z::r)=blocksL z++allB r:=by simp[allB]
  rw[e];refine⟨fun b hb=>?_,?_⟩
  .rcases List.mem_append.1 hb with hb|hb
   .exact s1 b hb
   .exact i1 b hb
  .rw [costP_append,laf,Nat.mul_add]; omega
theorem BkF(xs:List Sc):HdOk (ssB xs):=by
 intro l hl;obtain⟨x,_,rfl⟩:=List.mem_map.1 hl;have h:HdK ((blocksL x).map (·.kind)):=A0D _ _ ⟨[],rfl,by simp⟩;obtain⟨r,e,hr⟩:=h
 cases hq:blocksL x with
 | nil=>rw[hq]at e; simp at e
 | cons b q =>
  rw[hq]at e;simp only[lah,List.cons.injEq]at e;exact⟨b,q,rfl,e.1,fun d hd=>hr _ (by rw[<- e.2]; exact List.mem_map.2 ⟨d,hd,rfl⟩)⟩
theorem AuM{x:Sr}(hx:AnX x):(layL (allB x.Lb)).Lg.length<=1000:=by
 obtain⟨h1,h2⟩:=A8V hx;obtain⟨c1,c2⟩:=A0F _ h1;have h3:=BcW c1;have h4:5256*x.Lb.length<=5256*5:=Nat.mul_le_mul_left _ h2;omega
theorem A2L{St:Std}(hS:LibR St)(ti:LU)(xs:List Sc)(hx:∀ z∈xs,SceneD z)(hl:xs.length<=5):PcH prog St 37 [.agg [.str ti,.fz 5 (xs.map scA)]] (· = ssA (ssB xs)):=by
 have hb:=fun z hz=>AxF hS z (hx z hz)
 unfold ssA;refine zqIF func37 rfl fun h ρ w hg=>?_
 simp only[go_sem,laa];refine AaI (ι:=Nat) (fun i=>xs.length-i) (fun i=>[(9,.int .i64 i),(8,.int .i64 xs.length),(7,.fz 5 (xs.map scA)),(3,.sl 1 0 i i)])
  (fun i=>[.arr 2 [.agg [.str ti,.fz 5 (xs.map scA)]],.arr 1 ((ssB (xs.take i)).map fun l=>.fz 3 (l.map rbA))]) (fun i=>i<=xs.length) 0 (by omega) ?_ ?_
 .refine Shift.trans (Ll 3 1 rfl) (Lp ?_ rfl)
  simp only[go_sem]
  try rfl
 .intro i g1 J hJ
  by_cases gi:i<xs.length
  .have di:decide ((i:Int)<(xs.length:Int))=true:=by simp; omega
   have hg':List.getD (List.map scA xs) i .any=.agg [.str xs[i].no,.int .i64 xs[i].place,.str xs[i].set,.int .i64 xs[i].time,.fz 2 (xs[i].Lc.map paA)]:=by simp[List.getD,gi,scA]
   have hbi:=hb xs[i] (lai gi);have htl:(List.take i xs).length=i:=by simp; omega
   have hql:((ssB (xs.take i)).map fun l=>AV.fz 3 (l.map rbA)).length=i:=by simp[ssB]; omega
   have hsn:((ssB (xs.take i)).map fun l=>AV.fz 3 (l.map rbA))++[.fz 3 ((blocksL xs[i]).map rbA)]=(ssB (xs.take (i+1))).map fun l=>AV.fz 3 (l.map rbA):=by
    rw[lal gi]; unfold ssB; rw[lap,lap]; rfl
   have fin:=hJ (i+1) (by omega) (by omega);rw[<- hsn]at fin;simp only[scA]at hbi;apply zgF;simp only[go_sem,di,hg',laa]
   repeat refine And.intro (by first|omega|exact .inl trivial|exact .inl (.inl trivial)|rfl|(simp; done)|(simp; omega)) ?_
   refine zqF hg (hbi) ?_;simp only[go_sem,hql]
   repeat refine And.intro (by first|omega|exact .inl trivial|exact .inl (.inl trivial)|rfl|(simp; done)|(simp; omega)) ?_
   rw[ic i];refine ainv fin (Shift.low 2 (by simp) (by simp) ?_ ?_)
   .have e1:∀ l:List (List Bl),(flat (l.map fun l=>AV.fz 3 (l.map rbA))).all (lowC 2)=true:=fun l=>AaD (by
     induction l with
     | nil=>rfl
     | cons y l ih=>simpa[flat,cellsOf,Av.frozen]using ih)
    rw[hsn];simp only[go_sem,lowB,e1]
    first|rfl|simp[flat,cellsOf,lowC,Av.frozen]
   .simp only [go_sem]
  .have di:decide ((i:Int)<(xs.length:Int))=false:=by simp; omega
   have hi:i=xs.length:=by omega
   subst hi;rw[lbt];have hql:(ssB xs).length=xs.length:=by simp[ssB]
   apply zgF;simp only[go_sem,di];refine ARet.shift (Shift.freeze 2 (id:=1) rfl rfl (by simp[hql]) (lab _) ?_) (aret [2] rfl ⟨?_,rfl⟩)
   .generalize ssB xs=l
    induction l with
    | nil=>rfl
    | cons y l ih=>simpa[flat,cellsOf,Av.frozen]using ih
   .simp [resV,Av.get,Av.put,lag,hql]
theorem AuN{St:Std}(hS:LibR St)(x:Sr)(hx:AnX x):PcH prog St 13 [srA x] (fun r=>∃ q,r=.tup [.fz 2 (pgI 0 (layL (allB x.Lb)).Lg),q]):=by
 obtain⟨h1,h2⟩:=A8V hx;have hpf:=AuM hx;have hly:=AuL hx;obtain⟨c1,c2⟩:=A0F _ h1;have hsb:=A2L hS x.Lj x.Lb h1 h2;have hla:=BiD (ssB x.Lb) (BkF _) (fun l hl b hb=>by
  obtain⟨z,hz,rfl⟩:=List.mem_map.1 hl;exact BdN (h1 z hz) b hb) (fun b hb=>by rw[AqX]at hb; exact(hly.bl b hb).own) (fun g hg=>by
  rw[AqX]at hg |-;have h3:=layTo_few c1 g hg;have h4:=A8U (allB x.Lb) g;have h5:5256*x.Lb.length<=5256*5:=Nat.mul_le_mul_left _ h2;omega) (by simp[ssB]; omega) (fun l hl=>by
  obtain⟨z,hz,rfl⟩:=List.mem_map.1 hl;have:=A7W z;have:=(h1 z hz).len;omega)
 rw[AqX]at hla;obtain⟨ti,xs⟩:=x;simp only[srA]at hpf hsb hla |-;generalize (layL (allB xs)).Lg=ps at hpf hla |-;unfold ssA at hsb hla;refine zqIF func13 rfl fun h ρ w hg=>?_
 simp only[go_sem];refine zqF hg (hsb) ?_;simp only[go_sem];refine zpF (hla) ?_;simp only[go_sem,laa]
 repeat refine And.intro (by first|omega|exact .inl trivial|exact .inl (.inl trivial)|rfl|(simp; done)|(simp; omega)) ?_
 refine AaI (ι:=Nat) (fun i=>ps.length-i) (fun i=>[(19,.int .i64 i),(18,.int .i64 ps.length),(17,.fz 1 (ps.map pgA)),(5,.fz 1 ((stsL (ssB xs) (ssB xs).length).map (.int .i64))),(7,.sl 1 0 i i)])
  (fun i=>[.arr 2 [.agg [.str ti,.fz 5 (xs.map scA)]],.arr 2 (pgI 0 (ps.take i))]) (fun i=>i<=ps.length) 0 (by omega) ?_ ?_
 .refine Shift.trans (Ll 7 2 rfl) (Lp ?_ rfl)
  simp only[go_sem]
  try rfl
 .intro i g1 J hJ
  by_cases gi:i<ps.length
  .have di:decide ((i:Int)<(ps.length:Int))=true:=by simp; omega
   have hg':List.getD (List.map pgA ps) i .any=.fz 1 (ps[i].map .str):=by simp[List.getD,gi,pgA]
   have htl:(List.take i ps).length=i:=by simp; omega
   have hpl:(pgI 0 (List.take i ps)).length=i:=by rw[pgI_len,htl]
   have hsn:pgI 0 (List.take i ps)++[.agg [.int .i64 ((i+1:Nat):Int),.fz 1 (ps[i].map .str)]]=pgI 0 (List.take (i+1) ps):=by
    rw[lal gi,pgI_snoc,htl,lau]; rfl
   apply zgF;simp only[go_sem,di,hg',hpl,laa]
   repeat refine And.intro (by first|omega|exact .inl trivial|exact .inl (.inl trivial)|rfl|(simp; done)|(simp; omega)) ?_
   rw[ic i];refine ainv (hJ (i+1) (by omega) (by omega)) ?_;refine Lp ?_ (by rw[<- hsn]);simp only[go_sem]
  .have di:decide ((i:Int)<(ps.length:Int))=false:=by simp; omega
   have hi:i=ps.length:=by omega
   subst hi;rw[lbt];apply zgF;simp only[go_sem,di];exact ARet.shift (Shift.freeze 2 (id:=1) rfl rfl (by simp[pgI_len]) (lab _) (AoA _ _)) (aret [2,3] rfl ⟨⟨_,by simp only[resV,go_sem]; simp[pgI_len,lag]; rfl⟩,rfl⟩)
def nx(L:List Int)(k n:Int):Int:=if L.length=0 then(IntKind.i64.wrap ((k+1)*7919))%n else(IntKind.i64.wrap (L.getD (k%L.length).toNat 0%1073741824+IntKind.i64.wrap (k / L.length*IntKind.i64.wrap (7919+k%L.length))))%n
theorem AhS(L:List Int)(k n:Int)(h:1<=n):0<=nx L k n/\nx L k n<n:=by
 unfold nx
 split
 .exact ⟨Int.emod_nonneg _ (by omega),Int.emod_lt_of_pos _ (by omega)⟩
 .exact ⟨Int.emod_nonneg _ (by omega),Int.emod_lt_of_pos _ (by omega)⟩
theorem AeV(L:List Int)(k n:Int)(h1:1<=n)(h2:n<=9223372036854775807)(h3:0<=k)(h4:k<=1000000) :
  Mc prog 42 2 (str L k) [.int .i64 n] (fun r s=>r=.int .i64 (nx L k n)/\s=str L (k+1)):=by
 refine AaZ func42 rfl ntmps42 hB42 (by simp) fun h ρ w=>goW rfl 200 ?_
 have hw:IntKind.i64.wrap (k+1)=k+1:=IntWalk.i64_in _ ⟨by omega,by omega⟩;have hk:k+1-1=k:=by omega
 have hwk:IntKind.i64.wrap k=k:=IntWalk.i64_in _ ⟨by omega,by omega⟩;have fin:∀ x:Int,0<=x%n/\x%n<n:=fun x=>⟨Int.emod_nonneg x (by omega),Int.emod_lt_of_pos x (by omega)⟩
 simp only[go_sem,str,hw];refine⟨fun h5=>?_,fun h5=>?_⟩
 .refine AcH (ApV _ n h1 h2) rfl rfl rfl (goW rfl 200 ?_)
  simp only[go_sem];have hL0:L.length=0:=by first|(simpa using h5)|omega
  exact aret [4] rfl ⟨_,_,rfl,by unfold nx; rw[if_pos hL0]; rfl,rfl,rfl,rfl⟩
 .refine zr [] AaJ ?_
  simp only[go_sem,hw,hk,hwk];have hm0:0<((List.map (AV.int .i64) L).length:Int):=by omega
  have hmL:((List.map (AV.int .i64) L).length:Int)=L.length:=by simp
  generalize hM:((List.map (AV.int .i64) L).length:Int)=M at *;have d1:0<=k / M:=Int.ediv_nonneg h3 (by omega);have d2:k / M<=k:=Int.ediv_le_self _ h3;have d3:0<=k%M:=Int.emod_nonneg k (by omega);have d4:k%M<M:=Int.emod_lt_of_pos k hm0;have d5:k%M<=k:=by
   have q1:=Int.mul_ediv_add_emod k M;have q2:0<=M*(k / M):=Int.mul_nonneg (by omega) d1;omega
  have d6:0<=k / M*(7919+k%M):=Int.mul_nonneg d1 (by omega);have d7:k / M*(7919+k%M)<=1000000*1007919:=Int.mul_le_mul (by omega) (by omega) (by omega) (by omega);refine⟨by omega,by omega,by omega,by omega,?_⟩;refine goW rfl 200 ?_;simp only[go_sem,hw,hk,hwk,hM];refine zr [] AaJ ?_;simp only[go_sem,hw,hk,hwk,hM];refine⟨by omega,by omega,by omega,by omega,by omega,by omega,?_⟩;have hx:∃ x,(List.map (AV.int .i64) L).getD (k%M).toNat .any=.int .i64 x:=by
   have:(k%M).toNat<L.length:=by omega
   exact⟨L[(k%M).toNat],by simp[List.getD,this]⟩
  have hxv:(List.map (AV.int .i64) L).getD (k%M).toNat .any=.int .i64 (L.getD (k%M).toNat 0):=by
   have:(k%M).toNat<L.length:=by omega
   simp[List.getD,this]
  clear hx;have hx:=hxv;have hnx:nx L k n=(IntKind.i64.wrap (L.getD (k%M).toNat 0%1073741824+IntKind.i64.wrap (k / M*IntKind.i64.wrap (7919+k%M))))%n:=by
   unfold nx;rw[if_neg (by omega),<- hmL]
  generalize L.getD (k%M).toNat 0=x at *;have f1:0<=x%1073741824:=Int.emod_nonneg x (by omega);have f2:x%1073741824<1073741824:=Int.emod_lt_of_pos x (by omega);refine goW rfl 200 ?_;simp only[go_sem,hw,hk,hwk,hM,hx];refine⟨by omega,by omega,by simp; omega,?_⟩;refine AcH (ApV _ _ (by omega) (by omega)) rfl rfl rfl (goW rfl 200 ?_);simp only[go_sem];refine AcH (ApV _ n h1 h2) rfl rfl rfl (goW rfl 200 ?_);simp only[go_sem];exact aret [4] rfl ⟨_,_,rfl,by rw[hnx]; rfl,rfl,rfl,rfl⟩
def oneF(L:List Int)(k:Int)(ls:List LU):LU:=ls.getD (nx L k ls.length).toNat []
def flipF(L:List Int)(k n:Int):Bool:=nx L k n==0
def pickF(L:List Int)(k:Int)(ls:List Int):Int:=ls.getD (nx L k ls.length).toNat 0
def rangeF(L:List Int)(k a b:Int):Int:=a+nx L k (b-a+1)
theorem AbZ{L:List Int}{k:Int}{ls:List LU}(h:1<=ls.length):oneF L k ls∈ls:=by
 have:=AhS L k ls.length (by omega);have hv:(nx L k ls.length).toNat<ls.length:=by omega
 unfold oneF;simp only[List.getD,lad hv,Option.getD_some];exact lai hv
theorem AhT{L:List Int}{k:Int}{ls:List Int}(h:1<=ls.length):pickF L k ls∈ls:=by
 have:=AhS L k ls.length (by omega);have hv:(nx L k ls.length).toNat<ls.length:=by omega
 unfold pickF;simp only[List.getD,lad hv,Option.getD_some];exact lai hv
theorem AfM(L:List Int)(k:Int)(ls:List LU)(h1:1<=ls.length)(h2:ls.length<=1000)(h3:0<=k)(h4:k<=1000000) :
  Mc prog 45 2 (str L k) [.fz 1 (ls.map .str)] (fun r s=>r=.str (oneF L k ls)/\s=str L (k+1)):=by
 have hlen:((List.map AV.str ls).length:Int)=ls.length:=by simp
 have hb:=AhS L k ls.length (by omega);refine zcIN func45 rfl fun h ρ w=>?_
 simp only[go_sem];refine zm 0 (AeV L k _ (by omega) (by omega) h3 h4) ?_;rintro _ _ ⟨rfl,rfl⟩;rw[hlen];have hv:(nx L k ls.length).toNat<ls.length:=by omega
 have hx:(List.map AV.str ls).getD (nx L k ls.length).toNat .any=.str (oneF L k ls):=by
  unfold oneF
  simp[List.getD,hv]
 apply zgN;simp only[go_sem,hx];refine⟨by omega,by omega,by simpa using hv,?_⟩;exact aret [4] rfl ⟨_,_,rfl,rfl,rfl,rfl,rfl⟩
theorem AhU(L:List Int)(k n:Int)(h1:1<=n)(h2:n<=1000)(h3:0<=k)(h4:k<=1000000) :
  Mc prog 16 2 (str L k) [.int .i64 n] (fun r s=>r=.bool (flipF L k n)/\s=str L (k+1)):=by
 refine zcIN func16 rfl fun h ρ w=>?_
 simp only[go_sem];refine zm 0 (AeV L k _ (by omega) (by omega) h3 h4) ?_;rintro _ _ ⟨rfl,rfl⟩;apply zgN;simp only[go_sem];exact aret [4] rfl ⟨_,_,rfl,rfl,rfl,rfl,rfl⟩
theorem AhV(L:List Int)(k a b:Int)(h1:0<=a)(h2:a<=b)(hb:b<=1000)(h3:0<=k)(h4:k<=1000000) :
  Mc prog 81 2 (str L k) [.int .i64 a,.int .i64 b] (fun r s=>r=.int .i64 (rangeF L k a b)/\s=str L (k+1)):=by
 have d:decide (b<a)=false:=by simp; omega
 have hbd:=AhS L k (b-a+1) (by omega);refine zcIN func81 rfl fun h ρ w=>?_
 simp only[go_sem,d];refine⟨by omega,by omega,by omega,by omega,?_⟩;refine zm 0 (AeV L k _ (by omega) (by omega) h3 h4) ?_;rintro _ _ ⟨rfl,rfl⟩;apply zgN;simp only[go_sem];refine⟨by omega,by omega,?_⟩;exact aret [6] rfl ⟨_,_,rfl,rfl,rfl,rfl,rfl⟩
theorem AjY(L:List Int)(k:Int)(ls:List Int)(h1:1<=ls.length)(h2:ls.length<=1000)(h3:0<=k)(h4:k<=1000000) :
  Mc prog 83 2 (str L k) [.fz 1 (ls.map (.int .i64))] (fun r s=>r=.int .i64 (pickF L k ls)/\s=str L (k+1)):=by
 have hlen:((List.map (AV.int .i64) ls).length:Int)=ls.length:=by simp
 have hb:=AhS L k ls.length (by omega);refine zcIN func83 rfl fun h ρ w=>?_
 simp only[go_sem];refine zm 0 (AeV L k _ (by omega) (by omega) h3 h4) ?_;rintro _ _ ⟨rfl,rfl⟩;rw[hlen];have hv:(nx L k ls.length).toNat<ls.length:=by omega
 have hx:(List.map (AV.int .i64) ls).getD (nx L k ls.length).toNat .any=.int .i64 (pickF L k ls):=by
  unfold pickF
  simp[List.getD,hv]
 apply zgN;simp only[go_sem,hx];refine⟨by omega,by omega,by simpa using hv,?_⟩;exact aret [4] rfl ⟨_,_,rfl,rfl,rfl,rfl,rfl⟩
def wordF(L:List Int)(k v b:Int):Nat->Nat->LU->LU×Int
 | 0,i,out=>(out,k+1+i)
 | f+1,i,out=>if(i:Int)<v then
   (if(out.length:Int)+((if out=[] then oneF L (k+1+i) WordL else 32::oneF L (k+1+i) WordL).length:Int)>b then(out,k+1+i+1)
    else wordF L k v b f (i+1) (out++(if out=[] then oneF L (k+1+i) WordL else 32::oneF L (k+1+i) WordL)))
  else(out,k+1+i)
theorem AqY(L:List Int)(k v b:Int)(h5:60<=b):∀ (f i:Nat)(out:LU),(i:Int)<=v->v<=i+f->(out.length:Int)<=b->(i=0->out=[])->(0<i->TextOk wordC out)->1<=v ->
  TextOk wordC (wordF L k v b f i out).1/\((wordF L k v b f i out).1.length:Int)<=b/\k<=(wordF L k v b f i out).2/\(wordF L k v b f i out).2<=k+1+v
 | 0,i,out,g1,g2,g3,g4,g5,g6=>⟨g5 (by omega),g3,by simp only[wordF]; omega,by simp only[wordF]; omega⟩
 | f+1,i,out,g1,g2,g3,g4,g5,g6=>by
  obtain⟨x1,x2⟩:=A5H (AbZ (L:=L) (k:=k+1+i) (ls:=WordL) (by decide));simp only[wordF];generalize oneF L (k+1+i) WordL=x at *
  by_cases gi:(i:Int)<v
  .rw [if_pos gi]
   by_cases ho:out=[]
   .subst ho
    simp only[if_true,lar,lbm];rw[if_neg (by omega)];refine AqY L k v b h5 f (i+1) x (by omega) (by omega) (by omega) (by omega) (fun _=>x1) g6
   .have i0:0<i:=by
     rcases Nat.eq_zero_or_pos i with h|h
     .exact absurd (g4 h) ho
     .exact h
    simp only[if_neg ho]
    split
    .exact ⟨g5 i0,g3,by simp only; omega,by simp only; omega⟩
    .rename_i hgl
     refine AqY L k v b h5 f (i+1) _ (by omega) (by omega) (by simp at hgl |-; omega) (by omega) (fun _=>(g5 i0).join rfl x1) g6
  .rw [if_neg gi]
   exact⟨g5 (by omega),g3,by simp only; omega,by simp only; omega⟩
def wordsF(L:List Int)(k m b:Int):LU×Int:=wordF L k (rangeF L k 1 m) b (rangeF L k 1 m).toNat 0 []
theorem AeL(L:List Int)(k m b:Int)(h1:1<=m)(h2:m<=80)(h5:60<=b):TextOk wordC (wordsF L k m b).1/\((wordsF L k m b).1.length:Int)<=b/\k<=(wordsF L k m b).2/\(wordsF L k m b).2<=k+81:=by
 have hb:=AhS L k (m-1+1) (by omega);have hv:1<=rangeF L k 1 m/\rangeF L k 1 m<=m:=by unfold rangeF; omega
 obtain⟨a,b,c,d⟩:=AqY L k (rangeF L k 1 m) b h5 (rangeF L k 1 m).toNat 0 [] (by omega) (by omega) (by simp; omega) (by simp) (by simp) hv.1;exact⟨a,b,c,by unfold wordsF; omega⟩
theorem AmN(L:List Int)(k m b:Int)(h1:1<=m)(h2:m<=80)(h5:60<=b)(h6:b<=2000)(h3:0<=k)(h4:k<=900000) :
  Mc prog 129 2 (str L k) [.int .i64 m,.int .i64 b] (fun r s=>r=.str (wordsF L k m b).1/\s=str L (wordsF L k m b).2):=by
 have hb:=AhS L k (m-1+1) (by omega);have hv:1<=rangeF L k 1 m/\rangeF L k 1 m<=m:=by unfold rangeF; omega
 obtain⟨⟨t,kk⟩,hw⟩:∃ z,z=wordsF L k m b:=⟨_,rfl⟩;rw[<- hw];unfold wordsF at hw;refine zcIF func129 rfl fun h ρ w=>?_
 simp only[go_sem];refine zm 0 (AhV L k 1 m (by omega) (by omega) (by omega) h3 (by omega)) ?_;rintro _ _ ⟨rfl,rfl⟩;generalize rangeF L k 1 m=v at *;apply zgF;simp only[go_sem];refine AyG (ι:=Nat×LU) (κ:=Unit) (fun x=>v.toNat-x.1)
  (fun x=>[(12,.int .i64 x.1),(11,.int .i64 v),(7,.str x.2),(2,.int .i64 b),(0,.ptr 0 1 0 0)])
  (fun x=>[.arr 2 [str L (k+1+x.1)]])
  (fun x=>(x.1:Int)<=v/\(x.2.length:Int)<=b/\wordF L k v b (v.toNat-x.1) x.1 x.2=(t,kk))
  (fun x=>[(7,.str t),(0,.ptr 0 1 0 0)]) (fun x=>[.arr 2 [str L kk]])
  (fun x=>True)
  (0,[]) ⟨by simp only; omega,by simp; omega,by simpa using hw.symm⟩ ?_ ?_ ?_
 .have h0:k+1+((0:Nat):Int)=k+1:=by omega
  simp only[h0];refine Lo ?_;simp only[go_sem]
 .rintro ⟨⟩ _
  apply zgN;simp only[go_sem];exact aret [6] rfl ⟨_,_,rfl,rfl,rfl,rfl,rfl⟩
 .rintro ⟨i,u⟩ ⟨g1,g2,g3⟩ J Q hJ hQ
  simp only at g1 g2 g3 hJ hQ |-;apply zgF
  by_cases gi:(i:Int)<v
  .have d1:decide ((i:Int)<v)=true:=by simp; omega
   have e0:v.toNat-i=(v.toNat-(i+1))+1:=by omega
   have hx:=A5H (AbZ (L:=L) (k:=k+1+i) (ls:=WordL) (by decide));rw[e0]at g3;simp only[wordF,if_pos gi]at g3;have ho:=AfM L (k+1+i) WordL (by decide) (by decide) (by omega) (by omega);generalize oneF L (k+1+i) WordL=x at *;obtain⟨x1,x2⟩:=hx;simp only[go_sem,d1];refine zm 0 (ho) ?_;rintro _ _ ⟨rfl,rfl⟩;have e1:k+1+(i:Int)+1=k+1+((i+1:Nat):Int):=by omega
   by_cases ht:u=[]
   .subst ht
    have d3:decide (((0:Nat):Int)+(x.length:Int)>b)=false:=by simp; omega
    simp only[if_true,lar,lbm]at g3;rw[if_neg (by omega)]at g3;apply zgF;simp only[go_sem,d3];refine⟨by omega,by omega,fun gl=>(by simp at gl; omega),fun gl=>?_⟩
    repeat refine ao ?_
    rw[e1,show(i:Int)+1=((i+1:Nat):Int) by omega];refine ainv (hJ (i+1,x) ⟨by simp only; omega,by simp only; omega,g3⟩ (by simp only; omega)) (Lo ?_);simp only[go_sem]
   .have d2:(u != [])=true:=by simp[ht]
    have d2':(u==[])=false:=by simp[ht]
    simp only[if_neg ht]at g3;apply zgF;simp only[go_sem,d2,d2']
    repeat refine ao ?_
    refine⟨fun gl=>?_,fun gl=>?_⟩
    .rw [if_pos (by simp at gl |-; omega)]at g3
     injection g3 with g3 g4
     rw[<- g3,<- g4]at hQ;refine ainv (hQ () trivial) (Lo ?_);simp only[go_sem]
    .rw [if_neg (by simp at gl |-; omega)]at g3
     repeat refine ao ?_
     rw[e1,show(i:Int)+1=((i+1:Nat):Int) by omega];refine ainv (hJ (i+1,u++32::x) ⟨by simp only; omega,by simp at gl |-; omega,g3⟩ (by simp only; omega)) (Lo ?_);simp only[go_sem]
  .have d1:decide ((i:Int)<v)=false:=by simp; omega
   have e0:v.toNat-i=0:=by omega
   rw[e0]at g3;simp only[wordF]at g3
   injection g3 with g3 g4
   rw[<- g3,<- g4]at hQ;simp only[go_sem,d1];refine ainv (hQ () trivial) (Lo ?_);simp only[go_sem]
