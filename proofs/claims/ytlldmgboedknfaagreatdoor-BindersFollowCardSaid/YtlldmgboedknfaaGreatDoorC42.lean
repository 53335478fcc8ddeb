/- Next: the next draft of a script. -/
import Derived.Test.YtlldmgboedknfaaGreatDoorC41
set_option maxRecDepth 100000
set_option maxHeartbeats 4000000
set_option linter.unusedSimpArgs false
set_option linter.unusedVariables false
namespace Go.Proofs.YtlldmgboedknfaaGreatDoor
open Go Go.Av Go.RowKit _root_.Go.Proofs.Tryz
theorem AzH(E:List (List UInt8))(xs:List Sc):∀ i,i<=xs.length->∀ y∈ysTo E xs i,∃ x∈xs,∃ n,y={ x with no:=n }
 | 0,_,y,hy=>by simp[ysTo]at hy
 | i+1,hi,y,hy=>by
  simp only[ysTo,List.mem_append,List.mem_singleton]at hy
  rcases hy with hy|rfl
  .exact AzH E xs i (by omega) y hy
  .exact ⟨xs.getD i sc0,by simp[List.getD,show i<xs.length by omega],_,rfl⟩
theorem AsI{E:List (List UInt8)}{xs:List Sc}{i:Nat}(hi:i<=xs.length)(hx:∀ x∈xs,SceneD x)(h:RenI E xs i):∀ y∈ysTo E xs i,SceneD y:=fun y hy=>by
 obtain⟨x,hm,n,rfl⟩:=AzH E xs i hi y hy;exact(hx x hm).renum (.inr (h.num _ hy))
theorem A6G{l:List (List UInt8)}(hh:∀ n∈l,leafNameL n=true)(h:∀ i,(h:i+1<l.length)->nLt (endsL l[i]).2 (endsL l[i+1]).1):AeT l:=by
 unfold AeT;rw[List.pairwise_iff_getElem];have key:∀ j i,(hj:j<l.length)->(hij:i<j)->nLt (endsL (l[i]'(by omega))).2 (endsL l[j]).1:=by
  intro j
  induction j with
  | zero=>intro i _ h; omega
  | succ j ih =>
   intro i hj hij;have h1:=h j hj
   by_cases e:i=j
   .subst e; exact h1
   .have h2:=ih i (by omega) (by omega)
    rcases(AaJ (hh l[j] (List.getElem_mem _))).2.2 with e2|e2
    .rw [e2]at h2; exact AaF h2 h1
    .exact AaF h2 (AaF e2 h1)
 exact fun i j hi hj hij=>key j i hj hij
theorem AlY{l:List Le'}:∀ (j i:Nat),i<j->j<(runsL l).length->(rat (runsL l) i).1<(rat (runsL l) j).1
 | 0,i,h,_=>by omega
 | j+1,i,h,hj=>by
  have hr:=AcQ l;have h1:=hr.adj j hj;have h2:=(hr.one j (by omega)).1
  by_cases e:i=j
  .subst e; omega
  .have:=AlY (l:=l) j i (by omega) (by omega); omega
theorem BtR{d:Dr}{E E':List (List UInt8)}{ys:List Sc}(hd:DrIn d)(ho:DraftOk d)(hE:EntOf d E)(hm:MdOk ys E')(hs:E'.Pairwise nLt)(hsub:∀ e∈E,e∈E'):RelOk ys E' d.leaves:=by
 have hl:=ho.lv E hE;have hr:=AcQ d.leaves;have hlt:∀ k,k<(runsL d.leaves).length->(rat (runsL d.leaves) k).1<d.leaves.length:=fun k hk=>by have:=hr.one k hk; omega
 refine⟨hm,hs,fun k hk=>hsub _ (hl.mem _ (hlt k hk) (hr.one k hk).2.2.1),fun i j hij hj=>hl.rise _ _ (AlY j i hij hj) (hlt j hj) (hr.one i (by omega)).2.2.1 (hr.one j hj).2.2.1,fun f hf=>(ho.binder.all f hf).name,?_,fun f hf=>?_,hd.leavesN⟩
 .refine A6G (fun n hn=>?_) fun i hi=>?_
  .obtain ⟨f,hf,rfl⟩:=List.mem_map.1 hn
   exact(ho.binder.all f hf).name
  .simp only [List.length_map]at hi
   simpa using ho.binder.rise i hi
 .have:=hd.leaves f hf
  exact⟨this.2.2.1,this.2.1⟩
structure NextG(d:Dr)(x:Sr)(E E':List (List UInt8))(la:List UInt8)(l:List Le'):Prop where
 ok:DraftOk d
 no:d.no≠30
 ent:EntOf d E
 run:RunS x.scenes E x.scenes.length
 ren:RenI E x.scenes x.scenes.length
 few:(goneN E (ysTo E x.scenes x.scenes.length)).length+x.scenes.length<=300
 ent':EntOf ⟨d.no+1,x.title,ysTo E x.scenes x.scenes.length,goneN E (ysTo E x.scenes x.scenes.length),[]⟩ E'
 rel:RelOk (ysTo E x.scenes x.scenes.length) E' d.leaves
 leaves:relTo (ysTo E x.scenes x.scenes.length) E' d.leaves (d.no+1) ((runsL d.leaves).length+1)=some (la,l)
 many:l.length<=1500
def nextD(d:Dr)(x:Sr)(E:List (List UInt8))(l:List Le'):Dr:=⟨d.no+1,x.title,ysTo E x.scenes x.scenes.length,goneN E (ysTo E x.scenes x.scenes.length),l.map (fixL d.leaves)⟩
def BtS(d:Dr)(x:Sr)(r:AV):Prop:=(∃ e:Int,e≠0/\r=.tup [drZ,.int .i64 e])\/∃ E E' la l,NextG d x E E' la l/\r=.tup [drA (nextD d x E l),.int .i64 0]
theorem AsJ{E:List (List UInt8)}{ys:List Sc}(hE:E.Pairwise nLt):(goneN E ys).Pairwise nLt/\(∀ e∈goneN E ys,e∈E/\e ∉ nosL ys):=by
 refine⟨hE.sublist List.filter_sublist,fun e he=>?_⟩;have:=List.mem_filter.1 he;exact⟨this.1,by simpa using this.2⟩
theorem BfO{d:Dr}{x:Sr}{E:List (List UInt8)}(hd:DrIn d)(ho:DraftOk d)(hE:EntOf d E)(hx:∀ y∈x.scenes,SceneD y)(h:RenI E x.scenes x.scenes.length)(hf:(goneN E (ysTo E x.scenes x.scenes.length)).length+x.scenes.length<=300) :
  ∃ E',EntOf ⟨d.no+1,x.title,ysTo E x.scenes x.scenes.length,goneN E (ysTo E x.scenes x.scenes.length),[]⟩ E'/\RelOk (ysTo E x.scenes x.scenes.length) E' d.leaves:=by
 have hyl:=AhP E x.scenes x.scenes.length;have hsc:=AsI (Nat.le_refl _) hx h;have hn:=h.num;have hr:=h.rise;generalize ysTo E x.scenes x.scenes.length=ys at *;obtain⟨g1,g2⟩:=AsJ (ys:=ys) hE.sorted;have hnum:∀ y∈nosL ys,numberL y=true:=fun y hy=>by
  obtain⟨z,hz,rfl⟩:=List.mem_map.1 hy;exact hn z hz
 have hgn:∀ y∈goneN E ys,numberL y=true:=fun y hy=>hE.num y (g2 y hy).1
 obtain⟨E',p,s⟩:=A2H (goneN E ys) (nosL ys) hr g1 hnum hgn fun y hy=>(g2 y hy).2
 have hall:∀ y∈E',numberL y=true:=fun y hy=>by
  rcases List.mem_append.1 (p.mem_iff.1 hy)with hy|hy
  .exact hgn y hy
  .exact hnum y hy
 have hlen:=p.length_eq;simp only[List.length_append,nosL,List.length_map]at hlen;have hnl:(nosL ys).length=ys.length:=by simp[nosL]
 refine⟨E',⟨p,s,hall⟩,BtR hd ho hE ⟨hsc,hr.imp fun hlt e=>by subst e; exact AaH _ hlt,by omega,by omega,hall⟩ s fun e he=>p.mem_iff.2 ?_⟩
 by_cases hm:e∈nosL ys
 .exact List.mem_append.2 (.inr hm)
 .exact List.mem_append.2 (.inl (List.mem_filter.2 ⟨he,by simpa using hm⟩))
theorem A8T{St:Std}(hS:LibOk St)(d:Dr)(hd:DrIn d)(x:Sr)(hx:ScriptOk x)(hsc:∀ y∈x.scenes,SceneD y):PcH prog St 7 [drA d,srA x] (BtS d x):=by
 have hcd:=AdB hS d hd;have hck:=AfE hS x hx;have hno:∀ y∈x.scenes,y.no=[]\/numberL y.no=true:=fun y hy=>(hsc y hy).no
 unfold BtS;simp only[drA,srA]at hcd hck |-;refine zqIF func7 rfl fun h ρ w hg=>?_
 simp only[go_sem];refine AgC hg hcd rfl rfl rfl ?_;rintro _ ⟨n,rfl,hn⟩
 by_cases hn0:n=0
 .have ho:=hn.1 hn0
  subst hn0;have d0:((0:Int) != 0)=false:=by decide
  obtain⟨E,hE,hm⟩:=BmR hd ho.nums;have hf:=hm.few;have hren:=AqZ hS d E hE hd.goneN (by omega) x hx hno;simp only[drA,srA]at hren
  by_cases h30:d.no=30
  .have d30:(d.no==30)=true:=by simpa using h30
   refine zgF ?_;simp only[go_sem,d0];refine zqF hg (hck) ?_;simp only[go_sem,d0,d30];exact AbB [.cell 4 32,.tmp 5] rfl [_,_] ⟨by simp only[go_sem,sideIs,drZ],rfl,trivial⟩ ⟨.inl ⟨11,by decide,rfl⟩,rfl⟩
  .have d30:(d.no==30)=false:=by simpa using h30
   have hdno:=ho.no;refine zgF ?_;simp only[go_sem,d0];refine zqF hg (hck) ?_;simp only[go_sem,d0,d30];refine AgC hg hren rfl rfl rfl ?_;rintro _ (⟨e,he,rfl⟩|⟨rfl,hr1,hr2,hr3⟩)
   .have de:(e != 0)=true:=by simpa using he
    simp only[drZ];refine zgF ?_;simp only[go_sem,de];exact AbB [.cell 4 32,.tmp 5] rfl [_,_] ⟨by simp only[go_sem,sideIs,drZ],rfl,trivial⟩ ⟨.inl ⟨e,he,rfl⟩,rfl⟩
   .obtain ⟨E',hE',hR⟩:=BfO hd ho hE hsc hr2 hr3
    have hrel:=AzF hS d x (d.no+1) x.title _ _ E' hE' hR (by omega);simp only[relT,nwA,drA,srA,drZ]at hrel;simp only[drN];refine zgF ?_;simp only[go_sem,d0]
    repeat refine aqa ?_
    refine AwL hg hrel rfl rfl ?_;rintro r s' (⟨e,D,T,he,rfl,rfl⟩|⟨la,l,hl1,hl2,rfl,rfl⟩)
    .have de:(e != 0)=true:=by simpa using he
     simp only[relT,drA,srA,drZ,List.cons_append,List.nil_append];refine zgF ?_;simp only[go_sem,de];exact AbB [.cell 4 32,.tmp 5] rfl [_,_] ⟨by simp only[go_sem,sideIs,drZ],rfl,trivial⟩ ⟨.inl ⟨e,he,rfl⟩,rfl⟩
    .simp only [relT,nwA,drA,srA,drZ]
     refine zgF ?_;simp only[go_sem,d0];exact AbB [.cell 4 32,.tmp 5] rfl [_,_] ⟨by simp only[go_sem,sideIs,nextD,drA],rfl,trivial⟩ ⟨.inr ⟨E,E',la,l,⟨ho,h30,hE,hr1,hr2,hr3,hE',hR,hl1,hl2⟩,rfl⟩,rfl⟩
 .have d0:(n != 0)=true:=by simpa using hn0
  refine zgF ?_;simp only[go_sem,d0];exact AbB [.cell 4 32,.tmp 5] rfl [_,_] ⟨by simp only[go_sem,sideIs,drZ],rfl,trivial⟩ ⟨.inl ⟨n,hn0,rfl⟩,rfl⟩
end Go.Proofs.YtlldmgboedknfaaGreatDoor
namespace Go.Proofs.YtlldmgboedknfaaGreatDoor
open Go Go.Av Go.RowKit
section
variable {α β:Type}
def offP(g:α->List β)(ps:List α)(m:Nat):Nat:=((ps.take m).flatMap g).length
theorem AqD{g:α->List β}{ps:List α}{m:Nat}(h:m<ps.length):offP g ps (m+1)=offP g ps m+(g ps[m]).length:=by
 unfold offP;rw[List.take_succ_eq_append_getElem h,List.flatMap_append]; simp
theorem AdH{g:α->List β}{ps:List α}:∀ {j i:Nat},i<=j->j<=ps.length->offP g ps i<=offP g ps j
 | 0,i,h,_=>by
  have:i=0:=by omega
  subst this; exact Nat.le_refl _
 | j+1,i,h,hj=>by
  by_cases e:i=j+1
  .subst e; exact Nat.le_refl _
  .have:=AdH (g:=g) (ps:=ps) (show i<=j by omega) (by omega)
   have:=AqD (g:=g) (show j<ps.length by omega);omega
theorem offP_end(g:α->List β)(ps:List α):offP g ps ps.length=(ps.flatMap g).length:=by unfold offP; rw[List.take_length]
theorem AuZ{g:α->List β}{ps:List α}(hne:∀ q∈ps,g q≠[]){i j:Nat}(h:i<j)(hj:j<=ps.length):offP g ps i<offP g ps j:=by
 have h1:=AqD (g:=g) (show i<ps.length by omega);have h2:=List.length_pos_iff.2 (hne _ (List.getElem_mem (show i<ps.length by omega)));have h3:=AdH (g:=g) (show i+1<=j by omega) hj;omega
theorem BqU(g:α->List β):∀ (ps:List α)(j:Nat),j<(ps.flatMap g).length->∃ m,m<ps.length/\offP g ps m<=j/\j<offP g ps (m+1)
 | ps,j,h=>by
  have key:∀ n,n<=ps.length->j<offP g ps n->∃ m,m<n/\offP g ps m<=j/\j<offP g ps (m+1):=by
   intro n
   induction n with
   | zero=>intro _ h; simp[offP]at h
   | succ n ih =>
    intro hn hj
    by_cases h1:j<offP g ps n
    .obtain ⟨m,a,b⟩:=ih (by omega) h1
     exact⟨m,by omega,b⟩
    .exact ⟨n,by omega,by omega,hj⟩
  exact key ps.length (Nat.le_refl _) (by rw[offP_end]; exact h)
theorem AvA{g:α->List β}{ps:List α}{m:Nat}(h:m<ps.length):((ps.flatMap g).take (offP g ps (m+1))).drop (offP g ps m)=g ps[m]:=by
 have e:ps.flatMap g=((ps.take m).flatMap g++g ps[m])++(ps.drop (m+1)).flatMap g:=by
  conv=>lhs; rw[<- List.take_append_drop (m+1) ps,List.flatMap_append,List.take_succ_eq_append_getElem h,List.flatMap_append]
  simp
 have h1:offP g ps (m+1)=((ps.take m).flatMap g++g ps[m]).length:=by rw[AqD h,List.length_append]; rfl
 rw[e,h1,List.take_left];exact List.drop_left
theorem AvB{g:α->List β}{ps:List α}{m j:Nat}(h:m<ps.length)(h1:offP g ps m<=j)(h2:j<offP g ps (m+1)):(ps.flatMap g)[j]? = (g ps[m])[j-offP g ps m]?:=by
 rw[<- AvA (g:=g) h,List.getElem?_drop,List.getElem?_take,show offP g ps m+(j-offP g ps m)=j by omega,if_pos h2]
end
theorem BfP(pg:List (List Ln))(fi:List (List UInt8))(h:fi.length=pg.length):(List.range pg.length).map (fun k=>(pg.getD k [],fi.getD k []))=pg.zip fi:=by
 apply List.ext_getElem
 .simp; omega
 .intro i h1 h2
  simp at h1
  simp[List.getD,h1,show i<fi.length by omega]
def pr(f:Le'):List Ln×List UInt8:=(f.lines,f.first)
theorem BqV(no:Int)(g fi:List (List UInt8))(pg:List (List Ln))(h:fi.length=pg.length):(mkLv no g fi pg pg.length).map pr=pg.zip fi:=by
 unfold mkLv;rw[List.map_map];exact BfP pg fi h
theorem BfQ{ys:List Sc}{E:List (List UInt8)}{lv:List Le'}{no:Int}:∀ (k:Nat)(s:List UInt8×List Le'),relTo ys E lv no k=some s->s.2.map pr=(List.range k).flatMap fun k=>pfL ys (sgI E lv k)
 | 0,s,h=>by
  simp only[relTo,Option.some.injEq]at h;subst h; rfl
 | k+1,s,h=>by
  simp only[relTo]at h
  cases hq:relTo ys E lv no k with
  | none=>rw[hq]at h; simp at h
  | some t =>
   rw[hq]at h;have ih:=BfQ k t hq;simp only[stepR]at h;rw[List.range_succ,List.flatMap_append,<- ih];simp only[List.flatMap_cons,List.flatMap_nil,List.append_nil]
   split at h
   .rename_i he
    simp only[Option.some.injEq]at h;subst h;have:(E.take (stI E lv k)).drop (stI E lv k)=[]:=by
     apply List.drop_eq_nil_of_le; simp; omega
    have:pfL ys (sgI E lv k)=[]:=by
     unfold sgI;rw[<- he,this]
     simp[pfL,entsB,A2T]
    rw[this,List.append_nil]
   .split at h
    .simp at h
    .simp only [Option.some.injEq]at h
     subst h;simp only[List.map_append];rw[BqV _ _ _ _ (by simp only[firstsI,pgI',List.length_map,firsts_pages])];rfl
theorem AzI{ys:List Sc}{E:List (List UInt8)}{lv:List Le'}(h:RelOk ys E lv):∀ i,(List.range i).flatMap (fun k=>sgI E lv k)=E.take (stI E lv i)
 | 0=>by simp[stI]
 | i+1=>by
  rw[List.range_succ,List.flatMap_append,AzI h i];simp only[List.flatMap_cons,List.flatMap_nil,List.append_nil];rw[sgI,<- BlB E (BfF h).1]
theorem BfR{ys:List Sc}{E:List (List UInt8)}{lv:List Le'}{no:Int}(h:RelOk ys E lv){la:List UInt8}{l:List Le'}(hl:relTo ys E lv no ((runsL lv).length+1)=some (la,l)) :
  ∃ ps:List (List (List UInt8)),ps.flatten=E/\l.map pr=ps.flatMap (pfL ys)/\∀ q∈ps,Part ys q:=by
 have h1:=BfQ _ _ hl;have h2:=AzI h ((runsL lv).length+1);rw[stI_end,List.take_length]at h2;simp only at h1;rw[h1]
 suffices H:∀ n,∃ ps:List (List (List UInt8)),ps.flatten=(List.range n).flatMap (fun k=>sgI E lv k)/\(List.range n).flatMap (fun k=>pfL ys (sgI E lv k))=ps.flatMap (pfL ys)/\∀ q∈ps,Part ys q by
  obtain⟨ps,a1,a2,a3⟩:=H ((runsL lv).length+1);exact⟨ps,by rw[a1,h2],a2,a3⟩
 intro n
 induction n with
 | zero=>exact⟨[],rfl,rfl,by simp⟩
 | succ n ih =>
  obtain⟨ps,a1,a2,a3⟩:=ih;obtain⟨qs,b1,b2,b3⟩:=AuY _ (sgI E lv n) (Nat.le_refl _) (ApU h n);refine⟨ps++qs,?_,?_,fun q hq=>?_⟩
  .rw [List.flatten_append,a1,b1,List.range_succ,List.flatMap_append]; simp
  .rw [List.flatMap_append,<- a2,<- b2,List.range_succ,List.flatMap_append]; simp
  .rcases List.mem_append.1 hq with hq|hq
   .exact a3 q hq
   .exact b3 q hq
theorem BfS{E:List (List UInt8)}(hE:E.Pairwise nLt){i:Nat}(h:i<E.length):ixN E E[i]=i:=by
 obtain⟨h1,h2,_⟩:=ApG (List.getElem_mem h)
 rcases Nat.lt_trichotomy (ixN E E[i]) i with h3|h3|h3
 .have:=List.pairwise_iff_getElem.1 hE _ _ h1 h h3
  rw[h2]at this; exact absurd this (AaH _)
 .exact h3
 .have:=List.pairwise_iff_getElem.1 hE _ _ h h1 h3
  rw[h2]at this; exact absurd this (AaH _)
theorem pf_fst(xs:List Sc)(nos:List (List UInt8)):(pfL xs nos).map (·.1)=(layL (entsB xs nos)).pages:=by
 unfold pfL;rw[List.map_fst_zip];simp only[firstsI,List.length_map,firsts_pages]; omega
theorem lv_ok{d:Dr}{E:List (List UInt8)}(hE:E.Pairwise nLt)(hn:∀ e∈E,numberL e=true){ps:List (List (List UInt8))}(h1:ps.flatten=E)(h2:d.leaves.map pr=ps.flatMap (pfL d.scenes))(h3:∀ q∈ps,Part d.scenes q):LvOk d E:=by
 have hfl:ps.flatMap id=E:=by rw[<- h1]; simp[List.flatMap]
 have hpn:∀ q∈ps,pfL d.scenes q≠[]:=fun q hq e=>by
  obtain⟨p,t,hp,_⟩:=(h3 q hq).head;rw[e]at hp; simp at hp
 have hqn:∀ q∈ps,(id q:List (List UInt8))≠[]:=fun q hq=>(h3 q hq).ne
 have hlen:d.leaves.length=(ps.flatMap (pfL d.scenes)).length:=by rw[<- h2,List.length_map]
 have hEl:E.length=(ps.flatMap id).length:=by rw[hfl]
 have hhead:∀ m,(hm:m<ps.length)->∃ he:offP id ps m<E.length,E[offP id ps m]=ps[m].getD 0 []:=fun m hm=>by
  have hlt:=AuZ hqn (show m<m+1 by omega) hm;have hle:=AdH (g:=id) (show m+1<=ps.length by omega) (Nat.le_refl _);rw[offP_end]at hle;have he:offP id ps m<E.length:=by omega
  refine⟨he,?_⟩;have hg:=AvB (g:=id) hm (Nat.le_refl _) hlt;rw[hfl,List.getElem?_eq_getElem he,Nat.sub_self]at hg;have hne:=List.length_pos_iff.2 (h3 _ (List.getElem_mem hm)).ne;simp only[id]at hg;rw[List.getElem?_eq_getElem hne,Option.some.injEq]at hg;rw[hg]; simp[List.getD,hne]
 have hfst:∀ j,j<d.leaves.length->(d.leaves.map pr)[j]? = some (pr (d.leaves.getD j le0)):=fun j hj=>by simp[List.getD,hj]
 have hanch:∀ m,(hm:m<ps.length)->offP (pfL d.scenes) ps m<d.leaves.length/\fst d.leaves (offP (pfL d.scenes) ps m)=ps[m].getD 0 []:=fun m hm=>by
  have hlt:=AuZ hpn (show m<m+1 by omega) hm;have hle:=AdH (g:=pfL d.scenes) (show m+1<=ps.length by omega) (Nat.le_refl _);rw[offP_end]at hle;have hj:offP (pfL d.scenes) ps m<d.leaves.length:=by omega
  refine⟨hj,?_⟩;have hg:=AvB (g:=pfL d.scenes) hm (Nat.le_refl _) hlt;rw[<- h2,hfst _ hj,Nat.sub_self]at hg;obtain⟨p,t,hp,_⟩:=(h3 _ (List.getElem_mem hm)).head;rw[hp]at hg;simp only[List.getElem?_cons_zero,Option.some.injEq,pr,Prod.mk.injEq]at hg;exact hg.2
 have hback:∀ j,j<d.leaves.length->fst d.leaves j≠[]->∃ m,∃ hm:m<ps.length,j=offP (pfL d.scenes) ps m:=fun j hj hne=>by
  obtain⟨m,hm,a1,a2⟩:=BqU (pfL d.scenes) ps j (by omega);refine⟨m,hm,?_⟩;have hg:=AvB (g:=pfL d.scenes) hm a1 a2;rw[<- h2,hfst _ hj]at hg;obtain⟨p,t,hp,ht⟩:=(h3 _ (List.getElem_mem hm)).head;rw[hp]at hg
  by_cases e:j=offP (pfL d.scenes) ps m
  .exact e
  .exfalso
   obtain⟨q,hq⟩:∃ q,j-offP (pfL d.scenes) ps m=q+1:=⟨j-offP (pfL d.scenes) ps m-1,by omega⟩;rw[hq,List.getElem?_cons_succ]at hg;have hmem:=List.mem_of_getElem? hg.symm;exact hne (ht _ hmem)
 refine⟨?_,?_,?_,?_,?_⟩
 .constructor
  .intro e
   cases ps with
   | nil=>simpa using h2
   | cons q r =>
    have:=(h3 q (by simp)).ne;rw[e]at h1
    simp at h1
    exact absurd h1.1 this
  .intro e
   cases ps with
   | nil=>rw[<- h1]; rfl
   | cons q r =>
    rw[e]at h2
    simp at h2
    exact absurd h2.1 (hpn q (by simp))
 .intro hne
  cases ps with
  | nil=>rw[<- h1]at hne; exact absurd rfl hne
  | cons q r =>
   have:=(hanch 0 (by simp)).2;have h0:offP (pfL d.scenes) (q::r) 0=0:=by simp[offP]
   rw[h0]at this;rw[this];obtain⟨he,he2⟩:=hhead 0 (by simp);have h00:offP id (q::r) 0=0:=by simp[offP]
   simp only[h00]at he he2;rw[<- he2]; simp[List.getD,he]
 .intro j hj hne
  obtain⟨m,hm,rfl⟩:=hback j hj hne;rw[(hanch m hm).2];obtain⟨he,he2⟩:=hhead m hm;rw[<- he2]; exact List.getElem_mem he
 .intro i j hij hj hi0 hj0
  obtain⟨m,hm,rfl⟩:=hback i (by omega) hi0;obtain⟨m',hm',rfl⟩:=hback j hj hj0;rw[(hanch m hm).2,(hanch m' hm').2];obtain⟨he,he2⟩:=hhead m hm;obtain⟨he',he2'⟩:=hhead m' hm';rw[<- he2,<- he2'];have hmm:m<m':=by
   by_cases e:m<m'
   .exact e
   .have:=AdH (g:=pfL d.scenes) (ps:=ps) (show m'<=m by omega) (by omega)
    omega
  exact List.pairwise_iff_getElem.1 hE _ _ he he' (AuZ hqn hmm (by omega))
 .intro k hk
  have hr:=(AcQ d.leaves).one k hk;have hnx:=fun h=>AyK hk h
  generalize rat (runsL d.leaves) k=r at *;obtain⟨r1,r2⟩:=r;simp only at hr hnx |-;obtain⟨hr1,hr2,hr3,hr4⟩:=hr;obtain⟨m,hm,e1⟩:=hback r1 (by omega) hr3;have hlt:=AuZ hpn (show m<m+1 by omega) hm;have hle:=AdH (g:=pfL d.scenes) (show m+1<=ps.length by omega) (Nat.le_refl _);rw[offP_end]at hle;have e2:r2=offP (pfL d.scenes) ps (m+1):=by
   have up:r2<=offP (pfL d.scenes) ps (m+1):=by
    by_cases hm1:m+1<ps.length
    .have ha:=hanch (m+1) hm1
     by_cases hc:r2<=offP (pfL d.scenes) ps (m+1)
     .exact hc
     .have:=hr4 _ (by omega) (show offP (pfL d.scenes) ps (m+1)<r2 by omega)
      rw[ha.2]at this;obtain⟨he,he2⟩:=hhead (m+1) hm1;exact absurd (he2▸this) (AgR (hn _ (List.getElem_mem he)))
    .have:m+1=ps.length:=by omega
     rw[this,offP_end]; omega
   by_cases hlt2:r2<d.leaves.length
   .obtain ⟨m',hm',e3⟩:=hback r2 hlt2 (hnx hlt2)
    have:m<m':=by
     by_cases e:m<m'
     .exact e
     .have:=AdH (g:=pfL d.scenes) (ps:=ps) (show m'<=m by omega) (by omega)
      omega
    have:=AdH (g:=pfL d.scenes) (ps:=ps) (show m+1<=m' by omega) (by omega);omega
   .omega
  have hx1:ixN E (fst d.leaves r1)=offP id ps m:=by
   obtain⟨he,he2⟩:=hhead m hm;rw[e1,(hanch m hm).2,<- he2];exact BfS hE he
  have hx2:(if r2<d.leaves.length then ixN E (fst d.leaves r2) else E.length)=offP id ps (m+1):=by
   split
   .rename_i h
    have hm1:m+1<ps.length:=by
     by_cases hc:m+1<ps.length
     .exact hc
     .have:m+1=ps.length:=by omega
      rw[e2,this,offP_end]at h; omega
    obtain⟨he,he2⟩:=hhead (m+1) hm1;rw[e2,(hanch (m+1) hm1).2,<- he2];exact BfS hE he
   .rename_i h
    have:m+1=ps.length:=by
     by_cases hc:m+1<ps.length
     .have:=(hanch (m+1) hc).1; omega
     .omega
    rw[this,offP_end,hfl]
  unfold segE;simp only;rw[hx1,hx2];have hsE:=AvA (g:=id) hm;rw[hfl]at hsE;rw[hsE];have hsL:=AvA (g:=pfL d.scenes) hm;rw[<- h2,<- e1,<- e2,<- List.map_take,<- List.map_drop]at hsL;have:=congrArg (List.map (·.1)) hsL;rw[pf_fst,List.map_map]at this;exact this.symm
end Go.Proofs.YtlldmgboedknfaaGreatDoor
namespace Go.Proofs.YtlldmgboedknfaaGreatDoor
open Go Go.Av Go.RowKit
def fstE(g:List (List UInt8)):List UInt8:=(endsL (g.getD 0 [])).1
def lstE(g:List (List UInt8)):List UInt8:=(endsL (g.getD (g.length-1) [])).2
theorem AqE{a b:List (List UInt8)}(h:a≠[]):fstE (a++b)=fstE a:=by
 cases a with
 | nil=>exact absurd rfl h
 | cons x r=>rfl
theorem getD_last(l:List (List UInt8))(x:List UInt8):(l++[x]).getD ((l++[x]).length-1) []=x:=by simp
theorem AsK{l:List (List UInt8)}{x:List UInt8}(hh:∀ n∈l,leafNameL n=true)(h:AeT l)(hx:l=[]\/nLt (lstE l) (endsL x).1):AeT (l++[x]):=by
 unfold AeT at h |-;refine List.pairwise_append.2 ⟨h,by simp,fun a ha b hb=>?_⟩;rw[List.mem_singleton.1 hb];have hne:l≠[]:=fun e=>by subst e; simp at ha
 have hx:=hx.resolve_left hne;have hl:=List.length_pos_iff.2 hne;obtain⟨j,hj,rfl⟩:=List.mem_iff_getElem.1 ha;have hlt:l.length-1<l.length:=by omega
 have e:lstE l=(endsL l[l.length-1]).2:=by simp[lstE,List.getD,hlt]
 rw[e]at hx
 by_cases e2:j=l.length-1
 .subst e2; exact hx
 .have h1:=List.pairwise_iff_getElem.1 h j (l.length-1) hj hlt (by omega)
  rcases(AaJ (hh l[l.length-1] (List.getElem_mem _))).2.2 with e3|e3
  .rw [e3]at h1; exact AaF h1 hx
  .exact AaF h1 (AaF e3 hx)
theorem AqF{upper last:List UInt8}(hl:last=[]\/numberL last=true):∀ (n:Nat)(out g:List (List UInt8)),(∀ x∈out,leafNameL x=true)->AeT out->(out≠[]->last=[]\/nLt last (fstE out))->(out≠[]->upper=[]\/nLt (lstE out) upper)->nameUp upper last n out=some g->g≠[] ->
  AeT g/\(last=[]\/nLt last (fstE g))/\(upper=[]\/nLt (lstE g) upper)
 | 0,out,g,hh,hr,h1,h2,h,hne=>by
  simp only[nameUp,Option.some.injEq]at h;subst h; exact⟨hr,h1 hne,h2 hne⟩
 | n+1,out,g,hh,hr,h1,h2,h,hne=>by
  simp only[nameUp]at h
  split at h
  .simp at h
  .rename_i hb
   have hs:=AeM (AyX hh hl) hb;have he:=BkU hs.1;refine AqF hl n _ g (fun x hx=>?_) (AsK hh hr ?_) (fun _=>?_) (fun _=>?_) h hne
   .rcases List.mem_append.1 hx with hx|hx
    .exact hh x hx
    .rw [List.mem_singleton.1 hx]; exact AgQ hs.1
   .by_cases h0:out=[]
    .exact .inl h0
    .right
     have e:AeS out last=lstE out:=if_neg h0;rw[he];simp only
     rcases hs.2.1 with h3|h3
     .exfalso
      rw[e]at h3;have hp:=List.length_pos_iff.2 h0;exact AgR (AaJ (hh _ (AcH (show out.length-1<out.length by omega)))).2.1 h3
     .rw [e]at h3 |-; exact h3
   .by_cases h0:out=[]
    .have e:AeS out last=last:=if_pos h0
     subst h0
     rcases hs.2.1 with h3|h3
     .left; rw[<- e]; exact h3
     .right
      simp only[fstE,List.nil_append,List.getD_cons_zero,he];rw[e]at h3 |-;exact h3
    .rw [AqE h0]; exact h1 h0
   .rw [lstE,getD_last,he]
    exact hs.2.2
theorem A8U{had:List (List UInt8)}{many:Nat}{last upper:List UInt8}{g:List (List UInt8)}(h0:1<=many)(hh:∀ n∈had,leafNameL n=true)(hr:AeT had)(hl:last=[]\/numberL last=true)(h1:had≠[]->last=[]\/nLt last (fstE had))(h2:had≠[]->upper=[]\/nLt (lstE had) upper)(hg:AgS had many last upper=some g) :
  AeT g/\(last=[]\/nLt last (fstE g))/\(upper=[]\/nLt (lstE g) upper):=by
 have hlen:=(ApT h0 hh hr hl hg).1;have h0':=h0;have hgne:g≠[]:=fun e=>by subst e; simp at hlen; omega
 unfold AgS at hg
 split at hg
 .rename_i hlt
  simp only[Option.some.injEq]at hg;subst hg;have hne:had≠[]:=fun e=>by subst e; simp at hlt
  have e1:=AaJ (hh _ (AcH (show many-1<had.length by omega)));have hj:endsL (AuT had many)=((endsL (had.getD (many-1) [])).1,lstE had):=BkV e1.1 _;have hset:(had.take many).set (many-1) (AuT had many)=had.take (many-1)++[AuT had many]:=by
   obtain⟨m,rfl⟩:∃ m,many=m+1:=⟨many-1,by omega⟩;rw[List.take_succ_eq_append_getElem (by omega),Nat.add_sub_cancel,List.set_append_right _ _ (by simp; omega)]
   simp[show min m had.length=m by omega]
  rw[hset];have htn:∀ n∈had.take (many-1),leafNameL n=true:=fun n hn=>hh n (List.mem_of_mem_take hn)
  refine⟨AsK htn (hr.sublist (List.take_sublist _ _)) ?_,?_,?_⟩
  .by_cases hm:many=1
   .left; subst hm; simp
   .right
    have hl1:(had.take (many-1)).length=many-1:=by simp; omega
    have e2:lstE (had.take (many-1))=(endsL (had.getD (many-2) [])).2:=by
     simp only[lstE,hl1]
     congr 2
     simp[List.getD,List.getElem?_take,show many-1-1<many-1 by omega,show many-2=many-1-1 by omega]
    rw[e2,hj];have:=List.pairwise_iff_getElem.1 hr (many-2) (many-1) (by omega) (by omega) (by omega)
    simpa[List.getD,show many-2<had.length by omega,show many-1<had.length by omega]using this
  .by_cases hm:many=1
   .subst hm
    have:fstE (had.take (1-1)++[AuT had 1])=fstE had:=by simp[fstE,hj]
    rw[this]; exact h1 hne
   .have hp:had.take (many-1)≠[]:=fun e=>by
     have h5:=congrArg List.length e;simp only[List.length_take,List.length_nil]at h5;omega
    have h01:0<many-1:=by omega
    have:fstE (had.take (many-1))=fstE had:=by simp[fstE,List.getD,List.getElem?_take,h01]
    rw[AqE hp,this]; exact h1 hne
  .rw [lstE,getD_last,hj]; exact h2 hne
 .exact AqF hl _ had g hh hr h1 h2 hg hgne
structure NmI(lv:List Le')(k:Nat)(s:List UInt8×List Le'):Prop where
 rise:AeT (s.2.map (·.name))
 last:(s.2=[]/\s.1=[])\/(s.2≠[]/\s.1=lstE (s.2.map (·.name)))
 bound:s.1=[]\/k=0\/upI lv (k-1)=[]\/nLt s.1 (upI lv (k-1))
theorem BmW{lv:List Le'}{k:Nat}(hk:k<(runsL lv).length):upI lv k=(endsL (lv.getD (rat (runsL lv) k).1 le0).name).1:=if_pos hk
theorem AzJ{lv:List Le'}{i:Nat}(h:i<lv.length):(lv.map (·.name)).getD i []=(lv.getD i le0).name:=by simp[List.getD,h]
theorem AvC{ys:List Sc}{E:List (List UInt8)}{lv:List Le'}(h:RelOk ys E lv){k:Nat}(hk:k<(runsL lv).length):nmI lv (k+1)≠[]/\fstE (nmI lv (k+1))=upI lv k/\(upI lv (k+1)=[]\/nLt (lstE (nmI lv (k+1))) (upI lv (k+1))):=by
 have hr:=(AcQ lv).one k hk;have hadj:=(AcQ lv).adj k;have hup:=BmW hk;have hnm:nmI lv (k+1)=((lv.map (·.name)).take (rat (runsL lv) k).2).drop (rat (runsL lv) k).1:=by
  unfold nmI;rw[if_neg (by omega),Nat.add_sub_cancel,List.map_drop,List.map_take]
 have hlen:(nmI lv (k+1)).length=(rat (runsL lv) k).2-(rat (runsL lv) k).1:=by rw[hnm]; simp; omega
 refine⟨fun e=>by rw[e]at hlen; simp at hlen; omega,?_,?_⟩
 .rw [hup,fstE,<- AzJ (by omega),hnm]
  congr 2
  simp[List.getD,List.getElem?_drop,List.getElem?_take,show(rat (runsL lv) k).1<(rat (runsL lv) k).2 by omega]
 .by_cases hk1:k+1<(runsL lv).length
  .right
   have hr1:=(AcQ lv).one (k+1) hk1;rw[BmW hk1,<- AzJ (by omega),<- hadj hk1];have e:lstE (nmI lv (k+1))=(endsL ((lv.map (·.name)).getD ((rat (runsL lv) k).2-1) [])).2:=by
    unfold lstE;rw[hlen,hnm]
    congr 2
    simp only[List.getD_eq_getElem?_getD,List.getElem?_drop,List.getElem?_take];rw[if_pos (by omega),show(rat (runsL lv) k).1+((rat (runsL lv) k).2-(rat (runsL lv) k).1-1)=(rat (runsL lv) k).2-1 by omega]
   rw[e];have h2:(rat (runsL lv) k).2<lv.length:=by have:=hadj hk1; omega
   have:=List.pairwise_iff_getElem.1 h.riseN ((rat (runsL lv) k).2-1) (rat (runsL lv) k).2 (by simp; omega) (by simp; omega) (by omega)
   simpa[List.getD,h2,show(rat (runsL lv) k).2-1<lv.length by omega]using this
  .left
   unfold upI;rw[if_neg hk1]
theorem AzK{ys:List Sc}{E:List (List UInt8)}{lv:List Le'}{no:Int}(h:RelOk ys E lv):∀ (k:Nat)(s:List UInt8×List Le'),k<=(runsL lv).length+1->relTo ys E lv no k=some s->NmI lv k s/\(∀ f∈s.2,leafNameL f.name=true)/\(s.1=[]\/numberL s.1=true)
 | 0,s,_,hs=>by
  simp only[relTo,Option.some.injEq]at hs;subst hs;exact⟨⟨by simp[AeT],.inl ⟨rfl,rfl⟩,.inl rfl⟩,by simp,.inl rfl⟩
 | k+1,s,hk,hs=>by
  simp only[relTo]at hs
  cases hq:relTo ys E lv no k with
  | none=>rw[hq]at hs; simp at hs
  | some t =>
   rw[hq]at hs;obtain⟨hN,hn,hl⟩:=AzK h k t (by omega) hq;simp only[stepR]at hs;have hlow:nmI lv k≠[]->t.1=[]\/nLt t.1 (fstE (nmI lv k)):=fun hne=>by
    rcases hN.bound with b|b|b|b
    .exact .inl b
    .subst b; exact absurd rfl hne
    .obtain ⟨m,rfl⟩:∃ m,k=m+1:=⟨k-1,by
      have:k≠0:=fun e=>by subst e; exact hne rfl
      omega⟩
     have:=(AvC h (k:=m) (by omega)).2.1;rw[Nat.add_sub_cancel]at b;rw[b]at this;have hp:=List.length_pos_iff.2 hne;exact absurd this (AgR (AaJ ((A6B h (m+1)).1 _ (AcH hp)).1).1)
    .obtain ⟨m,rfl⟩:∃ m,k=m+1:=⟨k-1,by
      have:k≠0:=fun e=>by subst e; exact hne rfl
      omega⟩
     have:=(AvC h (k:=m) (by omega)).2.1;rw[Nat.add_sub_cancel]at b;rw[<- this]at b;exact .inr b
   have hhigh:nmI lv k≠[]->upI lv k=[]\/nLt (lstE (nmI lv k)) (upI lv k):=fun hne=>by
    obtain⟨m,rfl⟩:∃ m,k=m+1:=⟨k-1,by
     have:k≠0:=fun e=>by subst e; exact hne rfl
     omega⟩
    exact(AvC h (k:=m) (by omega)).2.2
   split at hs
   .simp only [Option.some.injEq]at hs
    subst hs;refine⟨⟨hN.rise,hN.last,?_⟩,hn,hl⟩;rw[Nat.add_sub_cancel]
    by_cases h0:k=0
    .rcases hN.last with⟨_,e⟩|⟨hne,_⟩
     .exact .inl e
     .subst h0
      simp only[relTo,Option.some.injEq]at hq;rw[<- hq]at hne; exact absurd rfl hne
    .obtain ⟨m,rfl⟩:∃ m,k=m+1:=⟨k-1,by omega⟩
     obtain⟨n1,n2,n3⟩:=AvC h (k:=m) (by omega)
     rcases hlow n1 with b|b
     .exact .inl b
     .rcases n3 with b3|b3
      .exact .inr (.inr (.inl b3))
      .refine .inr (.inr (.inr ?_))
       have hp:=List.length_pos_iff.2 n1;have hok:=A6B h (m+1);have hfl:fstE (nmI lv (m+1))=lstE (nmI lv (m+1))\/nLt (fstE (nmI lv (m+1))) (lstE (nmI lv (m+1))):=by
        by_cases e1:(nmI lv (m+1)).length=1
        .have:=(AaJ (hok.1 _ (AcH hp)).1).2.2
         simpa[fstE,lstE,e1]using this
        .exact .inr (BfE (fun n hn=>(hok.1 n hn).1) hok.2.1 (by omega) (by omega))
       rcases hfl with e|e
       .rw [e]at b; exact AaF b b3
       .exact AaF b (AaF e b3)
   .split at hs
    .simp at hs
    .rename_i hst g hg
     simp only[Option.some.injEq]at hs;subst hs;obtain⟨st1,st2⟩:=BfF h (k:=k);have hsne:sgI E lv k≠[]:=fun e=>by
      have:=congrArg List.length e;simp only[sgI,List.length_drop,List.length_take,List.length_nil]at this;omega
     have hP:=A2S (ApU h k) hsne
     change 1<=(pgI' ys E lv k).length at hP
     have hok:=A6B h k;have hgl:=ApT hP (fun n hn=>(hok.1 n hn).1) hok.2.1 hl hg;obtain⟨r1,r2,r3⟩:=A8U hP (fun n hn=>(hok.1 n hn).1) hok.2.1 hl hlow hhigh hg;have hmap:(mkLv no g (firstsI ys (sgI E lv k)) (pgI' ys E lv k) (pgI' ys E lv k).length).map (·.name)=g:=by
      unfold mkLv;rw[List.map_map,<- hgl.1];apply List.ext_getElem
      .simp
      .intro i h1 h2
       simp at h1
       simp[List.getD,h1]
     have hgne:g≠[]:=fun e=>by subst e; simp at hgl; omega
     have hgp:=List.length_pos_iff.2 hgne;have hlst:(endsL (g.getD (g.length-1) [])).2=lstE (t.2.map (·.name)++g):=by
      unfold lstE
      congr 2
      simp only[List.getD_eq_getElem?_getD,List.length_append];rw[List.getElem?_append_right (by omega),show(t.2.map (fun f=>f.name)).length+g.length-1-(t.2.map (fun f=>f.name)).length=g.length-1 by omega]
     refine⟨⟨?_,.inr ⟨?_,?_⟩,?_⟩,fun f hf=>?_,.inr (AaJ (hgl.2 _ (AcH (by omega)))).2.1⟩
     .simp only [List.map_append,hmap]
      unfold AeT;refine List.pairwise_append.2 ⟨hN.rise,r1,fun a ha b hb=>?_⟩;have hne:t.2≠[]:=fun e=>by rw[e]at ha; simp at ha
      have hlast:t.1=lstE (t.2.map (·.name)):=by
       rcases hN.last with⟨e,_⟩|⟨_,e⟩
       .exact absurd e hne
       .exact e
      have hmp:t.2.map (·.name)≠[]:=by simpa using hne
      have hp:=List.length_pos_iff.2 hmp;have hall:∀ n∈t.2.map (·.name),leafNameL n=true:=fun n hn'=>by
       obtain⟨f,hf,rfl⟩:=List.mem_map.1 hn';exact hn f hf
      have h3:nLt t.1 (fstE g):=r2.resolve_left fun e=>by
       rw[hlast]at e;exact AgR (AaJ (hall _ (AcH (show(t.2.map (·.name)).length-1<_ by omega)))).2.1 e
      have ha2:(endsL a).2=t.1\/nLt (endsL a).2 t.1:=by
       obtain⟨j,hj,rfl⟩:=List.mem_iff_getElem.1 ha;rw[hlast];have hlt:(t.2.map (·.name)).length-1<(t.2.map (·.name)).length:=by omega
       have e:lstE (t.2.map (·.name))=(endsL ((t.2.map (·.name))[(t.2.map (·.name)).length-1])).2:=by
        simp only[lstE,List.getD_eq_getElem?_getD,List.getElem?_eq_getElem hlt,Option.getD_some]
       rw[e]
       by_cases e2:j=(t.2.map (·.name)).length-1
       .left; subst e2; rfl
       .right
        have h4:=List.pairwise_iff_getElem.1 hN.rise j ((t.2.map (·.name)).length-1) hj hlt (by omega)
        rcases(AaJ (hall _ (List.getElem_mem hlt))).2.2 with e5|e5
        .rw [e5]at h4; exact h4
        .exact AaF h4 e5
      have hb2:fstE g=(endsL b).1\/nLt (fstE g) (endsL b).1:=by
       obtain⟨j,hj,rfl⟩:=List.mem_iff_getElem.1 hb;have e:fstE g=(endsL g[0]).1:=by simp[fstE,List.getD,hgp]
       rw[e]
       by_cases e2:j=0
       .left; subst e2; rfl
       .right
        have h4:=List.pairwise_iff_getElem.1 r1 0 j hgp hj (by omega)
        rcases(AaJ (hgl.2 _ (List.getElem_mem hgp))).2.2 with e5|e5
        .rw [e5]; exact h4
        .exact AaF e5 h4
      have hab:nLt (endsL a).2 (fstE g):=by
       rcases ha2 with e|e
       .rw [e]; exact h3
       .exact AaF e h3
      rcases hb2 with e|e
      .rw [<- e]; exact hab
      .exact AaF hab e
     .intro e
      have:=congrArg List.length e;simp only[List.length_append,mkLv_len,List.length_nil]at this;omega
     .simp only [List.map_append,hmap]
      exact hlst
     .rw [Nat.add_sub_cancel]
      rcases r3 with e|e
      .exact .inr (.inr (.inl e))
      .exact .inr (.inr (.inr e))
     .rcases List.mem_append.1 hf with hf|hf
      .exact hn f hf
      .have:f.name∈g:=by rw[<- hmap]; exact List.mem_map.2 ⟨f,hf,rfl⟩
       exact hgl.2 _ this
