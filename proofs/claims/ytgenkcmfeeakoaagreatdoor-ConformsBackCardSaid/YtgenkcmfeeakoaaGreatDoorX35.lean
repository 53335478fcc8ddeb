/- releafed: the leaves of a new draft. -/
import Derived.Test.YtgenkcmfeeakoaaGreatDoorX34
set_option maxRecDepth 100000
set_option linter.all false
namespace Go.Proofs.YtgenkcmfeeakoaaGreatDoor
open Av RowKit
def AeP(l:List LU):Prop:=l.Pairwise fun a b=>nLt (endsL a).2 (endsL b).1
theorem AdS{l:List LU}{i:Nat}(h:i<l.length):l.getD i []∈l:=by grind
theorem AqA{out:List LU}{last:LU}(hh:∀ n∈out,leafNameL n=true)(hl:last=[]\/numberL last=true):lastN out last=[]\/numberL (lastN out last)=true:=by
 grind[lastN,List.length_pos_iff,ends_num]
theorem AzM{upper last:LU}(hl:last=[]\/numberL last=true):∀ (n:Nat)(out g:List LU),(∀ x∈out,leafNameL x=true)->AhJ upper last n out=some g->g.length=out.length+n/\∀ x∈g,leafNameL x=true
 | 0,out,g,hh,h=>by
  grind[AhJ]
 | n+1,out,g,hh,h=>by
  simp only[AhJ]at h
  split at h
  .simp at h
  .rename_i hne
   have hs:=AdD (AqA hh hl) hne;obtain⟨a1,a2⟩:=AzM hl n _ g (fun x hx=>by
    rcases List.mem_append.1 hx with hx|hx
    .exact hh x hx
    .rw [List.mem_singleton.1 hx]; exact leafName_one hs.1) h
   exact⟨by simp at a1; omega,a2⟩
theorem BiK{had:List LU}(hh:∀ n∈had,leafNameL n=true)(hr:AeP had){a b:Nat}(hab:a<b)(hb:b<had.length):nLt (endsL (had.getD a [])).1 (endsL (had.getD b [])).2:=by
 have h1:=ends_num (hh _ (AdS (show a<had.length by omega)));have h2:=ends_num (hh _ (AdS hb));have h3:nLt (endsL (had.getD a [])).2 (endsL (had.getD b [])).1:=by
  have:=List.pairwise_iff_getElem.1 hr a b (by omega) hb hab
  grind
 grind[nLt_trans]
theorem AzN{had:List LU}{many:Nat}{last upper:LU}{g:List LU}(h1:1<=many)(hh:∀ n∈had,leafNameL n=true)(hr:AeP had)(hl:last=[]\/numberL last=true)(hg:ApZ had many last upper=some g):g.length=many/\∀ n∈g,leafNameL n=true:=by
 unfold ApZ at hg
 split at hg
 .simp at hg
  subst hg;refine⟨by grind,fun n hn=>?_⟩
  rcases List.mem_or_eq_of_mem_set hn with hn|rfl
  .grind
  .have e1:=ends_num (hh _ (AdS (show many-1<had.length by omega)))
   have e2:=ends_num (hh _ (AdS (show had.length-1<had.length by omega)));exact AmE e1.1 e2.2.1 (BiK hh hr (by omega) (by omega))
 grind[AzM]
theorem AeY{n:LU}(h:leafNameL n=true):n.length<10000:=by
 have h1:=ends_num h;have l1:=(AaN h1.1).2.1;have l2:=(AaN h1.2.1).2.1
 grind[endsL,Lib.cut]
def stI(E:List LU)(lv:List Le')(k:Nat):Nat:=if k=0 then 0 else if k<=(AaC lv).length then ixN E (fst lv (rat (AaC lv) (k-1)).1) else E.length
def nmI(lv:List Le')(k:Nat):List LU:=if k=0 then[] else((lv.take (rat (AaC lv) (k-1)).2).drop (rat (AaC lv) (k-1)).1).map (·.name)
def upI(lv:List Le')(k:Nat):LU:=if k<(AaC lv).length then(endsL (lv.getD (rat (AaC lv) k).1 le0).name).1 else[]
def sgI(E:List LU)(lv:List Le')(k:Nat):List LU:=(E.take (stI E lv (k+1))).drop (stI E lv k)
def mkLv(no:Int)(g fi:List LU)(pg:List (List Ln))(i:Nat):List Le':=(List.range i).map fun k=>⟨g.getD k [],no,fi.getD k [],pg.getD k []⟩
theorem BiL(no:Int)(g fi:List LU)(pg:List (List Ln))(i:Nat):mkLv no g fi pg (i+1)=mkLv no g fi pg i++[⟨g.getD i [],no,fi.getD i [],pg.getD i []⟩]:=by
 grind[mkLv,List.range_succ]
theorem AvU(no:Int)(g fi:List LU)(pg:List (List Ln))(i:Nat):(mkLv no g fi pg i).length=i:=by simp[mkLv]
def pgI'(ys:List Sc)(E:List LU)(lv:List Le')(k:Nat):List (List Ln):=(layL (entsB ys (sgI E lv k))).Lh
def BbC(ys:List Sc)(E:List LU)(lv:List Le')(no:Int)(k:Nat)(s:LU×List Le'):Option (LU×List Le') :=
 if stI E lv k=stI E lv (k+1) then some s
 else match ApZ (nmI lv k) (pgI' ys E lv k).length s.1 (upI lv k)with
  | none=>none
  | some g=>some ((endsL (g.getD (g.length-1) [])).2,s.2++mkLv no g (firstsI ys (sgI E lv k)) (pgI' ys E lv k) (pgI' ys E lv k).length)
def relTo(ys:List Sc)(E:List LU)(lv:List Le')(no:Int):Nat->Option (LU×List Le')
 | 0=>some ([],[])
 | k+1=>match relTo ys E lv no k with
  | none=>none
  | some s=>BbC ys E lv no k s
def fixL(lv:List Le')(f:Le'):Le':=match lv.find? (fun x=>x.name==f.name)with
 | some x=>if x.first=f.first/\x.Lb=f.Lb then{ f with Lj:=x.Lj } else f
 | none=>f
structure RelOk(ys:List Sc)(E:List LU)(lv:List Le'):Prop where
 md:MdOk ys E
 sorted:E.Pairwise nLt
 mem:∀ k,k<(AaC lv).length->fst lv (rat (AaC lv) k).1∈E
 rise:∀ i j,i<j->j<(AaC lv).length->nLt (fst lv (rat (AaC lv) i).1) (fst lv (rat (AaC lv) j).1)
 names:∀ f∈lv,leafNameL f.name=true
 riseN:AeP (lv.map (·.name))
 Lb:∀ f∈lv,f.Lb.length<1000000/\f.first.length<1000000
 few:lv.length<=100000
theorem A8I{ys:List Sc}{E:List LU}{lv:List Le'}(h:RelOk ys E lv){k:Nat}:stI E lv k<=stI E lv (k+1)/\stI E lv (k+1)<=E.length:=by
 have hix:∀ j,j<(AaC lv).length->ixN E (fst lv (rat (AaC lv) j).1)<E.length:=fun j hj=>(AiP (h.mem j hj)).choose
 unfold stI;rw[if_neg (show k+1≠0 by omega)]
 by_cases k0:k=0
 .grind
 .rw [if_neg k0]
  simp
  by_cases h1:k+1<=(AaC lv).length
  .rw [if_pos h1,if_pos (by omega)]
   have:=hix k (by omega);have:=AmZ h.sorted (h.mem (k-1) (by omega)) (h.mem k (by omega)) (h.rise (k-1) k (by omega) (by omega));omega
  grind
theorem BiM{ys:List Sc}{E:List LU}{lv:List Le'}(h:RelOk ys E lv)(k:Nat):(∀ n∈nmI lv k,leafNameL n=true/\n.length<1000000)/\AeP (nmI lv k)/\(nmI lv k).length<=100000:=by
 have hf:=h.few;unfold nmI
 split
 .simp_all[AeP]
 .refine ⟨fun n hn=>?_,?_,by grind⟩
  .obtain ⟨f,hf,rfl⟩:=List.mem_map.1 hn
   have hm:=h.names f (lau (lba hf))
   grind[AeY]
  .have:=h.riseN
   grind[AeP]
theorem BiN{ys:List Sc}{E:List LU}{lv:List Le'}(h:RelOk ys E lv)(k:Nat):MdOk ys (sgI E lv k):=AsX h.md _ _
theorem AhK{a:LU}(h:numberL a=true):a≠[]/\∀ r:LU,(a++r).head?≠some 32:=by
 have hne:=num_ne h;refine⟨hne,fun r e=>?_⟩
 cases a with
 | nil=>grind
 | cons c t =>
  simp at e
  subst e;have hx:(32:UInt8)∈(32::t:LU):=by simp
  rw[AbF (32::t)]at hx
  .exact absurd (List.all_eq_true.1 (AaZ h).2.2.2 32 hx) (by decide)
theorem AtA:∀ (ps:List Pa)(s:List Bl×Bl)(b:Bl)(r:List Bl),s.1++[s.2]=b::r->∃ b' r',(ps.foldl bstep s).1++[(ps.foldl bstep s).2]=b'::r'/\b.Lb.length<=b'.Lb.length
 | [],s,b,r,h=>⟨b,r,h,lad _⟩
 | p::ps,s,b,r,h=>by
  have hstep:∃ b2 r2,(bstep s p).1++[(bstep s p).2]=b2::r2/\b.Lb.length<=b2.Lb.length:=by
   unfold bstep
   split
   .obtain ⟨dn,cur⟩:=s
    cases dn<;>grind[moreB,addB]
   grind
  obtain⟨b2,r2,h1,h2⟩:=hstep;obtain⟨b3,r3,h3,h4⟩:=AtA ps (bstep s p) b2 r2 h1
  grind
theorem A8J{xs:List Sc}{no:LU}(hn:numberL no=true):∃ b r,entB xs no=b::r/\1<=b.Lb.length:=by
 unfold entB
 cases h:atNo xs no with
 | none =>
  refine⟨goneB no,[],rfl,?_⟩;exact AfT (by omega) (by simp_all[goneT,num_ne]) ((AhK hn).2 _)
 | some x =>
  have hx:=(AgM h).2;have hw:1<=(wrapL 60 (headL x)).length:=by
   have hb:(x.no != [])=true:=by grind[num_ne]
   refine AfT (by omega) ?_ ?_ <;> unfold headL <;> rw[if_pos hb,hx]
   all_goals grind[AhK]
  obtain⟨b,r,h1,h2⟩:=AtA x.Ld ([],⟨0,wrapL 60 (headL x),[],[]⟩) _ [] rfl;exact⟨b,r,h1,by grind⟩
def AvV(s:LS):Prop:=1<=s.Lh.length\/s.Li≠[]
theorem AqB(b:Bl):∀ (f fr:Nat)(s:LS),s.Lh.length<=(placeB b f fr s).Lh.length
 | 0,_,s=>lad _
 | f+1,fr,s=>by
  unfold placeB
  split
  .exact lad _
  .refine lcl ?_ (AqB b f _ _)
   rw[(AgO b _).1]; simp[addS]
theorem place_some{b:Bl}{f fr:Nat}{s:LS}(h:AvV s\/(fr=0/\1<=b.Lb.length)):AvV (placeB b (f+1) fr s):=by
 unfold placeB
 split
 .rcases h with(h|h)|⟨h,h'⟩
  .exact .inl h
  .exact .inr (by simp[addS,h])
  .refine .inr fun e=>?_<;>grind[addS,partL',lap]
 .refine .inl (lcl ?_ (AqB b f _ _))<;>grind[AgO]
theorem AzO{bs:List Bl}{i:Nat}{b:Bl}{s:LS}(h:AvV s):AvV (openS bs i b s):=by
 have h1:AvV (turnS bs i b s):=by
  unfold turnS
  split
  .exact .inl (by simp[flushS])
  omega
 have h2:AvV (firstS i (turnS bs i b s)):=by
  unfold firstS
  split
  .rcases h1 with h1|h1
   .exact .inl h1
   grind
  omega
 unfold openS gapS
 rcases h2 with h2|h2
 .exact .inl h2
 .exact .inr (by simp_all)
theorem BqN{b:Bl}{r:List Bl}(h:1<=b.Lb.length):1<=(layL (b::r)).Lh.length:=by
 have key:∀ i,i<(b::r).length->AvV (layTo (b::r) (i+1)):=by
  intro i
  induction i<;>grind[layTo,place_some,AzO]
 have h1:=key r.length (by simp);unfold layL
 split
 .simp [flushS]
 .rcases h1 with h1|h1<;>grind
theorem A4A{xs:List Sc}{nos:List LU}(hm:MdOk xs nos)(h:nos≠[]):1<=(layL (entsB xs nos)).Lh.length:=by
 cases nos with
 | nil=>grind
 | cons n r =>
  obtain⟨b,q,h1,h2⟩:=A8J (xs:=xs) (hm.num n (by simp))
  grind[entsB,BqN]
theorem A4B{xs:List Sc}(hx:∀ x∈xs,SceneD x){no:LU}(hn:numberL no=true):(∀ b∈entB xs no,AhI b)/\costP (entB xs no)<=5256:=by
 unfold entB
 cases h:atNo xs no with
 | none =>
  have hl:=(AaN hn).2.1;have hw:=AhH (W:=60) (by omega) (goneT no);have hg:(goneT no).length<=1008:=by simp[goneT,BhL]; omega
  have hL:(goneB no).Lb.length<=40:=by grind[goneB]
  refine⟨fun b hb=>?_,?_⟩
  .rw [List.mem_singleton.1 hb]; exact .inr (.inr hL)
  grind[costP]
 | some x =>
  have hd:=hx x (AgM h).1;obtain⟨s1,s2⟩:=AzJ hd;have:=hd.wt
  grind
theorem BxQ{xs:List Sc}{nos:List LU}(hm:MdOk xs nos):(layL (entsB xs nos)).Lh.length<=50000:=by
 have key:∀ l:List LU,(∀ n∈l,numberL n=true)->(∀ b∈entsB xs l,AhI b)/\costP (entsB xs l)<=5256*l.length:=by
  intro l
  induction l with
  | nil=>grind[entsB,costP]
  | cons n r ih =>
   intro h;obtain⟨s1,s2⟩:=A4B hm.sc (h n (by simp))
   grind[entsB,costP_append]
 obtain⟨k1,k2⟩:=key nos hm.num;have:=A8E k1;have h6:5256*nos.length<=5256*300:=Nat.mul_le_mul_left _ hm.fewN;omega
theorem AqC{l:List LU}(hh:∀ n∈l,leafNameL n=true)(hr:AeP l):l.Nodup:=by
 induction l with
 | nil=>simp
 | cons a r ih =>
  obtain⟨h1,h2⟩:=List.pairwise_cons.1 hr;refine List.nodup_cons.2 ⟨fun hm=>?_,ih (fun n hn=>hh n (by simp[hn])) h2⟩<;>grind[ends_num,nLt_irrefl,nLt_trans]
theorem splitW_word:∀ a:LU,(∀ x∈a,x≠32)->splitW a=[a]
 | [],_=>rfl
 | c::a,h=>by
  have hc:(c==32)=false:=by simpa using h c (by simp)
  have ih:=splitW_word a fun x hx=>h x (by simp[hx])
  simp[splitW,hc,ih,consW]
theorem splitW_two(b:LU):∀ a:LU,(∀ x∈a,x≠32)->splitW (a++32::b)=a::splitW b
 | [],_=>by simp[splitW]
 | c::a,h=>by
  have hc:(c==32)=false:=by simpa using h c (by simp)
  have ih:=splitW_two b a fun x hx=>h x (by simp[hx])
  simp only[lbb,splitW,hc,ih,consW,lan,if_false]
theorem BqO{W:Nat}{a b:LU}(ha:∀ x∈a,x≠32)(ha0:a≠[])(hb:∀ x∈b,x≠32)(hb0:b≠[])(hl:a.length+1+b.length<=W):wrapL W (a++32::b)=[a++32::b]:=by
 grind[chop_end,wrapL,wrapF,splitW_two,splitW_word,AcF]
theorem A4C{a:LU}(h:numberL a=true):∀ x∈a,x≠32:=by
 intro x hx e;subst e;rw[AbF a]at hx
 rcases List.mem_append.1 hx with hx|hx
 .exact absurd (AkJ digB _ 32 hx) (by decide)
 .exact absurd (List.all_eq_true.1 (AaZ h).2.2.2 32 hx) (by decide)
theorem BqP{α:Type}(E:List α){a b:Nat}(h:a<=b):E.take b=E.take a++(E.take b).drop a:=by
 grind[lbs]
theorem entsB_append(ys:List Sc)(a b:List LU):entsB ys (a++b)=entsB ys a++entsB ys b:=by simp[entsB]
theorem stI_end(E:List LU)(lv:List Le'):stI E lv ((AaC lv).length+1)=E.length:=by
 grind[stI]
theorem A4D:(layL []).Lh=[]:=by grind[layL,layTo]
theorem AiH(lv:List Le')(f:Le'):(fixL lv f).Lb=f.Lb/\(fixL lv f).name=f.name/\(fixL lv f).first=f.first:=by
 grind[fixL]
theorem atNo_get{ys:List Sc}(hd:(nosL ys).Nodup){y:Sc}(hy:y∈ys):atNo ys y.no=some y:=by
 unfold atNo
 induction ys<;>grind[nosL]
theorem BiO{bs:List Bl}{k:Nat}{b:Bl}(hk:∀ d,bs[k]? = some d->d.kind=0){i:Nat}(hi:i<k):AdJ (bs.take k) i b=AdJ bs i b:=by
 grind[AdJ]
theorem AtB{bs:List Bl}{k:Nat}(hk:∀ d,bs[k]? = some d->d.kind=0):∀ i,i<=k->layTo (bs.take k) i=layTo bs i
 | 0,_=>rfl
 | i+1,hi=>by
  have ih:=AtB hk i (by omega);have hg:(bs.take k)[i]? = bs[i]?:=by rw[lce,if_pos (by omega)]
  simp only[layTo,hg]
  cases hq:bs[i]? with
  | none=>exact ih
  | some b =>
   simp only;rw[ih];have:openS (bs.take k) i b (layTo bs i)=openS bs i b (layTo bs i):=by
    unfold openS turnS;rw[BiO hk (by omega)]
   rw[this]
def shI(k:Nat)(n:Int):Int:=if n<0 then n else n+k
structure ShS(P:List (List Ln))(F:List Int)(k:Nat)(s s':LS):Prop where
 Lh:s.Lh=P++s'.Lh
 Lg:s.Lg=F++s'.Lg.map (shI k)
 Li:s.Li=s'.Li
 first:s.Li≠[]->s.first=shI k s'.first
theorem ShS.flush{P:List (List Ln)}{F:List Int}{k:Nat}{s s':LS}(h:ShS P F k s s')(hp:s.Li≠[]):ShS P F k (flushS s) (flushS s'):=by
 refine⟨by simp[flushS,h.Lh,h.Li],?_,rfl,by simp[flushS]⟩
 simp[flushS,h.Lg,h.first hp]
theorem ShS.add{P:List (List Ln)}{F:List Int}{k:Nat}{s s':LS}(h:ShS P F k s s')(hf:s.first=shI k s'.first)(l:List Ln):ShS P F k (addS s l) (addS s' l):=⟨h.Lh,h.Lg,by simp[addS,h.Li],fun _=>hf⟩
theorem BiP(k:Nat):shI k (-1)=-1:=by simp[shI]
theorem AvW{P:List (List Ln)}{F:List Int}{k:Nat}(b:Bl):∀ (f fr:Nat)(s s':LS),ShS P F k s s'->s.first=shI k s'.first->ShS P F k (placeB b f fr s) (placeB b f fr s')/\((placeB b f fr s).first=shI k (placeB b f fr s').first)
 | 0,fr,s,s',h,hf=>⟨h,hf⟩
 | f+1,fr,s,s',h,hf=>by
  have hs:s'.Li.length=s.Li.length:=by rw[h.Li]
  simp only[placeB,hs]
  split
  .exact ⟨h.add hf _,hf⟩
  .generalize stopL b fr (54-s.Li.length)=tz
   refine AvW b f tz _ _ ?_ ?_
   .have h1:=(h.add hf (partL' b fr tz)).add (l:=if b.kind==3 then[AcT] else[]) hf
    have h2:ShS P F k (flushS (addS (addS s (partL' b fr tz)) (if b.kind==3 then[AcT] else[]))) (flushS (addS (addS s' (partL' b fr tz)) (if b.kind==3 then[AcT] else[]))):=by
     refine⟨by simp only[flushS,h1.Lh,h1.Li,lbu],?_,rfl,by simp[flushS]⟩;simp only[flushS,h1.Lg,lak,lal,las,lbu]
     congr 3
    exact h2.add (by grind[flushS,BiP]) _
   grind[breakS,addS,flushS,BiP]
theorem BxR{P:List (List Ln)}{F:List Int}{k:Nat}{bs cs:List Bl}{i j:Nat}{b:Bl}(hij:j=i+k)(hh:AdJ bs j b=AdJ cs i b){s s':LS}(h:ShS P F k s s')(hf:s.Li≠[]->s.first=shI k s'.first):ShS P F k (openS bs j b s) (openS cs i b s')/\(openS bs j b s).first=shI k (openS cs i b s').first:=by
 have ht:ShS P F k (turnS bs j b s) (turnS cs i b s'):=by
  unfold turnS;rw[hh,<- h.Li]
  split
  .rename_i hp; exact h.flush hp.1
  omega
 have hfst:ShS P F k (firstS j (turnS bs j b s)) (firstS i (turnS cs i b s'))/\(firstS j (turnS bs j b s)).first=shI k (firstS i (turnS cs i b s')).first:=by
  unfold firstS;rw[<- ht.Li]
  split
  .have hk:(j)=shI k (i):=by grind[shI]
   exact⟨⟨ht.Lh,ht.Lg,rfl,fun _=>hk⟩,hk⟩
  .rename_i hp; exact⟨ht,ht.first hp⟩
 unfold openS gapS;refine⟨⟨hfst.1.Lh,hfst.1.Lg,?_,fun _=>hfst.2⟩,hfst.2⟩;simp only[hfst.1.Li]
theorem BiQ{bs:List Bl}{k i:Nat}{b:Bl}:AdJ bs (i+k) b=AdJ (bs.drop k) i b:=by
 grind[AdJ]
theorem AtC{bs:List Bl}{k:Nat}{b:Bl}(hb:bs[k]? = some b)(hp:(turnS bs k b (layTo bs k)).Li=[]):∀ i,i+k<bs.length->ShS (turnS bs k b (layTo bs k)).Lh (turnS bs k b (layTo bs k)).Lg k (layTo bs (i+1+k)) (layTo (bs.drop k) (i+1))/\(layTo bs (i+1+k)).first=shI k (layTo (bs.drop k) (i+1)).first
 | 0,_=>by
  have e1:layTo bs (0+1+k)=placeB b (b.Lb.length+1) 0 (openS bs k b (layTo bs k)):=by
   grind[layTo]
  have e2:layTo (bs.drop k) (0+1)=placeB b (b.Lb.length+1) 0 (openS (bs.drop k) 0 b ⟨[],[],[],[],-1⟩):=by
   grind[layTo]
  have o1:openS bs k b (layTo bs k)=gapS b { turnS bs k b (layTo bs k)with first:=(k) }:=by
   grind[openS,firstS]
  have o2:openS (bs.drop k) 0 b ⟨[],[],[],[],-1⟩=gapS b ⟨[],[],[],[],((0))⟩:=by
   grind[openS,firstS,turnS]
  have hk:(k)=shI k ((0)):=by simp[shI]
  rw[e1,e2,o1,o2];refine AvW b _ _ _ _ ⟨?_,?_,?_,fun _=>hk⟩ hk<;>grind[gapS]
 | i+1,hi=>by
  obtain⟨h1,h2⟩:=AtC hb hp i (by omega);have hl:i+1+k<bs.length:=by omega
  have e1:layTo bs (i+1+1+k)=placeB bs[i+1+k] (bs[i+1+k].Lb.length+1) 0 (openS bs (i+1+k) bs[i+1+k] (layTo bs (i+1+k))):=by
   grind[layTo]
  have e2:layTo (bs.drop k) (i+1+1)=placeB bs[i+1+k] (bs[i+1+k].Lb.length+1) 0 (openS (bs.drop k) (i+1) bs[i+1+k] (layTo (bs.drop k) (i+1))):=by
   grind[layTo]
  obtain⟨o1,o2⟩:=BxR (i:=i+1) rfl (BiQ (bs:=bs) (b:=bs[i+1+k])) h1 (fun _=>h2)
  grind[AvW]
theorem BiR{bs:List Bl}{k:Nat}{b:Bl}(hb:bs[k]? = some b)(hk:b.kind=0)(hp:(turnS bs k b (layTo bs k)).Li=[]) :
  (layL bs).Lh=(layL (bs.take k)).Lh++(layL (bs.drop k)).Lh/\(layL bs).Lg=(layL (bs.take k)).Lg++(layL (bs.drop k)).Lg.map (shI k)/\(layL (bs.take k)).Lh=(turnS bs k b (layTo bs k)).Lh:=by
 have hlt:=(List.getElem?_eq_some_iff.1 hb).1;have ht:layTo (bs.take k) k=layTo bs k:=AtB (fun d hd=>by grind) k (lad _);have hfst:(layL (bs.take k)).Lh=(turnS bs k b (layTo bs k)).Lh/\(layL (bs.take k)).Lg=(turnS bs k b (layTo bs k)).Lg:=by
  grind[layL,turnS]
 obtain⟨m,hm⟩:∃ m,bs.length=m+1+k:=⟨bs.length-1-k,by omega⟩;have hdl:(bs.drop k).length=m+1:=by grind
 obtain⟨s1,s2⟩:=AtC hb hp m (by omega);rw[hfst.1,hfst.2];unfold layL;rw[hm,hdl,<- s1.Li]
 split
 .rename_i hne
  have:=s1.flush hne;exact⟨this.Lh,this.Lg,rfl⟩
 .exact ⟨s1.Lh,s1.Lg,rfl⟩
def OkF(bs:List Bl)(i j:Nat)(f:Int):Prop:=f<0\/∃ n:Nat,f=n/\n<i/\∃ b,bs[n]? = some b/\(turnS bs n b (layTo bs n)).Li=[]/\(turnS bs n b (layTo bs n)).Lh.length=j
structure InvF(bs:List Bl)(i:Nat)(s:LS):Prop where
 all:∀ j,(h:j<s.Lg.length)->OkF bs i j s.Lg[j]
 cur:OkF bs i s.Lh.length s.first
 len:s.Lg.length=s.Lh.length
theorem OkF.more{bs:List Bl}{i j:Nat}{f:Int}(h:OkF bs i j f):OkF bs (i+1) j f:=h.imp id fun⟨n,h1,h2,h3⟩=>⟨n,h1,by omega,h3⟩
theorem InvF.more{bs:List Bl}{i:Nat}{s:LS}(h:InvF bs i s):InvF bs (i+1) s:=⟨fun j hj=>(h.all j hj).more,h.cur.more,h.len⟩
theorem InvF.add{bs:List Bl}{i:Nat}{s:LS}(h:InvF bs i s)(l:List Ln):InvF bs i (addS s l):=⟨h.all,h.cur,h.len⟩
theorem InvF.flush{bs:List Bl}{i:Nat}{s:LS}(h:InvF bs i s):InvF bs i (flushS s):=by
 refine⟨fun j hj=>?_,.inl (by simp[flushS]),by simp[flushS,h.len]⟩;simp only[flushS,lah,lam,lap]at hj;simp only[flushS,List.getElem_append]
 split
 .rename_i h1; exact h.all j h1
 .have:j=s.Lh.length:=by have:=h.len; omega
  subst this
  simp
  exact h.cur
theorem BiS{bs:List Bl}{i:Nat}(b:Bl):∀ (f fr:Nat)(s:LS),InvF bs i s->InvF bs i (placeB b f fr s)
 | 0,_,s,h=>h
 | f+1,fr,s,h=>by
  unfold placeB
  split
  .exact h.add _
  .exact BiS b f _ _ ((((h.add _).add _).flush).add _)
theorem AqD{bs:List Bl}:∀ i,i<=bs.length->InvF bs i (layTo bs i)
 | 0,_=>⟨by simp[layTo],.inl (by simp[layTo]),rfl⟩
 | i+1,hi=>by
  have ih:=AqD (bs:=bs) i (by omega);have hl:i<bs.length:=by omega
  have hq:=lab hl;simp only[layTo,hq];refine BiS _ _ _ _ ?_;have ht:InvF bs i (turnS bs i bs[i] (layTo bs i)):=by
   unfold turnS
   split
   .exact ih.flush
   .exact ih
  unfold openS gapS firstS
  split
  .rename_i hp
   refine⟨fun j hj=>(ht.all j hj).more,.inr ⟨i,rfl,by omega,_,hq,hp,rfl⟩,ht.len⟩
  .exact ⟨fun j hj=>(ht.all j hj).more,ht.cur.more,ht.len⟩
theorem A4E{bs:List Bl}{j:Nat}(hj:j<(layL bs).Lg.length){n:Nat}(hn:(layL bs).Lg[j]=(n:Int)):n<bs.length/\∃ b,bs[n]? = some b/\(turnS bs n b (layTo bs n)).Li=[]/\(turnS bs n b (layTo bs n)).Lh.length=j:=by
 have h1:=AqD bs.length (lad _);have h2:InvF bs bs.length (layL bs):=by
  unfold layL
  split
  .exact h1.flush
  omega
 rcases h2.all j hj with h|⟨m,h3,h4,h5⟩<;>grind
theorem BqQ{bs:List Bl}:∀ f∈(layL bs).Lg,f<0\/∃ n:Nat,f=n/\n<bs.length:=fun f hf=>by
 have h1:=AqD bs.length (lad _);have h2:InvF bs bs.length (layL bs):=by
  unfold layL
  split
  .exact h1.flush
  omega
 obtain⟨j,hj,rfl⟩:=List.mem_iff_getElem.1 hf;exact(h2.all j hj).imp id fun⟨n,h3,h4,_⟩=>⟨n,h3,h4⟩
theorem AtD:∀ (ps:List Pa)(s:List Bl×Bl)(b:Bl)(r:List Bl),s.1++[s.2]=b::r->∃ b' r',(ps.foldl bstep s).1++[(ps.foldl bstep s).2]=b'::r'/\b'.kind=b.kind
 | [],s,b,r,h=>⟨b,r,h,rfl⟩
 | p::ps,s,b,r,h=>by
  have hstep:∃ b2 r2,(bstep s p).1++[(bstep s p).2]=b2::r2/\b2.kind=b.kind:=by
   unfold bstep
   split
   .obtain ⟨dn,cur⟩:=s
    cases dn<;>grind[moreB,addB]
   grind
  obtain⟨b2,r2,h1,h2⟩:=hstep;obtain⟨b3,r3,h3,h4⟩:=AtD ps (bstep s p) b2 r2 h1
  grind
theorem A8K(xs:List Sc)(no:LU):∃ b r,entB xs no=b::r/\b.kind=0:=by
 unfold entB
 cases h:atNo xs no with
 | none=>grind[goneB]
 | some x =>
  obtain⟨b,r,h1,h2⟩:=AtD x.Ld ([],⟨0,wrapL 60 (headL x),[],[]⟩) _ [] rfl;exact⟨b,r,h1,h2⟩
def offB(xs:List Sc)(nos:List LU)(i:Nat):Nat:=(entsB xs (nos.take i)).length
theorem BiT{xs:List Sc}{nos:List LU}{i:Nat}(h:i<nos.length):offB xs nos i<offB xs nos (i+1):=by
 obtain⟨b,r,h1,_⟩:=A8K xs nos[i]
 grind[offB,laf,entsB]
theorem AhL{xs:List Sc}{nos:List LU}:∀ {j i:Nat},i<j->j<=nos.length->offB xs nos i<offB xs nos j
 | 0,i,h,_=>by omega
 | j+1,i,h,hj=>by
  have h1:=BiT (xs:=xs) (show j<nos.length by omega)
  by_cases e:i=j
  .subst e; exact h1
  .exact Nat.lt_trans (AhL (show i<j by omega) (by omega)) h1
theorem BqR{xs:List Sc}{nos:List LU}{i j:Nat}(hi:i<=nos.length)(hj:j<=nos.length)(h:offB xs nos i=offB xs nos j):i=j:=by
 rcases Nat.lt_trichotomy i j with h1|h1|h1
 .have:=AhL (xs:=xs) h1 hj; omega
 .omega
 .have:=AhL (xs:=xs) h1 hi; omega
theorem BxS{xs:List Sc}{nos:List LU}{i:Nat}(h:i<nos.length):∃ b,(entsB xs nos)[offB xs nos i]? = some b/\b.kind=0:=by
 obtain⟨b,r,h1,h2⟩:=A8K xs nos[i]
 grind[entsB,lbs,lbc,offB]
theorem AeJ(xs:List Sc)(nos:List LU)(f:Int):(∃ m,m<nos.length/\(offB xs nos m:Int)=f/\AiK xs nos f=nos.getD m [])\/((∀ m,m<nos.length->(offB xs nos m:Int)≠f)/\AiK xs nos f=[]):=by
 unfold AiK
 cases hq:(List.range nos.length).find? (fun j=>((entsB xs (nos.take j)).length:Int)==f)with
 | some j =>
  left
  have h1:=lcr hq;have h2:=List.find?_some hq
  simp at h1
  simp at h2
  exact⟨j,h1,h2,rfl⟩
 | none =>
  right
  refine⟨fun m hm e=>?_,rfl⟩;have:=List.find?_eq_none.1 hq m (by grind)
  simp at this
  exact this e
theorem A4F{xs:List Sc}{nos:List LU}{m:Nat}(hm:m<nos.length):AiK xs nos (offB xs nos m:Int)=nos.getD m []:=by
 rcases AeJ xs nos (offB xs nos m)with⟨q,h1,h2,h3⟩|⟨h1,_⟩
 .have:q=m:=BqR (xs:=xs) (nos:=nos) (by omega) (by omega) (by omega)
  grind
 grind
theorem AqE{xs:List Sc}{nos:List LU}{f:Int}(h:∀ m,m<nos.length->(offB xs nos m:Int)≠f):AiK xs nos f=[]:=by
 grind[AeJ]
theorem offB_take{xs:List Sc}{nos:List LU}{i m:Nat}(h:m<=i):offB xs (nos.take i) m=offB xs nos m:=by
 grind[offB]
theorem AzP{xs:List Sc}{nos:List LU}{i m:Nat}:offB xs nos (i+m)=offB xs nos i+offB xs (nos.drop i) m:=by
 grind[offB,entsB_append]
theorem BbD{xs:List Sc}{nos:List LU}{i:Nat}(hi:i<=nos.length){f:Int}(hf:f<offB xs nos i):AiK xs nos f=AiK xs (nos.take i) f:=by
 have hl:(nos.take i).length=i:=by grind
 rcases AeJ xs (nos.take i) f with⟨m,h1,h2,h3⟩|⟨h1,h3⟩
 .grind[offB_take,A4F]
 .rw [h3]
  refine AqE fun m hm e=>?_
  by_cases hmi:m<i
  .grind[offB_take]
  .by_cases e2:m=i
   .grind
   .have:=AhL (xs:=xs) (show i<m by omega) (show m<=nos.length by omega)
    omega
theorem BbE{xs:List Sc}{nos:List LU}{i:Nat}(hi:i<=nos.length)(f:Int):AiK xs nos (shI (offB xs nos i) f)=AiK xs (nos.drop i) f:=by
 have hl:(nos.drop i).length=nos.length-i:=by simp
 by_cases hf:f<0
 .grind[shI,AqE]
 .have hs:shI (offB xs nos i) f=f+offB xs nos i:=by grind[shI]
  rcases AeJ xs (nos.drop i) f with⟨m,h1,h2,h3⟩|⟨h1,h3⟩
  .have:f+(offB xs nos i:Int)=(offB xs nos (i+m):Int):=by grind[AzP]
   grind[A4F]
  .rw [h3]
   refine AqE fun m hm e=>?_
   by_cases hmi:m<i
   .have:=AhL (xs:=xs) hmi hi; omega
   .have:=AzP (xs:=xs) (nos:=nos) (i:=i) (m:=m-i)
    grind
def pfL(xs:List Sc)(nos:List LU):List (List Ln×LU):=(layL (entsB xs nos)).Lh.zip (firstsI xs nos)
theorem BtQ(xs:List Sc)(nos:List LU):(pfL xs nos).length=(layL (entsB xs nos)).Lh.length:=by
 grind[pfL,firstsI,firsts_pages]
theorem BqS{xs:List Sc}{nos:List LU}{j:Nat}(hj:j<(pfL xs nos).length)(hn:((pfL xs nos)[j]).2≠[]) :
  ∃ i,i<nos.length/\nos.getD i []=((pfL xs nos)[j]).2/\pfL xs nos=pfL xs (nos.take i)++pfL xs (nos.drop i)/\(pfL xs (nos.take i)).length=j:=by
 have hj1:j<(layL (entsB xs nos)).Lg.length:=by grind[firsts_pages,BtQ]
 have e:((pfL xs nos)[j]).2=AiK xs nos ((layL (entsB xs nos)).Lg[j]):=by grind[pfL,firstsI]
 rw[e]at hn |-
 rcases AeJ xs nos ((layL (entsB xs nos)).Lg[j])with⟨i,h1,h2,h3⟩|⟨_,h3⟩
 .obtain ⟨g1,b,g2,g3,g4⟩:=A4E hj1 h2.symm
  obtain⟨b',k1,k2⟩:=BxS h1;rw[g2,lao]at k1;subst k1;obtain⟨s1,s2,s3⟩:=BiR g2 k2 g3;have ht:(entsB xs nos).take (offB xs nos i)=entsB xs (nos.take i):=by
   grind[lbs,entsB_append,offB]
  have hd:(entsB xs nos).drop (offB xs nos i)=entsB xs (nos.drop i):=by
   grind[lbs,entsB_append]
  rw[ht,hd]at s1 s2;rw[ht]at s3;refine⟨i,h1,h3.symm,?_,by grind[BtQ]⟩;have f1:firstsI xs nos=firstsI xs (nos.take i)++firstsI xs (nos.drop i):=by
   unfold firstsI;rw[s2,lak,lbi]
   congr 1
   .refine lbg fun f hf=>BbD (by omega) ?_
    rcases BqQ f hf with h|⟨n,rfl,h⟩<;>grind
   grind[lbg,BbE]
  grind[pfL,firstsI,firsts_pages]
 grind
def hd0(s:LS):Prop:=∃ t,s.Lg++[s.first]=0::t
theorem AzQ{s:LS}(h:hd0 s):hd0 (flushS s):=by
 obtain⟨t,h⟩:=h;exact⟨t++[-1],by grind[flushS]⟩
theorem AqF(b:Bl):∀ (f fr:Nat)(s:LS),hd0 s->hd0 (placeB b f fr s)
 | 0,_,s,h=>h
 | f+1,fr,s,h=>by
  unfold placeB
  split
  .exact h
  .exact AqF b f _ _ (AzQ h)
theorem B1A{b:Bl}{r:List Bl}(h:1<=b.Lb.length):∃ t,(layL (b::r)).Lg=0::t:=by
 have key:∀ i,i<(b::r).length->AvV (layTo (b::r) (i+1))/\hd0 (layTo (b::r) (i+1)):=by
  intro i
  induction i with
  | zero =>
   intro _;simp only[layTo,List.getElem?_cons_zero];refine⟨place_some (.inr ⟨rfl,h⟩),AqF _ _ _ _ ?_⟩;exact⟨[],by grind[openS,gapS,firstS,turnS]⟩
  | succ i ih =>
   intro hi;obtain⟨a1,a2⟩:=ih (by omega);have hf:=AqD (bs:=b::r) (i+1) (by omega);rw[layTo,lab hi];refine⟨place_some (.inl (AzO a1)),AqF _ _ _ _ ?_⟩;generalize layTo (b::r) (i+1)=s at *;have ht:AvV (turnS (b::r) (i+1) ((b::r)[i+1]) s)/\hd0 (turnS (b::r) (i+1) ((b::r)[i+1]) s)/\(turnS (b::r) (i+1) ((b::r)[i+1]) s).Lg.length=(turnS (b::r) (i+1) ((b::r)[i+1]) s).Lh.length:=by
    unfold turnS
    split
    .exact ⟨.inl (by simp[flushS]),AzQ a2,by simp[flushS,hf.len]⟩
    .exact ⟨a1,a2,hf.len⟩
   obtain⟨t1,t2,t3⟩:=ht;unfold openS gapS firstS
   split
   .rename_i hp
    have hp1:1<=(turnS (b::r) (i+1) ((b::r)[i+1]) s).Lh.length:=t1.resolve_right fun hne=>hne hp
    obtain⟨t,ht⟩:=t2;generalize turnS (b::r) (i+1) ((b::r)[i+1]) s=q at *
    cases hq:q.Lg with
    | nil=>grind
    | cons a l =>
     exact⟨l++[((i+1:Nat):Int)],by grind⟩
   .exact t2
 obtain⟨k1,t,k2⟩:=key r.length (by simp);have hf:=AqD (bs:=b::r) (r.length+1) (by simp);unfold layL
 split
 .exact ⟨t,k2⟩
 .have hp1:1<=(layTo (b::r) (r.length+1)).Lh.length:=k1.resolve_right (by omega)
  have hl:=hf.len;generalize layTo (b::r) (r.length+1)=q at *
  cases hq:q.Lg<;>grind
theorem BxT{xs:List Sc}{nos:List LU}(hm:MdOk xs nos)(h:nos≠[]):∃ p t,pfL xs nos=(p,nos.getD 0 [])::t:=by
 cases nos with
 | nil=>grind
 | cons n r =>
  obtain⟨b,q,h1,h2⟩:=A8J (xs:=xs) (hm.num n (by simp));have e:entsB xs (n::r)=b::(q++entsB xs r):=by grind[entsB]
  obtain⟨t,ht⟩:=B1A (r:=q++entsB xs r) h2;have hpg:=A4A hm h;have hh:AiK xs (n::r) 0=n:=by
   have:=A4F (xs:=xs) (nos:=n::r) (m:=0) (by simp)
   grind[offB,entsB]
  unfold pfL firstsI
  cases hq:(layL (b::(q++entsB xs r))).Lh<;>simp_all
theorem BxU{xs:List Sc}{nos:List LU}(hm:MdOk xs nos)(i:Nat):MdOk xs (nos.take i):=by
 have:=AsX hm 0 i
 grind
theorem BxV{xs:List Sc}{nos:List LU}(hm:MdOk xs nos)(i:Nat):MdOk xs (nos.drop i):=by
 have:=AsX hm i nos.length
 grind
structure Part(xs:List Sc)(q:List LU):Prop where
 ne:q≠[]
 head:∃ p t,pfL xs q=(p,q.getD 0 [])::t/\∀ x∈t,x.2=[]
theorem AnA{xs:List Sc}:∀ (n:Nat)(nos:List LU),nos.length<=n->MdOk xs nos->∃ ps:List (List LU),ps.flatten=nos/\pfL xs nos=ps.flatMap (pfL xs)/\∀ q∈ps,Part xs q
 | n,[],_,_=>⟨[],rfl,by simp[pfL,entsB,A4D],by simp⟩
 | 0,a::r,h,_=>by grind
 | n+1,a::r,h,hm=>by
  obtain⟨p,t,hp⟩:=BxT hm (by simp)
  by_cases hx:∃ x∈t,x.2≠[]
  .obtain ⟨x,hx,hne⟩:=hx
   obtain⟨j,hj,rfl⟩:=List.mem_iff_getElem.1 hx;have hj':j+1<(pfL xs (a::r)).length:=by rw[hp]; simpa using hj
   have hg:(pfL xs (a::r))[j+1]=t[j]:=by simp[hp]
   obtain⟨i,h1,h2,h3,h4⟩:=BqS hj' (by rw[hg]; exact hne);have hi0:i≠0:=fun e=>by
    subst e
    simp[pfL,entsB,A4D]at h4
   simp at h h1
   obtain⟨p1,a1,a2,a3⟩:=AnA n ((a::r).take i) (by simp; omega) (BxU hm i);obtain⟨p2,b1,b2,b3⟩:=AnA n ((a::r).drop i) (by simp; omega) (BxV hm i);refine⟨p1++p2,by rw[List.flatten_append,a1,b1,lbs],by rw[h3,a2,b2,List.flatMap_append],fun q hq=>?_⟩
   rcases List.mem_append.1 hq with hq|hq
   .exact a3 q hq
   .exact b3 q hq
  .refine ⟨[a::r],by simp,by simp,fun q hq=>?_⟩
   rw[List.mem_singleton.1 hq];refine⟨by simp,p,t,hp,fun x hxm=>?_⟩<;>grind
def hasNo(out:List Sc):List LU:=(nosL out).filter (· != [])
theorem hasNo_snoc(out:List Sc)(x:Sc):hasNo (out++[x])=if x.no=[] then hasNo out else hasNo out++[x.no]:=by
 grind[hasNo,nosL]
theorem DrawnS.d{x:Sc}(h:DrawnS x):SceneD x:=⟨.inl h.no,h.place,h.set,h.time,h.run,h.len,h.all,h.wt⟩
theorem SceneD.renum{x:Sc}(h:SceneD x){n:LU}(hn:n=[]\/numberL n=true):SceneD { x with no:=n }:=⟨hn,h.place,h.set,h.time,h.run,h.len,h.all,h.wt⟩
structure RevI(xs:List Sc)(i:Nat)(out:List Sc):Prop where
 sc:∀ x∈out,SceneD x
 sub:(hasNo out).Sublist (nosL (xs.take i))
 len:out.length<=2*i
theorem BxW{xs:List Sc}{i:Nat}{out:List Sc}(h:RevI xs i out){x:Sc}(hx:DrawnS x):(∀ y∈out++[x],SceneD y)/\(hasNo (out++[x])).Sublist (nosL (xs.take i)):=by
 refine⟨fun y hy=>?_,?_⟩
 .rcases List.mem_append.1 hy with hy|hy
  .exact h.sc y hy
  .rw [List.mem_singleton.1 hy]; exact hx.d
 .rw [hasNo_snoc,if_pos hx.no]; exact h.sub
theorem AzR{xs:List Sc}{i:Nat}(h:i<xs.length):nosL (xs.take (i+1))=nosL (xs.take i)++[xs[i].no]:=by
 grind[nosL,laf]
theorem BqT{xs:List Sc}{i:Nat}(h:i<xs.length){l:List LU}(hs:l.Sublist (nosL (xs.take i))):l.Sublist (nosL (xs.take (i+1))):=by
 grind[AzR]
theorem BxX{xs:List Sc}{i:Nat}(h:i<xs.length){out:List Sc}(hs:(hasNo out).Sublist (nosL (xs.take i))){x:Sc}(hx:x.no=xs[i].no):(hasNo (out++[x])).Sublist (nosL (xs.take (i+1))):=by
 grind[hasNo_snoc,AzR]
theorem BiU:∀ (l:List Sc)(acc:List LU)(first:Bool),(∀ y∈l,SceneD y)->(hasNo l).Nodup->(∀ n∈hasNo l,n ∉ acc)->(first=true->∀ y,l.head? = some y->y.time≠5)->AxX acc first l
 | [],_,_,_,_,_,_=>trivial
 | x::r,acc,first,h,hd,ha,h5=>by
  have hx:=h x (by simp);have e:hasNo (x::r)=if x.no=[] then hasNo r else x.no::hasNo r:=by
   grind[hasNo,nosL]
  rw[e]at hd ha;have hrest:(hasNo r).Nodup/\(∀ n∈hasNo r,n ∉ dd acc x.no):=by
   by_cases h0:x.no=[]
   .rw [if_pos h0]at hd ha
    refine⟨hd,fun n hn hm=>?_⟩;have hne:n≠[]:=by
     have:=List.mem_filter.1 hn
     simpa using this.2
    unfold dd at hm
    split at hm
    .exact ha n hn hm
    .rcases List.mem_append.1 hm with hm|hm
     .exact ha n hn hm
     .rw [List.mem_singleton.1 hm]at hne; exact hne h0
   .rw [if_neg h0]at hd ha
    obtain⟨d1,d2⟩:=List.nodup_cons.1 hd;refine⟨d2,fun n hn hm=>?_⟩;unfold dd at hm
    split at hm
    .exact ha n (by simp[hn]) hm
    .rcases List.mem_append.1 hm with hm|hm
     .exact ha n (by simp[hn]) hm
     .rw [List.mem_singleton.1 hm]at hn; exact d1 hn
  refine⟨?_,hx.place,hx.time,fun hf=>h5 hf x rfl,hx.sc,BiU r _ false (fun y hy=>h y (by simp[hy])) hrest.1 hrest.2 (by simp)⟩
  by_cases h0:x.no=[]
  .exact .inl h0
  .have hn:=hx.no.resolve_left h0
   refine .inr ⟨hn,by have:=(AaN hn).2.1; omega,?_⟩;rw[if_neg h0]at ha;exact ha _ (by simp)
theorem set_hall':([72,65,76,76]:LU)∈SetL:=by decide
theorem drawn_some:DrawnS ⟨[],1,[72,65,76,76],1,[]⟩:=⟨rfl,by simp,set_hall',by simp,⟨0,rfl,by decide,by decide⟩,by simp,by simp,by simp[wtL]⟩
theorem A4G(out:List Sc)(y:Sc):List.map scA out++[AV.agg [.str y.no,.int .i64 y.place,.str y.set,.int .i64 y.time,.fz 2 (List.map paA y.Ld)]]=List.map scA (out++[y]):=by simp[scA]
theorem AqG(n:Nat)(l:List Sc):lowB n (.arr 5 (l.map scA))=true:=AaD (AaF l)
theorem AzS(E:List LU)(xs:List Sc):∀ i,i<=xs.length->∀ y∈ysTo E xs i,∃ x∈xs,∃ n,y={ x with no:=n }
 | 0,_,y,hy=>by grind[ysTo]
 | i+1,hi,y,hy=>by
  simp only[ysTo,lcb,List.mem_singleton]at hy
  rcases hy with hy|rfl
  .exact AzS E xs i (by omega) y hy
  .exact ⟨xs.getD i sc0,by simp[List.getD,show i<xs.length by omega],_,rfl⟩
theorem AtE{E:List LU}{xs:List Sc}{i:Nat}(hi:i<=xs.length)(hx:∀ x∈xs,SceneD x)(h:RenI E xs i):∀ y∈ysTo E xs i,SceneD y:=fun y hy=>by
 obtain⟨x,hm,n,rfl⟩:=AzS E xs i hi y hy;exact(hx x hm).renum (.inr (h.num _ hy))
theorem A8L{l:List LU}(hh:∀ n∈l,leafNameL n=true)(h:∀ i,(h:i+1<l.length)->nLt (endsL l[i]).2 (endsL l[i+1]).1):AeP l:=by
 unfold AeP;rw[lcc];have key:∀ j i,(hj:j<l.length)->(hij:i<j)->nLt (endsL (l[i]'(by omega))).2 (endsL l[j]).1:=by
  intro j
  induction j<;>grind[ends_num,nLt_trans]
 grind
theorem AmF{l:List Le'}:∀ (j i:Nat),i<j->j<(AaC l).length->(rat (AaC l) i).1<(rat (AaC l) j).1
 | 0,i,h,_=>by omega
 | j+1,i,h,hj=>by
  have hr:=AcQ l;have h1:=hr.adj j hj;have h2:=(hr.one j (by omega)).1
  by_cases e:i=j
  .subst e; omega
  .have:=AmF (l:=l) j i (by omega) (by omega); omega
theorem B1B{d:Dr}{E E':List LU}{ys:List Sc}(hd:DrIn d)(ho:DraftOk d)(hE:EntOf d E)(hm:MdOk ys E')(hs:E'.Pairwise nLt)(hsub:∀ e∈E,e∈E'):RelOk ys E' d.La:=by
 have hl:=ho.lv E hE;have hr:=AcQ d.La;have hlt:∀ k,k<(AaC d.La).length->(rat (AaC d.La) k).1<d.La.length:=fun k hk=>by have:=hr.one k hk; omega
 refine⟨hm,hs,fun k hk=>hsub _ (hl.mem _ (hlt k hk) (hr.one k hk).2.2.1),fun i j hij hj=>hl.rise _ _ (AmF j i hij hj) (hlt j hj) (hr.one i (by omega)).2.2.1 (hr.one j hj).2.2.1,fun f hf=>(ho.binder.all f hf).name,?_,fun f hf=>?_,hd.Lo⟩
 .refine A8L (fun n hn=>?_) fun i hi=>?_
  .obtain ⟨f,hf,rfl⟩:=List.mem_map.1 hn
   exact(ho.binder.all f hf).name
  .simp at hi
   simpa using ho.binder.rise i hi
 .have:=hd.La f hf
  omega
structure NextG(d:Dr)(x:Sr)(E E':List LU)(la:LU)(l:List Le'):Prop where
 ok:DraftOk d
 no:d.no≠30
 ent:EntOf d E
 run:RunS x.Lc E x.Lc.length
 ren:RenI E x.Lc x.Lc.length
 few:(Lm E (ysTo E x.Lc x.Lc.length)).length+x.Lc.length<=300
 ent':EntOf ⟨d.no+1,x.Lk,ysTo E x.Lc x.Lc.length,Lm E (ysTo E x.Lc x.Lc.length),[]⟩ E'
 rel:RelOk (ysTo E x.Lc x.Lc.length) E' d.La
 La:relTo (ysTo E x.Lc x.Lc.length) E' d.La (d.no+1) ((AaC d.La).length+1)=some (la,l)
 many:l.length<=1500
def nextD(d:Dr)(x:Sr)(E:List LU)(l:List Le'):Dr:=⟨d.no+1,x.Lk,ysTo E x.Lc x.Lc.length,Lm E (ysTo E x.Lc x.Lc.length),l.map (fixL d.La)⟩
def B1C(d:Dr)(x:Sr)(r:AV):Prop:=(∃ e:Int,e≠0/\r=.tup [drZ,.int .i64 e])\/∃ E E' la l,NextG d x E E' la l/\r=.tup [drA (nextD d x E l),.int .i64 0]
theorem AtF{E:List LU}{ys:List Sc}(hE:E.Pairwise nLt):(Lm E ys).Pairwise nLt/\(∀ e∈Lm E ys,e∈E/\e ∉ nosL ys):=by
 refine⟨hE.sublist List.filter_sublist,fun e he=>?_⟩;have:=List.mem_filter.1 he
 grind
theorem BiV{d:Dr}{x:Sr}{E:List LU}(hd:DrIn d)(ho:DraftOk d)(hE:EntOf d E)(hx:∀ y∈x.Lc,SceneD y)(h:RenI E x.Lc x.Lc.length)(hf:(Lm E (ysTo E x.Lc x.Lc.length)).length+x.Lc.length<=300) :
  ∃ E',EntOf ⟨d.no+1,x.Lk,ysTo E x.Lc x.Lc.length,Lm E (ysTo E x.Lc x.Lc.length),[]⟩ E'/\RelOk (ysTo E x.Lc x.Lc.length) E' d.La:=by
 have hyl:=AiG E x.Lc x.Lc.length;have hsc:=AtE (lad _) hx h;have hn:=h.num;have hr:=h.rise;generalize ysTo E x.Lc x.Lc.length=ys at *;obtain⟨g1,g2⟩:=AtF hE.sorted;have hnum:∀ y∈nosL ys,numberL y=true:=fun y hy=>by
  obtain⟨z,hz,rfl⟩:=List.mem_map.1 hy
  grind
 have hgn:=fun y hy=>hE.num y (g2 y hy).1
 obtain⟨E',p,s⟩:=A3U (Lm E ys) (nosL ys) hr g1 hnum hgn fun y hy=>(g2 y hy).2
 have hall:∀ y∈E',numberL y=true:=fun y hy=>by
  grind
 have hlen:=p.length_eq;simp only[lah,nosL,laa]at hlen;refine⟨E',⟨p,s,hall⟩,B1B hd ho hE ⟨hsc,hr.imp fun hlt e=>by grind[nLt_irrefl],by omega,by omega,hall⟩ s fun e he=>p.mem_iff.2 ?_⟩
 by_cases hm:e∈nosL ys
 .grind
 .exact List.mem_append.2 (.inl (List.mem_filter.2 ⟨he,by grind⟩))
