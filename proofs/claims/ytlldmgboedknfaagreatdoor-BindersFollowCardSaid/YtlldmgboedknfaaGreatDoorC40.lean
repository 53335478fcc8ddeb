/- releafed: the leaves of a new draft. -/
import Derived.Test.YtlldmgboedknfaaGreatDoorC39
set_option maxRecDepth 100000
set_option linter.unusedSimpArgs false
set_option linter.unusedVariables false
namespace Go.Proofs.YtlldmgboedknfaaGreatDoor
open Go Go.Av Go.RowKit
def AeT(l:List (List UInt8)):Prop:=l.Pairwise fun a b=>nLt (endsL a).2 (endsL b).1
theorem AcH{l:List (List UInt8)}{i:Nat}(h:i<l.length):l.getD i []∈l:=by simp[List.getD,h]
theorem AyX{out:List (List UInt8)}{last:List UInt8}(hh:∀ n∈out,leafNameL n=true)(hl:last=[]\/numberL last=true):AeS out last=[]\/numberL (AeS out last)=true:=by
 unfold AeS
 split
 .exact hl
 .rename_i hne
  have:=List.length_pos_iff.2 hne;exact .inr (AaJ (hh _ (AcH (by omega)))).2.1
theorem AyY{upper last:List UInt8}(hl:last=[]\/numberL last=true):∀ (n:Nat)(out g:List (List UInt8)),(∀ x∈out,leafNameL x=true)->nameUp upper last n out=some g->g.length=out.length+n/\∀ x∈g,leafNameL x=true
 | 0,out,g,hh,h=>by
  simp only[nameUp,Option.some.injEq]at h;subst h; exact⟨rfl,hh⟩
 | n+1,out,g,hh,h=>by
  simp only[nameUp]at h
  split at h
  .simp at h
  .rename_i hne
   have hs:=AeM (AyX hh hl) hne;obtain⟨a1,a2⟩:=AyY hl n _ g (fun x hx=>by
    rcases List.mem_append.1 hx with hx|hx
    .exact hh x hx
    .rw [List.mem_singleton.1 hx]; exact AgQ hs.1) h
   exact⟨by simp at a1; omega,a2⟩
theorem BfE{had:List (List UInt8)}(hh:∀ n∈had,leafNameL n=true)(hr:AeT had){a b:Nat}(hab:a<b)(hb:b<had.length):nLt (endsL (had.getD a [])).1 (endsL (had.getD b [])).2:=by
 have h1:=AaJ (hh _ (AcH (show a<had.length by omega)));have h2:=AaJ (hh _ (AcH hb));have h3:nLt (endsL (had.getD a [])).2 (endsL (had.getD b [])).1:=by
  have:=List.pairwise_iff_getElem.1 hr a b (by omega) hb hab
  simpa[List.getD,show a<had.length by omega,hb]using this
 have h4:nLt (endsL (had.getD a [])).1 (endsL (had.getD b [])).1:=by
  rcases h1.2.2 with e|e
  .rw [e]; exact h3
  .exact AaF e h3
 rcases h2.2.2 with e|e
 .rw [<- e]; exact h4
 .exact AaF h4 e
theorem ApT{had:List (List UInt8)}{many:Nat}{last upper:List UInt8}{g:List (List UInt8)}(h1:1<=many)(hh:∀ n∈had,leafNameL n=true)(hr:AeT had)(hl:last=[]\/numberL last=true)(hg:AgS had many last upper=some g):g.length=many/\∀ n∈g,leafNameL n=true:=by
 unfold AgS at hg
 split at hg
 .rename_i hlt
  simp only[Option.some.injEq]at hg;subst hg;refine⟨by simp; omega,fun n hn=>?_⟩
  rcases List.mem_or_eq_of_mem_set hn with hn|rfl
  .exact hh n (List.mem_of_mem_take hn)
  .have e1:=AaJ (hh _ (AcH (show many-1<had.length by omega)))
   have e2:=AaJ (hh _ (AcH (show had.length-1<had.length by omega)));exact AyR e1.1 e2.2.1 (BfE hh hr (by omega) (by omega))
 .obtain ⟨a1,a2⟩:=AyY hl _ had g hh hg
  exact⟨by omega,a2⟩
theorem AbY{n:List UInt8}(h:leafNameL n=true):n.length<10000:=by
 have h1:=AaJ h;have l1:=(AaG h1.1).2.1;have l2:=(AaG h1.2.1).2.1;unfold endsL at l1 l2;simp only at l1 l2;unfold Lib.cut at l1 l2
 split at l1
 .rename_i hc
  rw[if_pos hc]at l2
  simp at l1 l2
  omega
 .simp at l1; omega
def stI(E:List (List UInt8))(lv:List Le')(k:Nat):Nat:=if k=0 then 0 else if k<=(runsL lv).length then ixN E (fst lv (rat (runsL lv) (k-1)).1) else E.length
def nmI(lv:List Le')(k:Nat):List (List UInt8):=if k=0 then[] else((lv.take (rat (runsL lv) (k-1)).2).drop (rat (runsL lv) (k-1)).1).map (·.name)
def upI(lv:List Le')(k:Nat):List UInt8:=if k<(runsL lv).length then(endsL (lv.getD (rat (runsL lv) k).1 le0).name).1 else[]
def sgI(E:List (List UInt8))(lv:List Le')(k:Nat):List (List UInt8):=(E.take (stI E lv (k+1))).drop (stI E lv k)
def mkLv(no:Int)(g fi:List (List UInt8))(pg:List (List Ln))(i:Nat):List Le':=(List.range i).map fun k=>⟨g.getD k [],no,fi.getD k [],pg.getD k []⟩
theorem mkLv_step(no:Int)(g fi:List (List UInt8))(pg:List (List Ln))(i:Nat):mkLv no g fi pg (i+1)=mkLv no g fi pg i++[⟨g.getD i [],no,fi.getD i [],pg.getD i []⟩]:=by
 simp[mkLv,List.range_succ]
theorem mkLv_len(no:Int)(g fi:List (List UInt8))(pg:List (List Ln))(i:Nat):(mkLv no g fi pg i).length=i:=by simp[mkLv]
def pgI'(ys:List Sc)(E:List (List UInt8))(lv:List Le')(k:Nat):List (List Ln):=(layL (entsB ys (sgI E lv k))).pages
def stepR(ys:List Sc)(E:List (List UInt8))(lv:List Le')(no:Int)(k:Nat)(s:List UInt8×List Le'):Option (List UInt8×List Le') :=
 if stI E lv k=stI E lv (k+1) then some s
 else match AgS (nmI lv k) (pgI' ys E lv k).length s.1 (upI lv k)with
  | none=>none
  | some g=>some ((endsL (g.getD (g.length-1) [])).2,s.2++mkLv no g (firstsI ys (sgI E lv k)) (pgI' ys E lv k) (pgI' ys E lv k).length)
def relTo(ys:List Sc)(E:List (List UInt8))(lv:List Le')(no:Int):Nat->Option (List UInt8×List Le')
 | 0=>some ([],[])
 | k+1=>match relTo ys E lv no k with
  | none=>none
  | some s=>stepR ys E lv no k s
def fixL(lv:List Le')(f:Le'):Le':=match lv.find? (fun x=>x.name==f.name)with
 | some x=>if x.first=f.first/\x.lines=f.lines then{ f with draft:=x.draft } else f
 | none=>f
structure RelOk(ys:List Sc)(E:List (List UInt8))(lv:List Le'):Prop where
 md:MdOk ys E
 sorted:E.Pairwise nLt
 mem:∀ k,k<(runsL lv).length->fst lv (rat (runsL lv) k).1∈E
 rise:∀ i j,i<j->j<(runsL lv).length->nLt (fst lv (rat (runsL lv) i).1) (fst lv (rat (runsL lv) j).1)
 names:∀ f∈lv,leafNameL f.name=true
 riseN:AeT (lv.map (·.name))
 lines:∀ f∈lv,f.lines.length<1000000/\f.first.length<1000000
 few:lv.length<=100000
theorem BfF{ys:List Sc}{E:List (List UInt8)}{lv:List Le'}(h:RelOk ys E lv){k:Nat}:stI E lv k<=stI E lv (k+1)/\stI E lv (k+1)<=E.length:=by
 have hix:∀ j,j<(runsL lv).length->ixN E (fst lv (rat (runsL lv) j).1)<E.length:=fun j hj=>(ApG (h.mem j hj)).choose
 unfold stI;rw[if_neg (show k+1≠0 by omega)]
 by_cases k0:k=0
 .subst k0
  simp only[if_true,Nat.zero_add,Nat.sub_self]
  split
  .have:=hix 0 (by omega); omega
  .omega
 .rw [if_neg k0]
  simp only[Nat.add_sub_cancel]
  by_cases h1:k+1<=(runsL lv).length
  .rw [if_pos h1,if_pos (by omega)]
   have:=hix k (by omega);have:=A5I h.sorted (h.mem (k-1) (by omega)) (h.mem k (by omega)) (h.rise (k-1) k (by omega) (by omega));omega
  .rw [if_neg h1]
   split
   .have:=hix (k-1) (by omega); omega
   .omega
theorem A6B{ys:List Sc}{E:List (List UInt8)}{lv:List Le'}(h:RelOk ys E lv)(k:Nat):(∀ n∈nmI lv k,leafNameL n=true/\n.length<1000000)/\AeT (nmI lv k)/\(nmI lv k).length<=100000:=by
 have hf:=h.few;unfold nmI
 split
 .exact ⟨by simp,by simp[AeT],by simp⟩
 .refine ⟨fun n hn=>?_,?_,by simp; omega⟩
  .obtain ⟨f,hf,rfl⟩:=List.mem_map.1 hn
   have hm:=h.names f (List.mem_of_mem_take (List.mem_of_mem_drop hf));exact⟨hm,by have:=AbY hm; omega⟩
  .have:=h.riseN
   unfold AeT at this |-;rw[List.map_drop,List.map_take];exact(this.sublist (List.take_sublist _ _)).sublist (List.drop_sublist _ _)
theorem BtP{ys:List Sc}{E:List (List UInt8)}{lv:List Le'}(h:RelOk ys E lv)(k:Nat):upI lv k=[]\/numberL (upI lv k)=true:=by
 unfold upI
 split
 .rename_i hk
  have hr:=(AcQ lv).one k hk;have hl:(rat (runsL lv) k).1<lv.length:=by omega
  exact .inr (AaJ (h.names _ (by simp[List.getD,hl]))).1
 .exact .inl rfl
theorem ApU{ys:List Sc}{E:List (List UInt8)}{lv:List Le'}(h:RelOk ys E lv)(k:Nat):MdOk ys (sgI E lv k):=A5K h.md _ _
theorem AlW{a:List UInt8}(h:numberL a=true):a≠[]/\∀ r:List UInt8,(a++r).head?≠some 32:=by
 have hne:=AgR h;refine⟨hne,fun r e=>?_⟩
 cases a with
 | nil=>exact hne rfl
 | cons c t =>
  simp only[List.cons_append,List.head?_cons,Option.some.injEq]at e;subst e;have hx:(32:UInt8)∈(32::t:List UInt8):=by simp
  rw[AdG (32::t)]at hx
  rcases List.mem_append.1 hx with hx|hx
  .exact absurd (AjR digB _ 32 hx) (by decide)
  .exact absurd (List.all_eq_true.1 (AbS h).2.2.2 32 hx) (by decide)
theorem AsE:∀ (ps:List Pa)(s:List Bl×Bl)(b:Bl)(r:List Bl),s.1++[s.2]=b::r->∃ b' r',(ps.foldl bstep s).1++[(ps.foldl bstep s).2]=b'::r'/\b.lines.length<=b'.lines.length
 | [],s,b,r,h=>⟨b,r,h,Nat.le_refl _⟩
 | p::ps,s,b,r,h=>by
  have hstep:∃ b2 r2,(bstep s p).1++[(bstep s p).2]=b2::r2/\b.lines.length<=b2.lines.length:=by
   unfold bstep
   split
   .obtain ⟨dn,cur⟩:=s
    cases dn with
    | nil =>
     simp only[List.nil_append,List.cons.injEq]at h;refine⟨moreB cur p,[],rfl,?_⟩;rw[<- h.1];unfold moreB addB
     split <;> simp
    | cons d ds =>
     simp only[List.cons_append,List.cons.injEq]at h;exact⟨d,ds++[moreB cur p],rfl,by rw[h.1]; exact Nat.le_refl _⟩
   .exact ⟨b,r++[newB p],by simp only[h,List.cons_append],Nat.le_refl _⟩
  obtain⟨b2,r2,h1,h2⟩:=hstep;obtain⟨b3,r3,h3,h4⟩:=AsE ps (bstep s p) b2 r2 h1;exact⟨b3,r3,by rw[List.foldl_cons]; exact h3,by omega⟩
theorem A6C{xs:List Sc}{no:List UInt8}(hn:numberL no=true):∃ b r,entB xs no=b::r/\1<=b.lines.length:=by
 unfold entB
 cases h:atNo xs no with
 | none =>
  refine⟨AiQ no,[],rfl,?_⟩;exact AlC (by omega) (by simp[goneT,AgR hn]) ((AlW hn).2 _)
 | some x =>
  have hx:=(AhM h).2;have hw:1<=(AbH 60 (headL x)).length:=by
   have hb:(x.no != [])=true:=by rw[hx]; simpa using AgR hn
   refine AlC (by omega) ?_ ?_ <;> unfold headL <;> rw[if_pos hb,hx]
   .simp
   .rw [List.append_assoc]; exact(AlW hn).2 _
  obtain⟨b,r,h1,h2⟩:=AsE x.paras ([],⟨0,AbH 60 (headL x),[],[]⟩) _ [] rfl;exact⟨b,r,h1,by simp only at h2; omega⟩
def AuW(s:LS):Prop:=1<=s.pages.length\/s.page≠[]
theorem ApV(b:Bl):∀ (f fr:Nat)(s:LS),s.pages.length<=(placeB b f fr s).pages.length
 | 0,_,s=>Nat.le_refl _
 | f+1,fr,s=>by
  unfold placeB
  split
  .exact Nat.le_refl _
  .refine Nat.le_trans ?_ (ApV b f _ _)
   rw[(AfU b _).1]; simp[addS]
theorem AhQ{b:Bl}{f fr:Nat}{s:LS}(h:AuW s\/(fr=0/\1<=b.lines.length)):AuW (placeB b (f+1) fr s):=by
 unfold placeB
 split
 .rename_i he
  rcases h with(h|h)|⟨h,h'⟩
  .exact .inl h
  .exact .inr (by simp[addS,h])
  .refine .inr fun e=>?_
   have:=congrArg List.length e;simp only[addS,partL',he,List.length_append,List.length_drop,List.length_take,List.length_nil]at this;omega
 .refine .inl (Nat.le_trans ?_ (ApV b f _ _))
  rw[(AfU b _).1]; omega
theorem AyZ{bs:List Bl}{i:Nat}{b:Bl}{s:LS}(h:AuW s):AuW (openS bs i b s):=by
 have h1:AuW (turnS bs i b s):=by
  unfold turnS
  split
  .exact .inl (by simp[flushS])
  .exact h
 have h2:AuW (firstS i (turnS bs i b s)):=by
  unfold firstS
  split
  .rcases h1 with h1|h1
   .exact .inl h1
   .rename_i hp; exact absurd hp h1
  .exact h1
 unfold openS gapS
 rcases h2 with h2|h2
 .exact .inl h2
 .exact .inr (by simp[h2])
theorem BkY{b:Bl}{r:List Bl}(h:1<=b.lines.length):1<=(layL (b::r)).pages.length:=by
 have key:∀ i,i<(b::r).length->AuW (layTo (b::r) (i+1)):=by
  intro i
  induction i with
  | zero=>intro _; simp only[layTo,List.getElem?_cons_zero]; exact AhQ (.inr ⟨rfl,h⟩)
  | succ i ih =>
   intro hi;have:=ih (by omega);rw[layTo,List.getElem?_eq_getElem hi];exact AhQ (.inl (AyZ this))
 have h1:=key r.length (by simp);unfold layL;rw[show(b::r).length=r.length+1 by simp]
 split
 .simp [flushS]
 .rename_i hp
  rcases h1 with h1|h1
  .exact h1
  .exact absurd h1 hp
theorem A2S{xs:List Sc}{nos:List (List UInt8)}(hm:MdOk xs nos)(h:nos≠[]):1<=(layL (entsB xs nos)).pages.length:=by
 cases nos with
 | nil=>exact absurd rfl h
 | cons n r =>
  obtain⟨b,q,h1,h2⟩:=A6C (xs:=xs) (hm.num n (by simp));have e:entsB xs (n::r)=b::(q++entsB xs r):=by simp[entsB,h1]
  rw[e];exact BkY h2
theorem BqL{xs:List Sc}(hx:∀ x∈xs,SceneD x){no:List UInt8}(hn:numberL no=true):(∀ b∈entB xs no,AjQ b)/\costP (entB xs no)<=5256:=by
 unfold entB
 cases h:atNo xs no with
 | none =>
  have hl:=(AaG hn).2.1;have hw:=AgP (W:=60) (by omega) (goneT no);have hg:(goneT no).length<=1008:=by simp[goneT,A8C]; omega
  have hL:(AiQ no).lines.length<=40:=by simp only[AiQ]; omega
  refine⟨fun b hb=>?_,?_⟩
  .rw [List.mem_singleton.1 hb]; exact .inr (.inr hL)
  .simp [costP]; omega
 | some x =>
  have hd:=hx x (AhM h).1;obtain⟨s1,s2⟩:=AyM hd;have:=hd.wt;exact⟨s1,by simp only; omega⟩
theorem BqM{xs:List Sc}{nos:List (List UInt8)}(hm:MdOk xs nos):(layL (entsB xs nos)).pages.length<=50000:=by
 have key:∀ l:List (List UInt8),(∀ n∈l,numberL n=true)->(∀ b∈entsB xs l,AjQ b)/\costP (entsB xs l)<=5256*l.length:=by
  intro l
  induction l with
  | nil=>intro _; exact⟨by simp[entsB],by simp[entsB,costP]⟩
  | cons n r ih =>
   intro h;obtain⟨i1,i2⟩:=ih fun m hm=>h m (by simp[hm])
   obtain⟨s1,s2⟩:=BqL hm.sc (h n (by simp));have e:entsB xs (n::r)=entB xs n++entsB xs r:=by simp[entsB]
   rw[e];refine⟨fun b hb=>?_,?_⟩
   .rcases List.mem_append.1 hb with hb|hb
    .exact s1 b hb
    .exact i1 b hb
   .rw [costP_append,List.length_cons,Nat.mul_add]; omega
 obtain⟨k1,k2⟩:=key nos hm.num;have:=A5R k1;have h6:5256*nos.length<=5256*300:=Nat.mul_le_mul_left _ hm.fewN;omega
theorem ApW{l:List (List UInt8)}(hh:∀ n∈l,leafNameL n=true)(hr:AeT l):l.Nodup:=by
 induction l with
 | nil=>simp
 | cons a r ih =>
  obtain⟨h1,h2⟩:=List.pairwise_cons.1 hr;refine List.nodup_cons.2 ⟨fun hm=>?_,ih (fun n hn=>hh n (by simp[hn])) h2⟩;have h3:=h1 a hm
  rcases(AaJ (hh a (by simp))).2.2 with e|e
  .rw [e]at h3; exact AaH _ h3
  .exact AaH _ (AaF e h3)
def lvE(l:List Le'):List (List UInt8×AV):=l.map fun f=>(f.name,leA f)
theorem ApX(l:List Le')(k:List UInt8):(∃ i f,l.find? (fun x=>x.name==k)=some f/\mfind .string (.str k) (sM (lvE l)) 0=some (some (i,leA f)))\/(l.find? (fun x=>x.name==k)=none/\mfind .string (.str k) (sM (lvE l)) 0=some none):=by
 have hf:(lvE l).find? (fun p=>p.1==k)=(l.find? (fun x=>x.name==k)).map fun f=>(f.name,leA f):=by
  unfold lvE;rw[List.find?_map]; rfl
 rcases AkZ k (lvE l) 0 with⟨i,v,h1,h2⟩|⟨h1,h2⟩
 .left
  rw[hf]at h1
  cases hq:l.find? (fun x=>x.name==k)with
  | none=>rw[hq]at h1; simp at h1
  | some f =>
   rw[hq]at h1;simp only[Option.map_some,Option.some.injEq,Prod.mk.injEq]at h1;exact⟨i,f,rfl,by rw[h2,h1.2]⟩
 .right
  rw[hf]at h1
  cases hq:l.find? (fun x=>x.name==k)with
  | none=>exact⟨rfl,h2⟩
  | some f=>rw[hq]at h1; simp at h1
theorem A6D(l:List Le')(f:Le'):sM (lvE l)++[(.str f.name,leA f)]=sM (lvE (l++[f])):=by simp[lvE,sM]
theorem BfG{l:List Le'}(hd:(l.map (·.name)).Nodup){i:Nat}(hi:i<l.length):mfind .string (.str l[i].name) (sM (lvE (l.take i))) 0=some none:=by
 rcases ApX (l.take i) l[i].name with⟨j,f,h1,_⟩|⟨_,h⟩
 .exfalso
  have hm:=List.mem_of_find?_eq_some h1;have he:=List.find?_some h1;simp only[beq_iff_eq]at he;obtain⟨k,hk,rfl⟩:=List.mem_iff_getElem.1 hm;simp only[List.length_take]at hk;simp only[List.getElem_take]at he;have hp:=List.pairwise_iff_getElem.1 hd k i (by simp; omega) (by simpa using hi) (by omega);simp only[List.getElem_map]at hp;exact hp he
 .exact h
structure RelI(s:List UInt8×List Le'):Prop where
 last:s.1=[]\/numberL s.1=true
 names:∀ f∈s.2,leafNameL f.name=true
 lines:∀ f∈s.2,f.lines.length<=54
theorem BkZ(Y:List Le')(x:Le')(r:List Le'):List.getD ((Y++x::r).map leA) Y.length .any=.agg [.str x.name,.int .i64 x.draft,.str x.first,.fz 1 (x.lines.map .str)]:=by simp[List.getD,leA]
theorem BlA(Y:List Le')(x:Le')(r:List Le')(q:Int):((Y++x::r).map leA).set Y.length (.agg [.str x.name,.int .i64 q,.str x.first,.fz 1 (x.lines.map .str)])=((Y++[{ x with draft:=q }])++r).map leA:=by simp[leA]
theorem AzA{lv:List Le'}{f:Le'}(h:lv.find? (fun x=>x.name==f.name)=none):fixL lv f=f:=by simp[fixL,h]
theorem AlD{lv:List Le'}{f x:Le'}(h:lv.find? (fun x=>x.name==f.name)=some x)(hn:¬ (x.first=f.first/\x.lines=f.lines)):fixL lv f=f:=by simp only[fixL,h]; rw[if_neg hn]
theorem AzB{lv:List Le'}{f x:Le'}(h:lv.find? (fun x=>x.name==f.name)=some x)(hy:x.first=f.first/\x.lines=f.lines):fixL lv f={ f with draft:=x.draft }:=by simp only[fixL,h]; rw[if_pos hy]
theorem BlB{α:Type}(E:List α){a b:Nat}(h:a<=b):E.take b=E.take a++(E.take b).drop a:=by
 have:E.take a=(E.take b).take a:=by rw[List.take_take]; congr 1; omega
 rw[this,List.take_append_drop]
theorem entsB_append(ys:List Sc)(a b:List (List UInt8)):entsB ys (a++b)=entsB ys a++entsB ys b:=by simp[entsB]
theorem stI_end(E:List (List UInt8))(lv:List Le'):stI E lv ((runsL lv).length+1)=E.length:=by
 unfold stI;rw[if_neg (by omega),if_neg (by omega)]
theorem A2T:(layL []).pages=[]:=by simp[layL,layTo]
theorem AcY(lv:List Le')(f:Le'):(fixL lv f).lines=f.lines/\(fixL lv f).name=f.name/\(fixL lv f).first=f.first:=by
 unfold fixL
 split
 .split <;> exact⟨rfl,rfl,rfl⟩
 .exact ⟨rfl,rfl,rfl⟩
theorem BfH{bs:List Bl}{k:Nat}{b:Bl}(hk:∀ d,bs[k]? = some d->d.kind=0){i:Nat}(hi:i<k):AdQ (bs.take k) i b=AdQ bs i b:=by
 unfold AdQ
 congr 1
 split
 .by_cases h1:i+1<k
  .rw [List.getElem?_take,if_pos h1]
  .have:i+1=k:=by omega
   rw[List.getElem?_take,if_neg h1,this]
   cases hq:bs[k]? with
   | none=>rfl
   | some d=>simp[hk d hq]
 .rfl
theorem AsF{bs:List Bl}{k:Nat}(hk:∀ d,bs[k]? = some d->d.kind=0):∀ i,i<=k->layTo (bs.take k) i=layTo bs i
 | 0,_=>rfl
 | i+1,hi=>by
  have ih:=AsF hk i (by omega);have hg:(bs.take k)[i]? = bs[i]?:=by rw[List.getElem?_take,if_pos (by omega)]
  simp only[layTo,hg]
  cases hq:bs[i]? with
  | none=>exact ih
  | some b =>
   simp only;rw[ih];have:openS (bs.take k) i b (layTo bs i)=openS bs i b (layTo bs i):=by
    unfold openS turnS;rw[BfH hk (by omega)]
   rw[this]
def shI(k:Nat)(n:Int):Int:=if n<0 then n else n+k
structure ShS(P:List (List Ln))(F:List Int)(k:Nat)(s s':LS):Prop where
 pages:s.pages=P++s'.pages
 firsts:s.firsts=F++s'.firsts.map (shI k)
 page:s.page=s'.page
 first:s.page≠[]->s.first=shI k s'.first
theorem ShS.flush{P:List (List Ln)}{F:List Int}{k:Nat}{s s':LS}(h:ShS P F k s s')(hp:s.page≠[]):ShS P F k (flushS s) (flushS s'):=by
 refine⟨by simp[flushS,h.pages,h.page],?_,rfl,by simp[flushS]⟩
 simp[flushS,h.firsts,h.first hp]
theorem ShS.add{P:List (List Ln)}{F:List Int}{k:Nat}{s s':LS}(h:ShS P F k s s')(hf:s.first=shI k s'.first)(l:List Ln):ShS P F k (addS s l) (addS s' l):=⟨h.pages,h.firsts,by simp[addS,h.page],fun _=>hf⟩
theorem BfI(k:Nat):shI k (-1)=-1:=by simp[shI]
theorem AuX{P:List (List Ln)}{F:List Int}{k:Nat}(b:Bl):∀ (f fr:Nat)(s s':LS),ShS P F k s s'->s.first=shI k s'.first->ShS P F k (placeB b f fr s) (placeB b f fr s')/\((placeB b f fr s).first=shI k (placeB b f fr s').first)
 | 0,fr,s,s',h,hf=>⟨h,hf⟩
 | f+1,fr,s,s',h,hf=>by
  have hs:s'.page.length=s.page.length:=by rw[h.page]
  simp only[placeB,hs]
  split
  .exact ⟨h.add hf _,hf⟩
  .generalize stopL b fr (54-s.page.length)=tz
   refine AuX b f tz _ _ ?_ ?_
   .unfold breakS
    have h1:=(h.add hf (partL' b fr tz)).add (l:=if b.kind==3 then[AcD] else[]) hf;have h2:ShS P F k (flushS (addS (addS s (partL' b fr tz)) (if b.kind==3 then[AcD] else[]))) (flushS (addS (addS s' (partL' b fr tz)) (if b.kind==3 then[AcD] else[]))):=by
     refine⟨by simp only[flushS,h1.pages,h1.page,List.append_assoc],?_,rfl,by simp[flushS]⟩;simp only[flushS,h1.firsts,List.map_append,List.map_cons,List.map_nil,List.append_assoc]
     congr 3
    exact h2.add (by simp[flushS,BfI]) _
   .simp [breakS,addS,flushS,BfI]
theorem BqN{P:List (List Ln)}{F:List Int}{k:Nat}{bs cs:List Bl}{i j:Nat}{b:Bl}(hij:j=i+k)(hh:AdQ bs j b=AdQ cs i b){s s':LS}(h:ShS P F k s s')(hf:s.page≠[]->s.first=shI k s'.first):ShS P F k (openS bs j b s) (openS cs i b s')/\(openS bs j b s).first=shI k (openS cs i b s').first:=by
 have ht:ShS P F k (turnS bs j b s) (turnS cs i b s'):=by
  unfold turnS;rw[hh,<- h.page]
  split
  .rename_i hp; exact h.flush hp.1
  .exact h
 have hfst:ShS P F k (firstS j (turnS bs j b s)) (firstS i (turnS cs i b s'))/\(firstS j (turnS bs j b s)).first=shI k (firstS i (turnS cs i b s')).first:=by
  unfold firstS;rw[<- ht.page]
  split
  .rename_i hp
   have hk:(j:Int)=shI k (i:Int):=by simp only[shI]; rw[if_neg (by omega)]; omega
   exact⟨⟨ht.pages,ht.firsts,rfl,fun _=>hk⟩,hk⟩
  .rename_i hp; exact⟨ht,ht.first hp⟩
 unfold openS gapS;refine⟨⟨hfst.1.pages,hfst.1.firsts,?_,fun _=>hfst.2⟩,hfst.2⟩;simp only[hfst.1.page]
theorem BfJ{bs:List Bl}{k i:Nat}{b:Bl}:AdQ bs (i+k) b=AdQ (bs.drop k) i b:=by
 unfold AdQ;rw[List.getElem?_drop,show k+(i+1)=i+k+1 by omega]
theorem AsG{bs:List Bl}{k:Nat}{b:Bl}(hb:bs[k]? = some b)(hp:(turnS bs k b (layTo bs k)).page=[]):∀ i,i+k<bs.length->ShS (turnS bs k b (layTo bs k)).pages (turnS bs k b (layTo bs k)).firsts k (layTo bs (i+1+k)) (layTo (bs.drop k) (i+1))/\(layTo bs (i+1+k)).first=shI k (layTo (bs.drop k) (i+1)).first
 | 0,_=>by
  have hd:(bs.drop k)[0]? = some b:=by rw[List.getElem?_drop]; simpa using hb
  have e1:layTo bs (0+1+k)=placeB b (b.lines.length+1) 0 (openS bs k b (layTo bs k)):=by
   rw[show 0+1+k=k+1 by omega]; simp only[layTo,hb]
  have e2:layTo (bs.drop k) (0+1)=placeB b (b.lines.length+1) 0 (openS (bs.drop k) 0 b ⟨[],[],[],[],-1⟩):=by
   simp only[layTo,hd]
  have o1:openS bs k b (layTo bs k)=gapS b { turnS bs k b (layTo bs k)with first:=(k:Int) }:=by
   unfold openS firstS;rw[if_pos hp]
  have o2:openS (bs.drop k) 0 b ⟨[],[],[],[],-1⟩=gapS b ⟨[],[],[],[],((0:Nat):Int)⟩:=by
   unfold openS firstS turnS
   simp
  have hk:(k:Int)=shI k ((0:Nat):Int):=by simp[shI]
  rw[e1,e2,o1,o2];refine AuX b _ _ _ _ ⟨?_,?_,?_,fun _=>hk⟩ hk
  .simp [gapS]
  .simp [gapS]
  .simp [gapS,hp]
 | i+1,hi=>by
  obtain⟨h1,h2⟩:=AsG hb hp i (by omega);have hl:i+1+k<bs.length:=by omega
  have hq:bs[i+1+k]? = some bs[i+1+k]:=List.getElem?_eq_getElem hl;have hd:(bs.drop k)[i+1]? = some bs[i+1+k]:=by rw[List.getElem?_drop,show k+(i+1)=i+1+k by omega]; exact hq
  have e1:layTo bs (i+1+1+k)=placeB bs[i+1+k] (bs[i+1+k].lines.length+1) 0 (openS bs (i+1+k) bs[i+1+k] (layTo bs (i+1+k))):=by
   rw[show i+1+1+k=(i+1+k)+1 by omega];simp only[layTo,hq]
  have e2:layTo (bs.drop k) (i+1+1)=placeB bs[i+1+k] (bs[i+1+k].lines.length+1) 0 (openS (bs.drop k) (i+1) bs[i+1+k] (layTo (bs.drop k) (i+1))):=by
   simp only[layTo,hd]
  rw[e1,e2];obtain⟨o1,o2⟩:=BqN (j:=i+1+k) (i:=i+1) rfl (BfJ (bs:=bs) (b:=bs[i+1+k])) h1 (fun _=>h2);exact AuX _ _ _ _ _ o1 o2
theorem BfK{bs:List Bl}{k:Nat}{b:Bl}(hb:bs[k]? = some b)(hk:b.kind=0)(hp:(turnS bs k b (layTo bs k)).page=[]) :
  (layL bs).pages=(layL (bs.take k)).pages++(layL (bs.drop k)).pages/\(layL bs).firsts=(layL (bs.take k)).firsts++(layL (bs.drop k)).firsts.map (shI k)/\(layL (bs.take k)).pages=(turnS bs k b (layTo bs k)).pages:=by
 have hlt:k<bs.length:=(List.getElem?_eq_some_iff.1 hb).1;have htl:(bs.take k).length=k:=by simp; omega
 have ht:layTo (bs.take k) k=layTo bs k:=AsF (fun d hd=>by rw[hb]at hd; exact Option.some.inj hd▸hk) k (Nat.le_refl _);have hfst:(layL (bs.take k)).pages=(turnS bs k b (layTo bs k)).pages/\(layL (bs.take k)).firsts=(turnS bs k b (layTo bs k)).firsts:=by
  unfold layL;rw[htl,ht];unfold turnS at hp |-
  by_cases h0:(layTo bs k).page=[]
  .rw [if_neg (by simp[h0]),if_neg (by simp[h0])]
   exact⟨rfl,rfl⟩
  .rw [if_pos h0]
   split at hp
   .rename_i hc
    rw[if_pos hc];exact⟨rfl,rfl⟩
   .exact absurd hp h0
 obtain⟨m,hm⟩:∃ m,bs.length=m+1+k:=⟨bs.length-1-k,by omega⟩;have hdl:(bs.drop k).length=m+1:=by simp; omega
 obtain⟨s1,s2⟩:=AsG hb hp m (by omega);rw[hfst.1,hfst.2];unfold layL;rw[hm,hdl,<- s1.page]
 split
 .rename_i hne
  have:=s1.flush hne;exact⟨this.pages,this.firsts,rfl⟩
 .exact ⟨s1.pages,s1.firsts,rfl⟩
def OkF(bs:List Bl)(i j:Nat)(f:Int):Prop:=f<0\/∃ n:Nat,f=n/\n<i/\∃ b,bs[n]? = some b/\(turnS bs n b (layTo bs n)).page=[]/\(turnS bs n b (layTo bs n)).pages.length=j
structure InvF(bs:List Bl)(i:Nat)(s:LS):Prop where
 all:∀ j,(h:j<s.firsts.length)->OkF bs i j s.firsts[j]
 cur:OkF bs i s.pages.length s.first
 len:s.firsts.length=s.pages.length
theorem OkF.more{bs:List Bl}{i j:Nat}{f:Int}(h:OkF bs i j f):OkF bs (i+1) j f:=h.imp id fun⟨n,h1,h2,h3⟩=>⟨n,h1,by omega,h3⟩
theorem InvF.more{bs:List Bl}{i:Nat}{s:LS}(h:InvF bs i s):InvF bs (i+1) s:=⟨fun j hj=>(h.all j hj).more,h.cur.more,h.len⟩
theorem InvF.add{bs:List Bl}{i:Nat}{s:LS}(h:InvF bs i s)(l:List Ln):InvF bs i (addS s l):=⟨h.all,h.cur,h.len⟩
theorem InvF.flush{bs:List Bl}{i:Nat}{s:LS}(h:InvF bs i s):InvF bs i (flushS s):=by
 refine⟨fun j hj=>?_,.inl (by simp[flushS]),by simp[flushS,h.len]⟩;simp only[flushS,List.length_append,List.length_cons,List.length_nil]at hj;simp only[flushS,List.getElem_append]
 split
 .rename_i h1; exact h.all j h1
 .have:j=s.pages.length:=by have:=h.len; omega
  subst this;simp only[List.getElem_singleton];exact h.cur
theorem BfL{bs:List Bl}{i:Nat}(b:Bl):∀ (f fr:Nat)(s:LS),InvF bs i s->InvF bs i (placeB b f fr s)
 | 0,_,s,h=>h
 | f+1,fr,s,h=>by
  unfold placeB
  split
  .exact h.add _
  .exact BfL b f _ _ ((((h.add _).add _).flush).add _)
theorem ApY{bs:List Bl}:∀ i,i<=bs.length->InvF bs i (layTo bs i)
 | 0,_=>⟨by simp[layTo],.inl (by simp[layTo]),rfl⟩
 | i+1,hi=>by
  have ih:=ApY (bs:=bs) i (by omega);have hl:i<bs.length:=by omega
  have hq:bs[i]? = some bs[i]:=List.getElem?_eq_getElem hl;simp only[layTo,hq];refine BfL _ _ _ _ ?_;have ht:InvF bs i (turnS bs i bs[i] (layTo bs i)):=by
   unfold turnS
   split
   .exact ih.flush
   .exact ih
  unfold openS gapS firstS
  split
  .rename_i hp
   refine⟨fun j hj=>(ht.all j hj).more,.inr ⟨i,rfl,by omega,_,hq,hp,rfl⟩,ht.len⟩
  .exact ⟨fun j hj=>(ht.all j hj).more,ht.cur.more,ht.len⟩
theorem A2U{bs:List Bl}{j:Nat}(hj:j<(layL bs).firsts.length){n:Nat}(hn:(layL bs).firsts[j]=(n:Int)):n<bs.length/\∃ b,bs[n]? = some b/\(turnS bs n b (layTo bs n)).page=[]/\(turnS bs n b (layTo bs n)).pages.length=j:=by
 have h1:=ApY (bs:=bs) bs.length (Nat.le_refl _);have h2:InvF bs bs.length (layL bs):=by
  unfold layL
  split
  .exact h1.flush
  .exact h1
 rcases h2.all j hj with h|⟨m,h3,h4,h5⟩
 .omega
 .have:m=n:=by omega
  subst this;exact⟨h4,h5⟩
theorem BlC{bs:List Bl}:∀ f∈(layL bs).firsts,f<0\/∃ n:Nat,f=n/\n<bs.length:=fun f hf=>by
 have h1:=ApY (bs:=bs) bs.length (Nat.le_refl _);have h2:InvF bs bs.length (layL bs):=by
  unfold layL
  split
  .exact h1.flush
  .exact h1
 obtain⟨j,hj,rfl⟩:=List.mem_iff_getElem.1 hf;exact(h2.all j hj).imp id fun⟨n,h3,h4,_⟩=>⟨n,h3,h4⟩
theorem AsH:∀ (ps:List Pa)(s:List Bl×Bl)(b:Bl)(r:List Bl),s.1++[s.2]=b::r->∃ b' r',(ps.foldl bstep s).1++[(ps.foldl bstep s).2]=b'::r'/\b'.kind=b.kind
 | [],s,b,r,h=>⟨b,r,h,rfl⟩
 | p::ps,s,b,r,h=>by
  have hstep:∃ b2 r2,(bstep s p).1++[(bstep s p).2]=b2::r2/\b2.kind=b.kind:=by
   unfold bstep
   split
   .obtain ⟨dn,cur⟩:=s
    cases dn with
    | nil =>
     simp only[List.nil_append,List.cons.injEq]at h;refine⟨moreB cur p,[],rfl,?_⟩;rw[<- h.1];unfold moreB addB
     split <;> rfl
    | cons d ds =>
     simp only[List.cons_append,List.cons.injEq]at h;exact⟨d,ds++[moreB cur p],rfl,by rw[h.1]⟩
   .exact ⟨b,r++[newB p],by simp only[h,List.cons_append],rfl⟩
  obtain⟨b2,r2,h1,h2⟩:=hstep;obtain⟨b3,r3,h3,h4⟩:=AsH ps (bstep s p) b2 r2 h1;exact⟨b3,r3,by rw[List.foldl_cons]; exact h3,by rw[h4,h2]⟩
theorem A6E(xs:List Sc)(no:List UInt8):∃ b r,entB xs no=b::r/\b.kind=0:=by
 unfold entB
 cases h:atNo xs no with
 | none=>exact⟨AiQ no,[],rfl,rfl⟩
 | some x =>
  obtain⟨b,r,h1,h2⟩:=AsH x.paras ([],⟨0,AbH 60 (headL x),[],[]⟩) _ [] rfl;exact⟨b,r,h1,h2⟩
def offB(xs:List Sc)(nos:List (List UInt8))(i:Nat):Nat:=(entsB xs (nos.take i)).length
theorem BfM{xs:List Sc}{nos:List (List UInt8)}{i:Nat}(h:i<nos.length):offB xs nos i<offB xs nos (i+1):=by
 obtain⟨b,r,h1,_⟩:=A6E xs nos[i];unfold offB;rw[List.take_succ_eq_append_getElem h,entsB_append,List.length_append];have:entsB xs [nos[i]]=b::r:=by simp[entsB,h1]
 rw[this]; simp
theorem AgU{xs:List Sc}{nos:List (List UInt8)}:∀ {j i:Nat},i<j->j<=nos.length->offB xs nos i<offB xs nos j
 | 0,i,h,_=>by omega
 | j+1,i,h,hj=>by
  have h1:=BfM (xs:=xs) (show j<nos.length by omega)
  by_cases e:i=j
  .subst e; exact h1
  .exact Nat.lt_trans (AgU (show i<j by omega) (by omega)) h1
theorem BlD{xs:List Sc}{nos:List (List UInt8)}{i j:Nat}(hi:i<=nos.length)(hj:j<=nos.length)(h:offB xs nos i=offB xs nos j):i=j:=by
 rcases Nat.lt_trichotomy i j with h1|h1|h1
 .have:=AgU (xs:=xs) h1 hj; omega
 .exact h1
 .have:=AgU (xs:=xs) h1 hi; omega
theorem BqO{xs:List Sc}{nos:List (List UInt8)}{i:Nat}(h:i<nos.length):∃ b,(entsB xs nos)[offB xs nos i]? = some b/\b.kind=0:=by
 obtain⟨b,r,h1,h2⟩:=A6E xs nos[i];have e:entsB xs nos=entsB xs (nos.take i)++(b::r++entsB xs (nos.drop (i+1))):=by
  conv=>lhs; rw[<- List.take_append_drop i nos,List.drop_eq_getElem_cons h,entsB_append]
  congr 1
  rw[entsB,List.flatMap_cons,h1]; rfl
 refine⟨b,?_,h2⟩;rw[e,List.getElem?_append_right (by simp[offB])]
 simp[offB]
theorem AfI(xs:List Sc)(nos:List (List UInt8))(f:Int):(∃ m,m<nos.length/\(offB xs nos m:Int)=f/\AdJ xs nos f=nos.getD m [])\/((∀ m,m<nos.length->(offB xs nos m:Int)≠f)/\AdJ xs nos f=[]):=by
 unfold AdJ
 cases hq:(List.range nos.length).find? (fun j=>((entsB xs (nos.take j)).length:Int)==f)with
 | some j =>
  left
  have h1:=List.mem_of_find?_eq_some hq;have h2:=List.find?_some hq;simp only[List.mem_range]at h1;simp only[beq_iff_eq]at h2;exact⟨j,h1,h2,rfl⟩
 | none =>
  right
  refine⟨fun m hm e=>?_,rfl⟩;have:=List.find?_eq_none.1 hq m (by simpa using hm);simp only[beq_iff_eq]at this;exact this e
theorem A2V{xs:List Sc}{nos:List (List UInt8)}{m:Nat}(hm:m<nos.length):AdJ xs nos (offB xs nos m:Int)=nos.getD m []:=by
 rcases AfI xs nos (offB xs nos m)with⟨q,h1,h2,h3⟩|⟨h1,_⟩
 .have:q=m:=BlD (xs:=xs) (nos:=nos) (by omega) (by omega) (by omega)
  rw[h3,this]
 .exact absurd rfl (h1 m hm)
theorem AjU{xs:List Sc}{nos:List (List UInt8)}{f:Int}(h:∀ m,m<nos.length->(offB xs nos m:Int)≠f):AdJ xs nos f=[]:=by
 rcases AfI xs nos f with⟨q,h1,h2,_⟩|⟨_,h3⟩
 .exact absurd h2 (h q h1)
 .exact h3
theorem AzC{xs:List Sc}{nos:List (List UInt8)}{i m:Nat}(h:m<=i):offB xs (nos.take i) m=offB xs nos m:=by
 unfold offB; rw[List.take_take]; congr 2; rw[Nat.min_eq_left h]
theorem AzD{xs:List Sc}{nos:List (List UInt8)}{i m:Nat}:offB xs nos (i+m)=offB xs nos i+offB xs (nos.drop i) m:=by
 unfold offB;rw[List.take_add,entsB_append,List.length_append]
theorem A8Q{xs:List Sc}{nos:List (List UInt8)}{i:Nat}(hi:i<=nos.length){f:Int}(hf:f<offB xs nos i):AdJ xs nos f=AdJ xs (nos.take i) f:=by
 have hl:(nos.take i).length=i:=by simp; omega
 rcases AfI xs (nos.take i) f with⟨m,h1,h2,h3⟩|⟨h1,h3⟩
 .rw [hl]at h1
  rw[h3,<- h2,AzC (by omega),A2V (by omega)]
  simp[List.getD,List.getElem?_take,h1]
 .rw [h3]
  refine AjU fun m hm e=>?_
  rw[hl]at h1
  by_cases hmi:m<i
  .exact h1 m hmi (by rw[AzC (by omega)]; exact e)
  .by_cases e2:m=i
   .subst e2; omega
   .have:=AgU (xs:=xs) (show i<m by omega) (show m<=nos.length by omega)
    omega
theorem A8R{xs:List Sc}{nos:List (List UInt8)}{i:Nat}(hi:i<=nos.length)(f:Int):AdJ xs nos (shI (offB xs nos i) f)=AdJ xs (nos.drop i) f:=by
 have hl:(nos.drop i).length=nos.length-i:=by simp
 by_cases hf:f<0
 .have:shI (offB xs nos i) f=f:=by simp[shI,hf]
  rw[this,AjU fun m hm e=>by omega,AjU fun m hm e=>by omega]
 .have hs:shI (offB xs nos i) f=f+offB xs nos i:=by simp[shI,hf]
  rw[hs]
  rcases AfI xs (nos.drop i) f with⟨m,h1,h2,h3⟩|⟨h1,h3⟩
  .rw [h3]
   have:f+(offB xs nos i:Int)=(offB xs nos (i+m):Int):=by rw[AzD]; omega
   rw[this,A2V (by omega)]
   simp[List.getD,List.getElem?_drop]
  .rw [h3]
   refine AjU fun m hm e=>?_
   by_cases hmi:m<i
   .have:=AgU (xs:=xs) hmi hi; omega
   .refine h1 (m-i) (by omega) ?_
    have:=AzD (xs:=xs) (nos:=nos) (i:=i) (m:=m-i);rw[show i+(m-i)=m by omega]at this;omega
def pfL(xs:List Sc)(nos:List (List UInt8)):List (List Ln×List UInt8):=(layL (entsB xs nos)).pages.zip (firstsI xs nos)
theorem pf_len(xs:List Sc)(nos:List (List UInt8)):(pfL xs nos).length=(layL (entsB xs nos)).pages.length:=by
 simp only[pfL,List.length_zip,firstsI,List.length_map,firsts_pages]; omega
theorem BlE{xs:List Sc}{nos:List (List UInt8)}{j:Nat}(hj:j<(pfL xs nos).length)(hn:((pfL xs nos)[j]).2≠[]) :
  ∃ i,i<nos.length/\nos.getD i []=((pfL xs nos)[j]).2/\pfL xs nos=pfL xs (nos.take i)++pfL xs (nos.drop i)/\(pfL xs (nos.take i)).length=j:=by
 have hj1:j<(layL (entsB xs nos)).firsts.length:=by rw[firsts_pages,<- pf_len]; exact hj
 have e:((pfL xs nos)[j]).2=AdJ xs nos ((layL (entsB xs nos)).firsts[j]):=by simp[pfL,firstsI]
 rw[e]at hn |-
 rcases AfI xs nos ((layL (entsB xs nos)).firsts[j])with⟨i,h1,h2,h3⟩|⟨_,h3⟩
 .obtain ⟨g1,b,g2,g3,g4⟩:=A2U hj1 h2.symm
  obtain⟨b',k1,k2⟩:=BqO (xs:=xs) h1;rw[g2,Option.some.injEq]at k1;subst k1;obtain⟨s1,s2,s3⟩:=BfK g2 k2 g3;have ht:(entsB xs nos).take (offB xs nos i)=entsB xs (nos.take i):=by
   conv=>lhs; rw[<- List.take_append_drop i nos,entsB_append]
   rw[List.take_append_of_le_length (by simp[offB])]
   simp[offB]
  have hd:(entsB xs nos).drop (offB xs nos i)=entsB xs (nos.drop i):=by
   conv=>lhs; rw[<- List.take_append_drop i nos,entsB_append]
   rw[List.drop_append_of_le_length (by simp[offB])]
   simp[offB]
  rw[ht,hd]at s1 s2;rw[ht]at s3;refine⟨i,h1,h3.symm,?_,by rw[pf_len,s3,g4]⟩;have f1:firstsI xs nos=firstsI xs (nos.take i)++firstsI xs (nos.drop i):=by
   unfold firstsI;rw[s2,List.map_append,List.map_map]
   congr 1
   .refine List.map_congr_left fun f hf=>A8Q (by omega) ?_
    rcases BlC f hf with h|⟨n,rfl,h⟩
    .omega
    .simp only [offB]; omega
   .exact List.map_congr_left fun f _=>A8R (by omega) f
  unfold pfL;rw[s1,f1,List.zip_append (by simp only[firstsI,List.length_map,firsts_pages])]
 .exact absurd h3 hn
def hd0(s:LS):Prop:=∃ t,s.firsts++[s.first]=0::t
theorem AzE{s:LS}(h:hd0 s):hd0 (flushS s):=by
 obtain⟨t,h⟩:=h;exact⟨t++[-1],by simp[flushS,h]⟩
theorem ApZ(b:Bl):∀ (f fr:Nat)(s:LS),hd0 s->hd0 (placeB b f fr s)
 | 0,_,s,h=>h
 | f+1,fr,s,h=>by
  unfold placeB
  split
  .exact h
  .exact ApZ b f _ _ (AzE h)
theorem BtQ{b:Bl}{r:List Bl}(h:1<=b.lines.length):∃ t,(layL (b::r)).firsts=0::t:=by
 have key:∀ i,i<(b::r).length->AuW (layTo (b::r) (i+1))/\hd0 (layTo (b::r) (i+1)):=by
  intro i
  induction i with
  | zero =>
   intro _;simp only[layTo,List.getElem?_cons_zero];refine⟨AhQ (.inr ⟨rfl,h⟩),ApZ _ _ _ _ ?_⟩;exact⟨[],by simp[openS,gapS,firstS,turnS]⟩
  | succ i ih =>
   intro hi;obtain⟨a1,a2⟩:=ih (by omega);have hf:=ApY (bs:=b::r) (i+1) (by omega);rw[layTo,List.getElem?_eq_getElem hi];refine⟨AhQ (.inl (AyZ a1)),ApZ _ _ _ _ ?_⟩;generalize layTo (b::r) (i+1)=s at *;have ht:AuW (turnS (b::r) (i+1) ((b::r)[i+1]) s)/\hd0 (turnS (b::r) (i+1) ((b::r)[i+1]) s)/\(turnS (b::r) (i+1) ((b::r)[i+1]) s).firsts.length=(turnS (b::r) (i+1) ((b::r)[i+1]) s).pages.length:=by
    unfold turnS
    split
    .exact ⟨.inl (by simp[flushS]),AzE a2,by simp[flushS,hf.len]⟩
    .exact ⟨a1,a2,hf.len⟩
   obtain⟨t1,t2,t3⟩:=ht;unfold openS gapS firstS
   split
   .rename_i hp
    have hp1:1<=(turnS (b::r) (i+1) ((b::r)[i+1]) s).pages.length:=t1.resolve_right fun hne=>hne hp
    obtain⟨t,ht⟩:=t2;generalize turnS (b::r) (i+1) ((b::r)[i+1]) s=q at *
    cases hq:q.firsts with
    | nil=>rw[hq]at t3; simp at t3; omega
    | cons a l =>
     rw[hq,List.cons_append,List.cons.injEq]at ht;exact⟨l++[((i+1:Nat):Int)],by simp[hq,ht.1]⟩
   .exact t2
 obtain⟨k1,t,k2⟩:=key r.length (by simp);have hf:=ApY (bs:=b::r) (r.length+1) (by simp);unfold layL;rw[show(b::r).length=r.length+1 by simp]
 split
 .exact ⟨t,k2⟩
 .rename_i hp
  have hp1:1<=(layTo (b::r) (r.length+1)).pages.length:=k1.resolve_right (by simpa using hp);have hl:=hf.len;generalize layTo (b::r) (r.length+1)=q at *
  cases hq:q.firsts with
  | nil=>rw[hq]at hl; simp at hl; omega
  | cons a l =>
   rw[hq,List.cons_append,List.cons.injEq]at k2;exact⟨l,by rw[k2.1]⟩
theorem BqP{xs:List Sc}{nos:List (List UInt8)}(hm:MdOk xs nos)(h:nos≠[]):∃ p t,pfL xs nos=(p,nos.getD 0 [])::t:=by
 cases nos with
 | nil=>exact absurd rfl h
 | cons n r =>
  obtain⟨b,q,h1,h2⟩:=A6C (xs:=xs) (hm.num n (by simp));have e:entsB xs (n::r)=b::(q++entsB xs r):=by simp[entsB,h1]
  obtain⟨t,ht⟩:=BtQ (r:=q++entsB xs r) h2;have hpg:=A2S hm h;have hh:AdJ xs (n::r) 0=n:=by
   have:=A2V (xs:=xs) (nos:=n::r) (m:=0) (by simp)
   simpa[offB,entsB]using this
  unfold pfL firstsI;rw[e,ht];rw[e]at hpg
  cases hq:(layL (b::(q++entsB xs r))).pages with
  | nil=>rw[hq]at hpg; simp at hpg
  | cons p ps=>exact⟨p,_,by simp only[List.map_cons,List.zip_cons_cons,hh]; rfl⟩
theorem BqQ{xs:List Sc}{nos:List (List UInt8)}(hm:MdOk xs nos)(i:Nat):MdOk xs (nos.take i):=by
 have:=A5K hm 0 i
 simpa using this
theorem BqR{xs:List Sc}{nos:List (List UInt8)}(hm:MdOk xs nos)(i:Nat):MdOk xs (nos.drop i):=by
 have:=A5K hm i nos.length
 simpa using this
structure Part(xs:List Sc)(q:List (List UInt8)):Prop where
 ne:q≠[]
 head:∃ p t,pfL xs q=(p,q.getD 0 [])::t/\∀ x∈t,x.2=[]
theorem AuY{xs:List Sc}:∀ (n:Nat)(nos:List (List UInt8)),nos.length<=n->MdOk xs nos->∃ ps:List (List (List UInt8)),ps.flatten=nos/\pfL xs nos=ps.flatMap (pfL xs)/\∀ q∈ps,Part xs q
 | n,[],_,_=>⟨[],rfl,by simp[pfL,entsB,A2T],by simp⟩
 | 0,a::r,h,_=>by simp at h
 | n+1,a::r,h,hm=>by
  obtain⟨p,t,hp⟩:=BqP hm (by simp)
  by_cases hx:∃ x∈t,x.2≠[]
  .obtain ⟨x,hx,hne⟩:=hx
   obtain⟨j,hj,rfl⟩:=List.mem_iff_getElem.1 hx;have hj':j+1<(pfL xs (a::r)).length:=by rw[hp]; simpa using hj
   have hg:(pfL xs (a::r))[j+1]=t[j]:=by simp[hp]
   obtain⟨i,h1,h2,h3,h4⟩:=BlE hj' (by rw[hg]; exact hne);have hi0:i≠0:=fun e=>by
    subst e
    simp[pfL,entsB,A2T]at h4
   simp only[List.length_cons]at h h1;obtain⟨p1,a1,a2,a3⟩:=AuY n ((a::r).take i) (by simp; omega) (BqQ hm i);obtain⟨p2,b1,b2,b3⟩:=AuY n ((a::r).drop i) (by simp; omega) (BqR hm i);refine⟨p1++p2,by rw[List.flatten_append,a1,b1,List.take_append_drop],by rw[h3,a2,b2,List.flatMap_append],fun q hq=>?_⟩
   rcases List.mem_append.1 hq with hq|hq
   .exact a3 q hq
   .exact b3 q hq
  .refine ⟨[a::r],by simp,by simp,fun q hq=>?_⟩
   rw[List.mem_singleton.1 hq];refine⟨by simp,p,t,hp,fun x hxm=>?_⟩
   by_cases e:x.2=[]
   .exact e
   .exact absurd ⟨x,hxm,e⟩ hx
