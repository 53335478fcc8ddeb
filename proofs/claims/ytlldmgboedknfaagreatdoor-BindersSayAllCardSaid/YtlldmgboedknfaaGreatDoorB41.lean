/- releafed: the leaves of a new draft. -/
import Derived.Test.YtlldmgboedknfaaGreatDoorB40
set_option maxRecDepth 100000
set_option linter.unusedSimpArgs false
set_option linter.unusedVariables false
namespace Go.Proofs.YtlldmgboedknfaaGreatDoor
open Go Go.Av Go.RowKit
def AsY(l:List (List UInt8)):Prop:=l.Pairwise fun a b=>nLt (endsL a).2 (endsL b).1
theorem AgQ{l:List (List UInt8)}{i:Nat}(h:i<l.length):l.getD i []∈l:=by simp[List.getD,h]
theorem BaK{out:List (List UInt8)}{last:List UInt8}(hh:∀ n∈out,leafNameL n=true)(hl:last=[]\/numberL last=true):AfA out last=[]\/numberL (AfA out last)=true:=by
 unfold AfA
 split
 .exact hl
 .rename_i hne
  have:=List.length_pos_iff.2 hne;exact .inr (AbO (hh _ (AgQ (by omega)))).2.1
theorem AwG{upper last:List UInt8}(hl:last=[]\/numberL last=true):∀ (n:Nat)(out g:List (List UInt8)),(∀ x∈out,leafNameL x=true)->nameUp upper last n out=some g->g.length=out.length+n/\∀ x∈g,leafNameL x=true
 | 0,out,g,hh,h=>by
  simp only[nameUp,Option.some.injEq]at h;subst h; exact⟨rfl,hh⟩
 | n+1,out,g,hh,h=>by
  simp only[nameUp]at h
  split at h
  .simp at h
  .rename_i hne
   have hs:=AfW (BaK hh hl) hne;obtain⟨a1,a2⟩:=AwG hl n _ g (fun x hx=>by
    rcases List.mem_append.1 hx with hx|hx
    .exact hh x hx
    .rw [List.mem_singleton.1 hx]; exact AkK hs.1) h
   exact⟨by simp at a1; omega,a2⟩
theorem BjX{had:List (List UInt8)}(hh:∀ n∈had,leafNameL n=true)(hr:AsY had){a b:Nat}(hab:a<b)(hb:b<had.length):nLt (endsL (had.getD a [])).1 (endsL (had.getD b [])).2:=by
 have h1:=AbO (hh _ (AgQ (show a<had.length by omega)));have h2:=AbO (hh _ (AgQ hb));have h3:nLt (endsL (had.getD a [])).2 (endsL (had.getD b [])).1:=by
  have:=List.pairwise_iff_getElem.1 hr a b (by omega) hb hab
  simpa[List.getD,show a<had.length by omega,hb]using this
 have h4:nLt (endsL (had.getD a [])).1 (endsL (had.getD b [])).1:=by
  rcases h1.2.2 with e|e
  .rw [e]; exact h3
  .exact AaO e h3
 rcases h2.2.2 with e|e
 .rw [<- e]; exact h4
 .exact AaO h4 e
theorem BaL{had:List (List UInt8)}{many:Nat}{last upper:List UInt8}{g:List (List UInt8)}(h1:1<=many)(hh:∀ n∈had,leafNameL n=true)(hr:AsY had)(hl:last=[]\/numberL last=true)(hg:AiY had many last upper=some g):g.length=many/\∀ n∈g,leafNameL n=true:=by
 unfold AiY at hg
 split at hg
 .rename_i hlt
  simp only[Option.some.injEq]at hg;subst hg;refine⟨by simp; omega,fun n hn=>?_⟩
  rcases List.mem_or_eq_of_mem_set hn with hn|rfl
  .exact hh n (List.mem_of_mem_take hn)
  .have e1:=AbO (hh _ (AgQ (show many-1<had.length by omega)))
   have e2:=AbO (hh _ (AgQ (show had.length-1<had.length by omega)));exact AwA e1.1 e2.2.1 (BjX hh hr (by omega) (by omega))
 .obtain ⟨a1,a2⟩:=AwG hl _ had g hh hg
  exact⟨by omega,a2⟩
theorem AfY{n:List UInt8}(h:leafNameL n=true):n.length<10000:=by
 have h1:=AbO h;have l1:=(AaG h1.1).2.1;have l2:=(AaG h1.2.1).2.1;unfold endsL at l1 l2;simp only at l1 l2;unfold Lib.cut at l1 l2
 split at l1
 .rename_i hc
  rw[if_pos hc]at l2
  simp at l1 l2
  omega
 .simp at l1; omega
def stI(E:List (List UInt8))(lv:List Le')(k:Nat):Nat:=if k=0 then 0 else if k<=(runsL lv).length then ixN E (fst lv (rat (runsL lv) (k-1)).1) else E.length
def nmI(lv:List Le')(k:Nat):List (List UInt8):=if k=0 then[] else((lv.take (rat (runsL lv) (k-1)).2).drop (rat (runsL lv) (k-1)).1).map (·.name)
def upI(lv:List Le')(k:Nat):List UInt8:=if k<(runsL lv).length then(endsL (lv.getD (rat (runsL lv) k).1 le0).name).1 else[]
def sgI(E:List (List UInt8))(lv:List Le')(k:Nat):List (List UInt8):=(E.take (stI E lv (k+1))).drop (stI E lv k)
def mkLv(no:Int)(g fi:List (List UInt8))(pg:List (List Ln))(i:Nat):List Le':=(List.range i).map fun k=>⟨g.getD k [],no,fi.getD k [],pg.getD k []⟩
theorem mkLv_step(no:Int)(g fi:List (List UInt8))(pg:List (List Ln))(i:Nat):mkLv no g fi pg (i+1)=mkLv no g fi pg i++[⟨g.getD i [],no,fi.getD i [],pg.getD i []⟩]:=by
 simp[mkLv,List.range_succ]
theorem AsZ(no:Int)(g fi:List (List UInt8))(pg:List (List Ln))(i:Nat):(mkLv no g fi pg i).length=i:=by simp[mkLv]
def pgI'(ys:List Sc)(E:List (List UInt8))(lv:List Le')(k:Nat):List (List Ln):=(layL (entsB ys (sgI E lv k))).pages
def stepR(ys:List Sc)(E:List (List UInt8))(lv:List Le')(no:Int)(k:Nat)(s:List UInt8×List Le'):Option (List UInt8×List Le') :=
 if stI E lv k=stI E lv (k+1) then some s
 else match AiY (nmI lv k) (pgI' ys E lv k).length s.1 (upI lv k)with
  | none=>none
  | some g=>some ((endsL (g.getD (g.length-1) [])).2,s.2++mkLv no g (firstsI ys (sgI E lv k)) (pgI' ys E lv k) (pgI' ys E lv k).length)
def relTo(ys:List Sc)(E:List (List UInt8))(lv:List Le')(no:Int):Nat->Option (List UInt8×List Le')
 | 0=>some ([],[])
 | k+1=>match relTo ys E lv no k with
  | none=>none
  | some s=>stepR ys E lv no k s
def fixL(lv:List Le')(f:Le'):Le':=match lv.find? (fun x=>x.name==f.name)with
 | some x=>if x.first=f.first/\x.lines=f.lines then{ f with draft:=x.draft } else f
 | none=>f
structure RelOk(ys:List Sc)(E:List (List UInt8))(lv:List Le'):Prop where
 md:MdOk ys E
 sorted:E.Pairwise nLt
 mem:∀ k,k<(runsL lv).length->fst lv (rat (runsL lv) k).1∈E
 rise:∀ i j,i<j->j<(runsL lv).length->nLt (fst lv (rat (runsL lv) i).1) (fst lv (rat (runsL lv) j).1)
 names:∀ f∈lv,leafNameL f.name=true
 riseN:AsY (lv.map (·.name))
 lines:∀ f∈lv,f.lines.length<1000000/\f.first.length<1000000
 few:lv.length<=100000
theorem BgL{ys:List Sc}{E:List (List UInt8)}{lv:List Le'}(h:RelOk ys E lv){k:Nat}:stI E lv k<=stI E lv (k+1)/\stI E lv (k+1)<=E.length:=by
 have hix:∀ j,j<(runsL lv).length->ixN E (fst lv (rat (runsL lv) j).1)<E.length:=fun j hj=>(AqE (h.mem j hj)).choose
 unfold stI;rw[if_neg (show k+1≠0 by omega)]
 by_cases k0:k=0
 .subst k0
  simp only[if_true,Nat.zero_add,Nat.sub_self]
  split
  .have:=hix 0 (by omega); omega
  .omega
 .rw [if_neg k0]
  simp only[Nat.add_sub_cancel]
  by_cases h1:k+1<=(runsL lv).length
  .rw [if_pos h1,if_pos (by omega)]
   have:=hix k (by omega);have:=A1V h.sorted (h.mem (k-1) (by omega)) (h.mem k (by omega)) (h.rise (k-1) k (by omega) (by omega));omega
  .rw [if_neg h1]
   split
   .have:=hix (k-1) (by omega); omega
   .omega
theorem BmH{ys:List Sc}{E:List (List UInt8)}{lv:List Le'}(h:RelOk ys E lv)(k:Nat):(∀ n∈nmI lv k,leafNameL n=true/\n.length<1000000)/\AsY (nmI lv k)/\(nmI lv k).length<=100000:=by
 have hf:=h.few;unfold nmI
 split
 .exact ⟨by simp,by simp[AsY],by simp⟩
 .refine ⟨fun n hn=>?_,?_,by simp; omega⟩
  .obtain ⟨f,hf,rfl⟩:=List.mem_map.1 hn
   have hm:=h.names f (List.mem_of_mem_take (List.mem_of_mem_drop hf));exact⟨hm,by have:=AfY hm; omega⟩
  .have:=h.riseN
   unfold AsY at this |-;rw[List.map_drop,List.map_take];exact(this.sublist (List.take_sublist _ _)).sublist (List.drop_sublist _ _)
theorem BmI{ys:List Sc}{E:List (List UInt8)}{lv:List Le'}(h:RelOk ys E lv)(k:Nat):upI lv k=[]\/numberL (upI lv k)=true:=by
 unfold upI
 split
 .rename_i hk
  have hr:=(AeY lv).one k hk;have hl:(rat (runsL lv) k).1<lv.length:=by omega
  exact .inr (AbO (h.names _ (by simp[List.getD,hl]))).1
 .exact .inl rfl
theorem AqH{ys:List Sc}{E:List (List UInt8)}{lv:List Le'}(h:RelOk ys E lv)(k:Nat):MdOk ys (sgI E lv k):=BgG h.md _ _
theorem AkL{a:List UInt8}(h:numberL a=true):a≠[]/\∀ r:List UInt8,(a++r).head?≠some 32:=by
 have hne:=AoE h;refine⟨hne,fun r e=>?_⟩
 cases a with
 | nil=>exact hne rfl
 | cons c t =>
  simp only[List.cons_append,List.head?_cons,Option.some.injEq]at e;subst e;have hx:(32:UInt8)∈(32::t:List UInt8):=by simp
  rw[AdG (32::t)]at hx
  rcases List.mem_append.1 hx with hx|hx
  .exact absurd (AiW digB _ 32 hx) (by decide)
  .exact absurd (List.all_eq_true.1 (AbQ h).2.2.2 32 hx) (by decide)
theorem AqI:∀ (ps:List Pa)(s:List Bl×Bl)(b:Bl)(r:List Bl),s.1++[s.2]=b::r->∃ b' r',(ps.foldl bstep s).1++[(ps.foldl bstep s).2]=b'::r'/\b.lines.length<=b'.lines.length
 | [],s,b,r,h=>⟨b,r,h,Nat.le_refl _⟩
 | p::ps,s,b,r,h=>by
  have hstep:∃ b2 r2,(bstep s p).1++[(bstep s p).2]=b2::r2/\b.lines.length<=b2.lines.length:=by
   unfold bstep
   split
   .obtain ⟨dn,cur⟩:=s
    cases dn with
    | nil =>
     simp only[List.nil_append,List.cons.injEq]at h;refine⟨moreB cur p,[],rfl,?_⟩;rw[<- h.1];unfold moreB addB
     split <;> simp
    | cons d ds =>
     simp only[List.cons_append,List.cons.injEq]at h;exact⟨d,ds++[moreB cur p],rfl,by rw[h.1]; exact Nat.le_refl _⟩
   .exact ⟨b,r++[newB p],by simp only[h,List.cons_append],Nat.le_refl _⟩
  obtain⟨b2,r2,h1,h2⟩:=hstep;obtain⟨b3,r3,h3,h4⟩:=AqI ps (bstep s p) b2 r2 h1;exact⟨b3,r3,by rw[List.foldl_cons]; exact h3,by omega⟩
theorem BfA{xs:List Sc}{no:List UInt8}(hn:numberL no=true):∃ b r,entB xs no=b::r/\1<=b.lines.length:=by
 unfold entB
 cases h:atNo xs no with
 | none =>
  refine⟨goneB no,[],rfl,?_⟩;exact AjV (by omega) (by simp[goneT,AoE hn]) ((AkL hn).2 _)
 | some x =>
  have hx:=(AiS h).2;have hw:1<=(AbE 60 (headL x)).length:=by
   have hb:(x.no != [])=true:=by rw[hx]; simpa using AoE hn
   refine AjV (by omega) ?_ ?_ <;> unfold headL <;> rw[if_pos hb,hx]
   .simp
   .rw [List.append_assoc]; exact(AkL hn).2 _
  obtain⟨b,r,h1,h2⟩:=AqI x.paras ([],⟨0,AbE 60 (headL x),[],[]⟩) _ [] rfl;exact⟨b,r,h1,by simp only at h2; omega⟩
def AzK(s:LS):Prop:=1<=s.pages.length\/s.page≠[]
theorem AoG(b:Bl):∀ (f fr:Nat)(s:LS),s.pages.length<=(AbS b f fr s).pages.length
 | 0,_,s=>Nat.le_refl _
 | f+1,fr,s=>by
  unfold AbS
  split
  .exact Nat.le_refl _
  .refine Nat.le_trans ?_ (AoG b f _ _)
   rw[(AeZ b _).1]; simp[addS]
theorem AqJ{b:Bl}{f fr:Nat}{s:LS}(h:AzK s\/(fr=0/\1<=b.lines.length)):AzK (AbS b (f+1) fr s):=by
 unfold AbS
 split
 .rename_i he
  rcases h with(h|h)|⟨h,h'⟩
  .exact .inl h
  .exact .inr (by simp[addS,h])
  .refine .inr fun e=>?_
   have:=congrArg List.length e;simp only[addS,partL',he,List.length_append,List.length_drop,List.length_take,List.length_nil]at this;omega
 .refine .inl (Nat.le_trans ?_ (AoG b f _ _))
  rw[(AeZ b _).1]; omega
theorem BaM{bs:List Bl}{i:Nat}{b:Bl}{s:LS}(h:AzK s):AzK (openS bs i b s):=by
 have h1:AzK (turnS bs i b s):=by
  unfold turnS
  split
  .exact .inl (by simp[flushS])
  .exact h
 have h2:AzK (firstS i (turnS bs i b s)):=by
  unfold firstS
  split
  .rcases h1 with h1|h1
   .exact .inl h1
   .rename_i hp; exact absurd hp h1
  .exact h1
 unfold openS gapS
 rcases h2 with h2|h2
 .exact .inl h2
 .exact .inr (by simp[h2])
theorem BfB{b:Bl}{r:List Bl}(h:1<=b.lines.length):1<=(layL (b::r)).pages.length:=by
 have key:∀ i,i<(b::r).length->AzK (layTo (b::r) (i+1)):=by
  intro i
  induction i with
  | zero=>intro _; simp only[layTo,List.getElem?_cons_zero]; exact AqJ (.inr ⟨rfl,h⟩)
  | succ i ih =>
   intro hi;have:=ih (by omega);rw[layTo,List.getElem?_eq_getElem hi];exact AqJ (.inl (BaM this))
 have h1:=key r.length (by simp);unfold layL;rw[show(b::r).length=r.length+1 by simp]
 split
 .simp [flushS]
 .rename_i hp
  rcases h1 with h1|h1
  .exact h1
  .exact absurd h1 hp
theorem BjY{xs:List Sc}{nos:List (List UInt8)}(hm:MdOk xs nos)(h:nos≠[]):1<=(layL (entsB xs nos)).pages.length:=by
 cases nos with
 | nil=>exact absurd rfl h
 | cons n r =>
  obtain⟨b,q,h1,h2⟩:=BfA (xs:=xs) (hm.num n (by simp));have e:entsB xs (n::r)=b::(q++entsB xs r):=by simp[entsB,h1]
  rw[e];exact BfB h2
theorem BjZ{xs:List Sc}(hx:∀ x∈xs,SceneD x){no:List UInt8}(hn:numberL no=true):(∀ b∈entB xs no,AiV b)/\costP (entB xs no)<=5256:=by
 unfold entB
 cases h:atNo xs no with
 | none =>
  have hl:=(AaG hn).2.1;have hw:=AfV (W:=60) (by omega) (goneT no);have hg:(goneT no).length<=1008:=by simp[goneT,AfQ]; omega
  have hL:(goneB no).lines.length<=40:=by simp only[goneB]; omega
  refine⟨fun b hb=>?_,?_⟩
  .rw [List.mem_singleton.1 hb]; exact .inr (.inr hL)
  .simp [costP]; omega
 | some x =>
  have hd:=hx x (AiS h).1;obtain⟨s1,s2⟩:=AvV hd;have:=hd.wt;exact⟨s1,by simp only; omega⟩
theorem BkA{xs:List Sc}{nos:List (List UInt8)}(hm:MdOk xs nos):(layL (entsB xs nos)).pages.length<=50000:=by
 have key:∀ l:List (List UInt8),(∀ n∈l,numberL n=true)->(∀ b∈entsB xs l,AiV b)/\costP (entsB xs l)<=5256*l.length:=by
  intro l
  induction l with
  | nil=>intro _; exact⟨by simp[entsB],by simp[entsB,costP]⟩
  | cons n r ih =>
   intro h;obtain⟨i1,i2⟩:=ih fun m hm=>h m (by simp[hm])
   obtain⟨s1,s2⟩:=BjZ hm.sc (h n (by simp));have e:entsB xs (n::r)=entB xs n++entsB xs r:=by simp[entsB]
   rw[e];refine⟨fun b hb=>?_,?_⟩
   .rcases List.mem_append.1 hb with hb|hb
    .exact s1 b hb
    .exact i1 b hb
   .rw [costP_append,List.length_cons,Nat.mul_add]; omega
 obtain⟨k1,k2⟩:=key nos hm.num;have:=A2D k1;have h6:5256*nos.length<=5256*300:=Nat.mul_le_mul_left _ hm.fewN;omega
theorem AzL{l:List (List UInt8)}(hh:∀ n∈l,leafNameL n=true)(hr:AsY l):l.Nodup:=by
 induction l with
 | nil=>simp
 | cons a r ih =>
  obtain⟨h1,h2⟩:=List.pairwise_cons.1 hr;refine List.nodup_cons.2 ⟨fun hm=>?_,ih (fun n hn=>hh n (by simp[hn])) h2⟩;have h3:=h1 a hm
  rcases(AbO (hh a (by simp))).2.2 with e|e
  .rw [e]at h3; exact AaH _ h3
  .exact AaH _ (AaO e h3)
def lvE(l:List Le'):List (List UInt8×AV):=l.map fun f=>(f.name,leA f)
theorem BgM(l:List Le')(k:List UInt8):(∃ i f,l.find? (fun x=>x.name==k)=some f/\mfind .string (.str k) (sM (lvE l)) 0=some (some (i,leA f)))\/(l.find? (fun x=>x.name==k)=none/\mfind .string (.str k) (sM (lvE l)) 0=some none):=by
 have hf:(lvE l).find? (fun p=>p.1==k)=(l.find? (fun x=>x.name==k)).map fun f=>(f.name,leA f):=by
  unfold lvE;rw[List.find?_map]; rfl
 rcases AnM k (lvE l) 0 with⟨i,v,h1,h2⟩|⟨h1,h2⟩
 .left
  rw[hf]at h1
  cases hq:l.find? (fun x=>x.name==k)with
  | none=>rw[hq]at h1; simp at h1
  | some f =>
   rw[hq]at h1;simp only[Option.map_some,Option.some.injEq,Prod.mk.injEq]at h1;exact⟨i,f,rfl,by rw[h2,h1.2]⟩
 .right
  rw[hf]at h1
  cases hq:l.find? (fun x=>x.name==k)with
  | none=>exact⟨rfl,h2⟩
  | some f=>rw[hq]at h1; simp at h1
theorem BfC(l:List Le')(f:Le'):sM (lvE l)++[(.str f.name,leA f)]=sM (lvE (l++[f])):=by simp[lvE,sM]
theorem BkB{l:List Le'}(hd:(l.map (·.name)).Nodup){i:Nat}(hi:i<l.length):mfind .string (.str l[i].name) (sM (lvE (l.take i))) 0=some none:=by
 rcases BgM (l.take i) l[i].name with⟨j,f,h1,_⟩|⟨_,h⟩
 .exfalso
  have hm:=List.mem_of_find?_eq_some h1;have he:=List.find?_some h1;simp only[beq_iff_eq]at he;obtain⟨k,hk,rfl⟩:=List.mem_iff_getElem.1 hm;simp only[List.length_take]at hk;simp only[List.getElem_take]at he;have hp:=List.pairwise_iff_getElem.1 hd k i (by simp; omega) (by simpa using hi) (by omega);simp only[List.getElem_map]at hp;exact hp he
 .exact h
structure RelI(s:List UInt8×List Le'):Prop where
 last:s.1=[]\/numberL s.1=true
 names:∀ f∈s.2,leafNameL f.name=true
 lines:∀ f∈s.2,f.lines.length<=54
theorem BfD(Y:List Le')(x:Le')(r:List Le'):List.getD ((Y++x::r).map leA) Y.length .any=.agg [.str x.name,.int .i64 x.draft,.str x.first,.fz 1 (x.lines.map .str)]:=by simp[List.getD,leA]
theorem BfE(Y:List Le')(x:Le')(r:List Le')(q:Int):((Y++x::r).map leA).set Y.length (.agg [.str x.name,.int .i64 q,.str x.first,.fz 1 (x.lines.map .str)])=((Y++[{ x with draft:=q }])++r).map leA:=by simp[leA]
theorem BaN{lv:List Le'}{f:Le'}(h:lv.find? (fun x=>x.name==f.name)=none):fixL lv f=f:=by simp[fixL,h]
theorem AqK{lv:List Le'}{f x:Le'}(h:lv.find? (fun x=>x.name==f.name)=some x)(hn:¬ (x.first=f.first/\x.lines=f.lines)):fixL lv f=f:=by simp only[fixL,h]; rw[if_neg hn]
theorem BaO{lv:List Le'}{f x:Le'}(h:lv.find? (fun x=>x.name==f.name)=some x)(hy:x.first=f.first/\x.lines=f.lines):fixL lv f={ f with draft:=x.draft }:=by simp only[fixL,h]; rw[if_pos hy]
