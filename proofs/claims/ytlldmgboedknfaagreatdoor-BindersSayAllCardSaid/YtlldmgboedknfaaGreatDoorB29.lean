/- Blocks on pages: plain law. -/
import Derived.Test.YtlldmgboedknfaaGreatDoorB28
set_option maxRecDepth 100000
set_option maxHeartbeats 2000000
set_option linter.unusedSimpArgs false
set_option linter.unusedVariables false
namespace Go.Proofs.YtlldmgboedknfaaGreatDoor
open Go Go.Av Go.RowKit _root_.Go.Proofs.Tryz
abbrev Ln:=List UInt8
def AdA:Ln:=[32,32,32,32,32,32,32,32,32,32,32,32,32,32,32,32,32,32,32,32]
theorem blanks20_eq:Lib.repeatL [32] 20=AdA:=by decide +kernel
def AcG:Ln:=indent 20 [40,77,79,82,69,41]
def AiL:Ln:=[32,40,67,79,78,84,39,68,41]
def AfQ:Ln:=[32,79,77,73,84,84,69,68]
def goesLn(b:Bl):Ln:=indent 20 b.name++AiL
def breaksL(b:Bl)(fr k:Nat):Bool :=
 if b.kind==1 then decide ((k:Int)-fr>=2)&&decide ((b.lines.length:Int)-k>=2)
 else if b.kind==3 then b.kinds.getD (k-1) 0==2&&(decide ((k:Int)-fr-(if fr=0 then 1 else 0)>=2)&&decide ((b.lines.length:Int)-k>=2))
 else false
def grp(b:Bl):Nat:=if b.kind==3 then 1 else 0
def AgZ(b:Bl):Nat->Nat->Option Nat
 | 0,_=>none
 | n+1,k=>if breaksL b 0 k then some k else AgZ b n (k+1)
def AhA(b:Bl):Nat :=
 if b.kind==1&&decide ((b.lines.length:Int)>3) then 2
 else if b.kind==3&&decide ((b.lines.length:Int)>4) then
  match AgZ b (b.lines.length-1) 1 with
  | some k=>k+1
  | none=>b.lines.length
 else b.lines.length
def AfR(b:Bl)(fr:Nat):Nat->Option Nat
 | 0=>none
 | j+1=>if fr<j+1 then(if breaksL b fr (j+1) then some (j+1) else AfR b fr j) else none
def stopL(b:Bl)(fr room:Nat):Nat :=
 if b.lines.length-fr<=room then b.lines.length
 else match AfR b fr (min (fr+room-grp b) (b.lines.length-1))with
  | some j=>j
  | none=>max (min (fr+room-grp b) (b.lines.length-1)) (fr+1)
def AgR(bs:List Bl)(i:Nat)(b:Bl):Nat :=
 AhA b+(if b.kind==0 then(match bs[i+1]? with
  | some d=>if d.kind==0 then 0 else 1+AhA d
  | none=>0) else 0)
structure LS where
 pages:List (List Ln)
 firsts:List Int
 starts:List Int
 page:List Ln
 first:Int
def flushS(s:LS):LS:=⟨s.pages++[s.page],s.firsts++[s.first],s.starts,[],-1⟩
def addS(s:LS)(l:List Ln):LS:={ s with page:=s.page++l }
def breakS(b:Bl)(s:LS):LS:=addS (flushS (addS s (if b.kind==3 then[AcG] else[]))) (if b.kind==3 then[goesLn b] else[])
def partL'(b:Bl)(fr tz:Nat):List Ln:=(b.lines.take tz).drop fr
def AbS(b:Bl):Nat->Nat->LS->LS
 | 0,_,s=>s
 | f+1,fr,s =>
  if stopL b fr (54-s.page.length)=b.lines.length then addS s (partL' b fr (stopL b fr (54-s.page.length)))
  else AbS b f (stopL b fr (54-s.page.length)) (breakS b (addS s (partL' b fr (stopL b fr (54-s.page.length)))))
def turnS(bs:List Bl)(i:Nat)(b:Bl)(s:LS):LS:=if s.page≠[]/\s.page.length+gapN b+AgR bs i b>54 then flushS s else s
def firstS(i:Nat)(s:LS):LS:=if s.page=[] then{ s with first:=i } else s
def gapS(b:Bl)(s:LS):LS:={ s with page:=s.page++List.replicate (gapN b*min s.page.length 1) [],starts:=s.starts++[(s.pages.length:Int)] }
def openS(bs:List Bl)(i:Nat)(b:Bl)(s:LS):LS:=gapS b (firstS i (turnS bs i b s))
def layTo(bs:List Bl):Nat->LS
 | 0=>⟨[],[],[],[],-1⟩
 | i+1=>match bs[i]? with
  | some b=>AbS b (b.lines.length+1) 0 (openS bs i b (layTo bs i))
  | none=>layTo bs i
def layL(bs:List Bl):LS:=if(layTo bs bs.length).page≠[] then flushS (layTo bs bs.length) else layTo bs bs.length
def addedL(l:Ln)(i n:Nat):Bool:=(l==AcG&&i+1==n)||(i==0&&(Lib.hasSuffix l AiL&&Lib.hasPrefix l AdA))
def keepL(l:Ln):Bool:=l != []&&!Lib.hasSuffix l AfQ
def saidGo(n:Nat):Nat->List Ln->List Ln
 | _,[]=>[]
 | i,l::r=>if l != []&&(!addedL l i n&&!Lib.hasSuffix l AfQ) then l::saidGo n (i+1) r else saidGo n (i+1) r
def saidP(p:List Ln):List Ln:=saidGo p.length 0 p
structure OwnLn(l:Ln):Prop where
 more:l≠AcG
 cont:(Lib.hasSuffix l AiL&&Lib.hasPrefix l AdA)=false
theorem A1N(n:Nat)(post:List Ln):∀ (body:List Ln)(i:Nat),(∀ l∈body,OwnLn l)->saidGo n i (body++post)=body.filter keepL++saidGo n (i+body.length) post
 | [],i,_=>rfl
 | l::r,i,h=>by
  have hl:=h l (by simp);have h1:(l==AcG)=false:=by simpa using hl.more
  have ih:=A1N n post r (i+1) (fun x hx=>h x (by simp[hx]));have ha:addedL l i n=false:=by simp[addedL,h1,hl.cont]
  simp only[List.cons_append,saidGo,ha,ih,Bool.not_false,Bool.true_and,List.filter_cons,keepL,List.length_cons];rw[show i+(r.length+1)=i+1+r.length by omega]
  by_cases hk:(l != []&&!Lib.hasSuffix l AfQ)=true
  .simp only [hk,if_true,List.cons_append]
  .simp only [hk,if_false]
   rfl
theorem A8S(i:Nat):saidGo (i+1) i [AcG]=[]:=by simp[saidGo,addedL]
theorem goes_suf(b:Bl):Lib.hasSuffix (goesLn b) AiL=true:=by
 simp[Lib.hasSuffix,goesLn,List.isSuffixOf_iff_suffix]
theorem BdQ(b:Bl):Lib.hasPrefix (goesLn b) AdA=true:=by
 simp only[Lib.hasPrefix,goesLn,indent,blanks20_eq,List.isPrefixOf_iff_prefix,List.append_assoc];exact List.prefix_append _ _
theorem A8T(n:Nat)(b:Bl)(r:List Ln):saidGo n 0 (goesLn b::r)=saidGo n 1 r:=by
 simp[saidGo,addedL,goes_suf,BdQ]
theorem A8U(pre body post:List Ln)(h1:pre=[]\/∃ b,pre=[goesLn b])(h2:∀ l∈body,OwnLn l)(h3:post=[]\/post=[AcG]):saidP (pre++body++post)=body.filter keepL:=by
 unfold saidP;have key:∀ i,i+body.length+post.length=(pre++body++post).length->saidGo (pre++body++post).length i (body++post)=body.filter keepL:=fun i hi=>by
  rw[A1N _ _ _ _ h2]
  rcases h3 with rfl|rfl
  .simp [saidGo]
  .rw [<- hi]
   show _++saidGo (i+body.length+1) (i+body.length) [AcG]=_
   rw[A8S]; simp
 rcases h1 with rfl|⟨b,rfl⟩
 .exact key 0 (by simp)
 .rw [List.append_assoc]
  show saidGo _ 0 (goesLn b::(body++post))=_
  rw[A8T];have:=key 1 (by simp; omega)
  simpa only [List.append_assoc,List.cons_append,List.nil_append]using this
theorem AvH(b:Bl):∀ (n k j:Nat),AgZ b n k=some j->k<=j
 | 0,_,_,h=>by cases h
 | n+1,k,j,h=>by
  simp only[AgZ]at h
  split at h
  .simp at h; omega
  .have:=AvH b n (k+1) j h; omega
theorem A1O(b:Bl)(fr:Nat):∀ (n j:Nat),AfR b fr n=some j->fr<j/\j<=n
 | 0,_,h=>by cases h
 | n+1,j,h=>by
  simp only[AfR]at h
  split at h
  .split at h
   .simp at h; omega
   .have:=A1O b fr n j h; omega
  .cases h
def AhB(b:Bl)(fr room:Nat):Prop:=b.lines.length-fr<=room\/1+grp b<=room
theorem A4B{b:Bl}{room:Nat}(h:AhA b<=room):AhB b 0 room:=by
 unfold AhA at h;unfold AhB grp
 split at h
 .rename_i hk
  simp only[Bool.and_eq_true,beq_iff_eq]at hk
  simp[hk.1]; omega
 .split at h
  .split at h
   .rename_i k hk
    have:=AvH b _ _ _ hk
    split <;> omega
   .omega
  .omega
theorem AnC{b:Bl}{fr room:Nat}(h:AhB b fr room)(hf:fr<=b.lines.length) :
  (stopL b fr room=b.lines.length/\b.lines.length-fr<=room)\/(fr<stopL b fr room/\stopL b fr room<b.lines.length/\stopL b fr room+grp b<=fr+room):=by
 unfold stopL
 by_cases hr:b.lines.length-fr<=room
 .rw [if_pos hr]; exact .inl ⟨rfl,hr⟩
 .rw [if_neg hr]
  right
  have h2:1+grp b<=room:=h.resolve_left hr
  split
  .rename_i j hj
   have:=A1O b fr _ _ hj;omega
  .omega
structure PInv(s:LS)(w:List Ln):Prop where
 pages:∀ p∈s.pages,1<=p.length/\p.length<=54
 len:s.page.length<=54
 ex:∃ pre body,s.page=pre++body/\(pre=[]\/∃ b,pre=[goesLn b])/\(∀ l∈body,OwnLn l)/\s.pages.flatMap saidP++body.filter keepL=w.filter keepL
theorem AfS{s:LS}{w post:List Ln}(h:PInv s w)(hp:post=[]\/post=[AcG])(h0:1<=(s.page++post).length)(h1:(s.page++post).length<=54):PInv (flushS (addS s post)) w:=by
 obtain⟨pre,body,e1,e2,e3,e4⟩:=h.ex;refine⟨fun p hq=>?_,by simp[flushS],[],[],rfl,.inl rfl,by simp,?_⟩
 .simp only [flushS,addS,List.mem_append,List.mem_singleton]at hq
  rcases hq with hq|rfl
  .exact h.pages p hq
  .exact ⟨h0,h1⟩
 .simp only [flushS,addS,List.flatMap_append,List.flatMap_cons,List.flatMap_nil,List.append_nil,List.filter_nil]
  rw[e1,A8U pre body post e2 e3 hp,e4]
theorem AsL{s:LS}{w l:List Ln}(h:PInv s w)(ho:∀ x∈l,OwnLn x)(hl:(s.page++l).length<=54):PInv (addS s l) (w++l):=by
 obtain⟨pre,body,e1,e2,e3,e4⟩:=h.ex;refine⟨h.pages,hl,pre,body++l,by simp[addS,e1],e2,fun x hx=>?_,?_⟩
 .rcases List.mem_append.1 hx with hx|hx
  .exact e3 x hx
  .exact ho x hx
 .simp only [addS,List.filter_append,<- e4,List.append_assoc]
theorem BdR{s:LS}{w:List Ln}(h:PInv s w)(h0:s.page=[])(b:Bl):PInv (addS s [goesLn b]) w:=by
 obtain⟨pre,body,e1,e2,e3,e4⟩:=h.ex;rw[h0]at e1;have hb:pre=[]/\body=[]:=by simpa using e1.symm
 refine⟨h.pages,by simp[addS,h0],[goesLn b],[],by simp[addS,h0],.inr ⟨b,rfl⟩,by simp,?_⟩;rw[<- e4,hb.2]; rfl
theorem AgM(b:Bl){fr tz:Nat}(h:tz<=b.lines.length):(partL' b fr tz).length=tz-fr:=by
 simp[partL',Nat.min_eq_left h]
theorem ApX(b:Bl)(s:LS):(breakS b s).page=if b.kind==3 then[goesLn b] else[]:=by
 simp[breakS,addS,flushS]
theorem AvI{b:Bl}{s:LS}{w:List Ln}(h:PInv s w)(h0:1<=s.page.length)(h1:s.page.length+grp b<=54):PInv (breakS b s) w:=by
 unfold breakS grp at *
 by_cases hk:(b.kind==3)=true
 .simp only [hk,if_true]at h1 |-
  exact BdR (AfS h (.inr rfl) (by simp) (by simpa using h1)) rfl b
 .have hk:(b.kind==3)=false:=by simpa using hk
  simp only[hk,if_false,Bool.false_eq_true,Nat.add_zero]at h1 |-;have h2:=AfS h (post:=[]) (.inl rfl) (by simpa using h0) (by simpa using h1);have:∀ s:LS,addS s []=s:=fun s=>by simp[addS]
  rw[this]at h2 |-
  rwa [this]
theorem AvJ{b:Bl}(ho:∀ x∈b.lines,OwnLn x):∀ (f fr:Nat)(s:LS)(w:List Ln),PInv s w->b.lines.length-fr<f->fr<=b.lines.length->AhB b fr (54-s.page.length)->PInv (AbS b f fr s) (w++b.lines.drop fr)
 | 0,fr,s,w,_,h,_,_=>by omega
 | f+1,fr,s,w,h,hf,hfr,hr=>by
  have hl:=h.len;have ho':∀ tz,∀ x∈partL' b fr tz,OwnLn x:=fun tz x hx=>ho x (List.mem_of_mem_take (List.mem_of_mem_drop hx))
  unfold AbS
  rcases AnC hr hfr with⟨h1,h2⟩|⟨h1,h2,h3⟩
  .rw [if_pos h1,h1]
   have hpl:=AgM b (fr:=fr) (Nat.le_refl b.lines.length);have:partL' b fr b.lines.length=b.lines.drop fr:=by simp[partL']
   have k:=AsL h (ho' b.lines.length) (by rw[List.length_append,hpl]; omega)
   rwa [this]at k |-
  .rw [if_neg (by omega)]
   generalize hto:stopL b fr (54-s.page.length)=tz at h1 h2 h3 |-;have hpl:=AgM b (fr:=fr) (Nat.le_of_lt h2);have k1:=AsL h (ho' tz) (by rw[List.length_append,hpl]; unfold grp at h3; split at h3 <;> omega);have k2:=AvI (b:=b) k1 (by simp only[addS,List.length_append,hpl]; omega) (by simp only[addS,List.length_append,hpl]; omega);have k3:=AvJ ho f tz _ _ k2 (by omega) (by omega) (by
    right
    rw[ApX];unfold grp
    split <;> simp)
   have:w++partL' b fr tz++b.lines.drop tz=w++b.lines.drop fr:=by
    rw[List.append_assoc]
    congr 1
    have e:b.lines.drop fr=((b.lines.take tz)++b.lines.drop tz).drop fr:=by rw[List.take_append_drop]
    rw[e,List.drop_append,partL'];have:fr-(List.take tz b.lines).length=0:=by simp; omega
    rw[this]; rfl
   rwa [this]at k3
theorem BjD:OwnLn []:=⟨by decide,by decide⟩
theorem AsM{bs:List Bl}{i:Nat}{b:Bl}{s:LS}{w:List Ln}(h:PInv s w):∃ g:List Ln,(∀ x∈g,x=[])/\PInv (openS bs i b s) (w++g)/\AhB b 0 (54-(openS bs i b s).page.length):=by
 have hh:AhA b<=AgR bs i b:=by unfold AgR; omega
 unfold openS;generalize hs1:turnS bs i b s=s1;have h1:PInv s1 w/\(s1.page=[]\/s1.page.length+gapN b+AgR bs i b<=54):=by
  subst hs1;unfold turnS;have hn:∀ s:LS,addS s []=s:=fun s=>by simp[addS]
  split
  .rename_i hc
   have:1<=s.page.length:=by
    cases hq:s.page with
    | nil=>exact(hc.1 hq).elim
    | cons a r=>simp
   have k:=AfS h (post:=[]) (.inl rfl) (by simpa using this) (by simpa using h.len);rw[hn]at k;exact⟨k,.inl rfl⟩
  .rename_i hc
   refine⟨h,?_⟩
   by_cases h0:s.page=[]
   .exact .inl h0
   .right
    have:¬ s.page.length+gapN b+AgR bs i b>54:=fun e=>hc ⟨h0,e⟩
    omega
 obtain⟨h1,h2⟩:=h1;generalize hs2:firstS i s1=s2;have hp:s2.page=s1.page/\s2.pages=s1.pages:=by subst hs2; unfold firstS; split <;> exact⟨rfl,rfl⟩
 have k2:PInv s2 w:=⟨by rw[hp.2]; exact h1.pages,by rw[hp.1]; exact h1.len,by rw[hp.1,hp.2]; exact h1.ex⟩;refine⟨List.replicate (gapN b*min s2.page.length 1) [],fun x hx=>List.eq_of_mem_replicate hx,?_,?_⟩
 .have hlen:(s2.page++List.replicate (gapN b*min s2.page.length 1) ([]:Ln)).length<=54:=by
   rw[List.length_append,List.length_replicate]
   rcases h2 with h2|h2
   .rw [hp.1,h2]; simp
   .rw [hp.1]
    have:gapN b*min s1.page.length 1<=gapN b:=by
     have:min s1.page.length 1<=1:=Nat.min_le_right _ _
     calc gapN b*min s1.page.length 1<=gapN b*1:=Nat.mul_le_mul_left _ this
      _=gapN b:=Nat.mul_one _
    omega
  have k3:=AsL k2 (l:=List.replicate (gapN b*min s2.page.length 1) []) (fun x hx=>by rw[List.eq_of_mem_replicate hx]; exact BjD) hlen;exact⟨k3.pages,k3.len,k3.ex⟩
 .simp only [gapS,List.length_append,List.length_replicate]
  rcases h2 with h2|h2
  .right
   rw[hp.1,h2];unfold grp
   split <;> simp
  .by_cases h0:s1.page=[]
   .right
    rw[hp.1,h0];unfold grp
    split <;> simp
   .have:min s2.page.length 1=1:=by
     have:1<=s1.page.length:=by
      cases hq:s1.page with
      | nil=>exact(h0 hq).elim
      | cons a r=>simp
     rw[hp.1]; omega
    rw[this,hp.1,Nat.mul_one];exact A4B (by omega)
def bodyTo(bs:List Bl)(i:Nat):List Ln:=(bs.take i).flatMap fun b=>b.lines
theorem AsN{bs:List Bl}(ho:∀ b∈bs,∀ x∈b.lines,OwnLn x):∀ i,i<=bs.length->∃ w,PInv (layTo bs i) w/\w.filter keepL=(bodyTo bs i).filter keepL
 | 0,_=>⟨[],⟨by simp[layTo],by simp[layTo],[],[],rfl,.inl rfl,by simp,rfl⟩,rfl⟩
 | i+1,h=>by
  obtain⟨w,h1,h2⟩:=AsN ho i (by omega);have hi:i<bs.length:=by omega
  simp only[layTo,List.getElem?_eq_getElem hi];obtain⟨g,g1,g2,g3⟩:=AsM (bs:=bs) (i:=i) (b:=bs[i]) h1;have k:=AvJ (ho _ (List.getElem_mem hi)) (bs[i].lines.length+1) 0 _ _ g2 (by omega) (by omega) g3;refine⟨_,k,?_⟩;have hg:g.filter keepL=[]:=by
   rw[List.filter_eq_nil_iff];intro x hx;rw[g1 x hx]; decide
  simp only[List.filter_append,hg,List.append_nil,List.drop_zero,h2,bodyTo,List.take_succ_eq_append_getElem hi,List.flatMap_append,List.flatMap_cons,List.flatMap_nil]
theorem AnD{bs:List Bl}(ho:∀ b∈bs,∀ x∈b.lines,OwnLn x) :
  (∀ p∈(layL bs).pages,1<=p.length/\p.length<=54)/\(layL bs).pages.flatMap saidP=(bs.flatMap fun b=>b.lines).filter keepL:=by
 obtain⟨w,h1,h2⟩:=AsN ho bs.length (Nat.le_refl _);have hb:bodyTo bs bs.length=bs.flatMap fun b=>b.lines:=by simp[bodyTo]
 rw[hb]at h2;unfold layL
 by_cases h0:(layTo bs bs.length).page≠[]
 .rw [if_pos h0]
  have hn:∀ s:LS,addS s []=s:=fun s=>by simp[addS]
  have:1<=(layTo bs bs.length).page.length:=by
   cases hq:(layTo bs bs.length).page with
   | nil=>exact(h0 hq).elim
   | cons a r=>simp
  have k:=AfS h1 (post:=[]) (.inl rfl) (by simpa using this) (by simpa using h1.len);rw[hn]at k;obtain⟨pre,body,e1,e2,e3,e4⟩:=k.ex;have hbo:pre=[]/\body=[]:=by simpa[flushS]using e1.symm
  rw[hbo.2]at e4;exact⟨k.pages,by rw[<- h2,<- e4]; simp⟩
 .rw [if_neg h0]
  have h0':(layTo bs bs.length).page=[]:=by simpa using h0
  obtain⟨pre,body,e1,e2,e3,e4⟩:=h1.ex;rw[h0']at e1;have hbo:pre=[]/\body=[]:=by simpa using e1.symm
  rw[hbo.2]at e4;exact⟨h1.pages,by rw[<- h2,<- e4]; simp⟩
theorem more_pc:Pc prog 124 [] (· = .str AcG):=by
 have hr:=AeH [32] 20 (by simp) (by omega);have hbl:=blanks_len 20;refine zpIN func124 rfl fun h ρ w=>?_
 simp only[go_sem];refine zpN (hr) ?_;simp only[go_sem]
 repeat refine aqa ?_
 exact zt [0]
theorem A8V(b:Bl)(hl:b.name.length<1000000):Pc prog 125 [blA b] (· = .str (goesLn b)):=by
 have hr:=AeH [32] 20 (by simp) (by omega);have hbl:=blanks_len 20;simp only[blA];refine zpIN func125 rfl fun h ρ w=>?_
 simp only[go_sem];refine zr [.str (Lib.repeatL [32] 20)] mixed ?_;simp only[go_sem]
 repeat refine And.intro (by first|omega|exact hr.at|exact .inl trivial|rfl|(simp; done)|(simp; omega)) ?_
 refine zgN ?_;simp only[go_sem];exact zt [2]
theorem AvK(b:Bl)(fr k:Nat)(h1:1<=k)(hk:b.kind=3->k<=b.kinds.length)(hn:b.lines.length<=100000000)(hf:fr<=100000000)(hk2:k<=100000000):Pc prog 163 [blA b,.int .i64 (fr:Int),.int .i64 (k:Int)] (· = .bool (breaksL b fr k)):=by
 unfold breaksL;simp only[blA]
 cases k1:b.kind==1 with
 | true =>
  simp only[if_true]
  cases d1:decide ((k:Int)-fr>=2)with
  | true =>
   refine zpIN func163 rfl fun h ρ w=>?_
   simp only[go_sem];refine zr [] mixed ?_;simp only[go_sem,List.length_map]
   repeat refine aqa ?_
   refine zgN ?_;simp only[go_sem,k1,d1];exact zt [6]
  | false =>
   refine zpIN func163 rfl fun h ρ w=>?_
   simp only[go_sem];refine zr [] mixed ?_;simp only[go_sem,List.length_map]
   repeat refine aqa ?_
   refine zgN ?_;simp only[go_sem,k1,d1];exact zt [6]
 | false =>
  simp only[Bool.false_eq_true,if_false]
  cases k3:b.kind==3 with
  | false =>
   refine zpIN func163 rfl fun h ρ w=>?_
   simp only[go_sem];refine zr [] mixed ?_;simp only[go_sem,List.length_map]
   repeat refine aqa ?_
   refine zgN ?_;simp only[go_sem,k1,k3];exact zt [6]
  | true =>
   simp only[if_true];have hkk:=hk (by simpa using k3);have hi:((k:Int)-1).toNat=k-1:=by omega
   have hg:List.getD (b.kinds.map (AV.int .i64)) (k-1) .any=.int .i64 (b.kinds.getD (k-1) 0):=by
    have:k-1<b.kinds.length:=by omega
    simp[List.getD,this]
   have e1:(k:Int)-1=((k-1:Nat):Int):=by omega
   by_cases f0:fr=0
   .have d0:((fr:Int)==0)=true:=by simp[f0]
    simp only[f0,if_true,Int.natCast_zero];rw[f0]at d0
    cases q1:b.kinds.getD (k-1) 0==2 with
    | false =>
     refine zpIN func163 rfl fun h ρ w=>?_
     simp only[go_sem];refine zr [] mixed ?_;simp only[go_sem,List.length_map]
     repeat refine aqa ?_
     refine zgN ?_;simp only[go_sem,k1,k3,d0,hi,hg,q1,List.length_map]
     repeat refine aqa ?_
     exact zt [6]
    | true =>
     cases d1:decide ((k:Int)-0-1>=2)with
     | false =>
      refine zpIN func163 rfl fun h ρ w=>?_
      simp only[go_sem];refine zr [] mixed ?_;simp only[go_sem,List.length_map]
      repeat refine aqa ?_
      refine zgN ?_;simp only[go_sem,k1,k3,d0,hi,hg,q1,d1,List.length_map]
      repeat refine aqa ?_
      exact zt [6]
     | true =>
      refine zpIN func163 rfl fun h ρ w=>?_
      simp only[go_sem];refine zr [] mixed ?_;simp only[go_sem,List.length_map]
      repeat refine aqa ?_
      refine zgN ?_;simp only[go_sem,k1,k3,d0,hi,hg,q1,d1,List.length_map]
      repeat refine aqa ?_
      exact zt [6]
   .have d0:((fr:Int)==0)=false:=by rw[beq_eq_false_iff_ne]; omega
    simp only[f0,if_false,Int.sub_zero]
    cases q1:b.kinds.getD (k-1) 0==2 with
    | false =>
     refine zpIN func163 rfl fun h ρ w=>?_
     simp only[go_sem];refine zr [] mixed ?_;simp only[go_sem,List.length_map]
     repeat refine aqa ?_
     refine zgN ?_;simp only[go_sem,k1,k3,d0,hi,hg,q1,List.length_map]
     repeat refine aqa ?_
     exact zt [6]
    | true =>
     cases d1:decide ((k:Int)-fr>=2)with
     | false =>
      refine zpIN func163 rfl fun h ρ w=>?_
      simp only[go_sem];refine zr [] mixed ?_;simp only[go_sem,List.length_map]
      repeat refine aqa ?_
      refine zgN ?_;simp only[go_sem,k1,k3,d0,hi,hg,q1,d1,List.length_map]
      repeat refine aqa ?_
      exact zt [6]
     | true =>
      refine zpIN func163 rfl fun h ρ w=>?_
      simp only[go_sem];refine zr [] mixed ?_;simp only[go_sem,List.length_map]
      repeat refine aqa ?_
      refine zgN ?_;simp only[go_sem,k1,k3,d0,hi,hg,q1,d1,List.length_map]
      repeat refine aqa ?_
      exact zt [6]
theorem clone0_pc:Pc prog 63 [.fz 5 []] (· = .fz 5 []):=by
 refine zpIN func63 rfl fun h ρ w=>?_
 simp only[go_sem];intro b;refine zgN ?_
 cases b with
 | true =>
  simp only[go_sem];exact ARet.shift (Shift.nilfz 2 5 rfl) (aret [2] rfl ⟨rfl,rfl⟩)
 | false =>
  simp only[go_sem];refine⟨.inl trivial,?_⟩;exact ARet.shift (Shift.freeze 2 (id:=0) rfl rfl rfl (Nat.le_refl _) rfl) (aret [2] rfl ⟨rfl,rfl⟩)
theorem AsO(x:Sc)(xs:List Sc)(hl:xs.length<=100000) :
  Ct prog 63 [.fz 5 ((x::xs).map scA)] [] (fun r s=>r=.sl 0 0 (x::xs).length (x::xs).length/\s=[.arr 5 ((x::xs).map scA)]):=by
 refine zcIN func63 rfl fun h ρ w=>?_
 simp only[go_sem,scA];refine⟨by simp,by simp; omega,by simp; omega,aret [2] rfl ⟨by simp[resV,Av.get,scA],rfl⟩⟩
def nm(i:Nat)(x:Sc):Sc:={ x with no:=Lib.itoa ((i:Int)+1) }
def numL:Nat->List Sc->List Sc
 | _,[]=>[]
 | i,x::r=>nm i x::numL (i+1) r
def numR(x:Sr):Sr:=⟨x.title,numL 0 x.scenes⟩
theorem AvL{S:Std}(hS:LibOk S)(x:Sr)(hl:x.scenes.length<=1000):PcH prog S 23 [srA x] (· = srA (numR x)):=by
 obtain⟨ti,xs⟩:=x
 cases xs with
 | nil =>
  simp only[srA,List.map_nil,numR,numL];refine zqIN func23 rfl fun h ρ w hg=>?_
  simp only[go_sem];refine ApI [] 99 [.fz 5 []] mixed (by decide) rfl rfl 100 ?_;simp only[go_sem];refine⟨clone0_pc.at,rfl,?_⟩;refine zgN ?_;simp only[go_sem];refine AcL (around (zgN ?_));simp only[go_sem];exact AbG [.cell 2 28] rfl [_] ⟨by simp only[go_sem,sideIs],trivial⟩ ⟨rfl,rfl⟩
 | cons x xs =>
  simp only[srA];refine zqIN func23 rfl fun h ρ w hg=>?_
  simp only[go_sem];refine AWp.shift (Shift.reserve 5) ?_;refine ApI [4] 2 [] mixed (by decide) rfl rfl 100 ?_;simp only[go_sem];have hfro:(flat ((x::xs).map scA)).all Av.frozen=true:=AaD (x::xs);refine AuH (AsO x xs (by simp at hl |-; omega)) (by simp) (by simp) rfl hfro rfl ?_;simp only[go_sem];refine zgN ?_;simp only[go_sem];refine⟨by simp,?_⟩;have hys:AV.fz 5 (List.map scA (numR ⟨ti,x::xs⟩).scenes)=.fz 5 (List.map scA (numL 0 (x::xs))):=rfl;rw[hys];clear hys;have hl':xs.length+1<=1000:=by simpa using hl
  have hnum:∃ out,numL 0 (x::xs)=out:=⟨_,rfl⟩;obtain⟨out,hout⟩:=hnum;rw[hout];refine AaL (ι:=List Sc×List Sc) (fun y=>y.2.length)
   (fun y=>[(14,.int .i64 y.1.length),(13,.int .i64 ↑(xs.length+1)),(3,.ptr 3 1 0 0),(2,.ptr 1 1 0 0)])
   (fun y=>[.arr 2 [.agg [.str ti,.fz 5 (scA x::List.map scA xs)]],.arr 2 [.agg [.str [],.raw (.slice none 0 0)]],.arr 5 (List.map scA (y.1++y.2)),.arr 2 [.agg [.str ti,.sl 2 0 (xs.length+1) (xs.length+1)]]])
   (fun y=>y.1.length+y.2.length=xs.length+1/\y.1++numL y.1.length y.2=out) ([],x::xs) ⟨by simp,hout⟩ ?_ ?_
  .refine Shift.weak ?_
   simp only[go_sem]
  .rintro ⟨dn,rest⟩ ⟨g1,g2⟩ J hJ
   simp only at g1 g2 hJ |-
   cases rest with
   | cons y r =>
    have di:decide ((dn.length:Int)<((xs.length+1:Nat):Int))=true:=by simp at g1 |-; omega
    refine zgN ?_;simp only[go_sem,di];refine zr [.str (Lib.itoa ((dn.length:Int)+1))] mixed ?_;have hx:List.getD (List.map scA (dn++y::r)) dn.length .any=.agg [.str y.no,.int .i64 y.place,.str y.set,.int .i64 y.time,.fz 2 (y.paras.map paA)]:=by simp[List.getD,scA]
    simp only[go_sem,hx];refine⟨by omega,by omega,(AiD hS _ (by omega) (by omega)).at hg,rfl,by simp at g1 |-; omega,by omega,by simp at g1 |-; omega,by omega,by simp,?_⟩;have hset:(List.map scA (dn++y::r)).set dn.length (.agg [.str (Lib.itoa ((dn.length:Int)+1)),.int .i64 y.place,.str y.set,.int .i64 y.time,.fz 2 (y.paras.map paA)])=List.map scA ((dn++[nm dn.length y])++r):=by
     simp[nm,scA]
    rw[hset];refine zgN ?_;simp only[go_sem];refine⟨by omega,by omega,?_⟩;rw[show(dn.length:Int)+1=((dn++[nm dn.length y]).length:Int) by simp];refine ainv (hJ (dn++[nm dn.length y],r) ⟨by simp at g1 |-; omega,by rw[<- g2]; simp[numL]⟩ (by simp)) (Shift.weak ?_);simp only[go_sem]
   | nil =>
    have di:decide (((xs.length+1:Nat):Int)<((xs.length+1:Nat):Int))=false:=by simp
    simp only[List.append_nil,numL]at g2 |-;subst g2;have hn:dn.length=xs.length+1:=by simpa using g1
    refine AWp.shift (Shift.frz 2 rfl (AaD dn)) ?_;simp only[frzE,frz,frz1,frzC,frzB,List.map_cons,List.map_nil,List.set_cons_succ,List.set_cons_zero,Nat.reduceBEq,cond_true,cond_false,Bool.false_and,Bool.true_and,List.length_map,Nat.zero_add,hn,decide_true,Nat.le_refl,List.drop_zero];have:List.take (xs.length+1) (List.map scA dn)=List.map scA dn:=List.take_of_length_le (by simp; omega);simp only[this];refine zgN ?_;simp only[go_sem,di];exact AbG [.cell 2 28] rfl [_] ⟨by simp only[go_sem,sideIs,numR],trivial⟩ ⟨rfl,rfl⟩
def DIG:List UInt8:=[48,49,50,51,52,53,54,55,56,57]
def CAPS:List UInt8:=[65,66,67,68,69,70,71,72,73,74,75,76,77,78,79,80,81,82,83,84,85,86,87,88,89,90]
theorem A8W{S:Std}(hS:LibOk S):PcH prog S 65 [.str []] (· = .tup [.int .i64 0,.any]):=by
 refine⟨hB65,fun h w vs' hg hm hv=>?_⟩;have:=AxS [] h vs' hv;subst this;obtain⟨te,pe,t,z,hs⟩:=hS.syn;have hcell:w.cell? ⟨Tryz.laysC172_ren.g 15,0,none⟩=some (.iface te pe):=(Lib.cell_of_heap (hg _ _ hs) 0).trans rfl;refine(Any.strconv_Atoi_err Tryz.laysC172 ⟨#[]⟩ (by decide) rfl (.iface te pe) w hcell (.inr ⟨te,pe,rfl⟩)).mono ?_;rintro e w' ⟨N,rfl,_,_,hb⟩;have hs:Same w w':=AgF hb;exact⟨_,_,h,rfl,rfl,fun b o v e=>⟨hs.cell (hm b o v e).1,(hm b o v e).2⟩,fun _ _ _ x=>x,fun b o e n=>(n e).elim,hs,.tup [_,_] [_,_] (.cons (.int _ _) (.cons (.any _) .nil))⟩
theorem AiM(s:List UInt8)(hs:s.length<1000000)(h0:Lib.trimLeftS s DIG=[]):Pc prog 64 [.str s] (· = .tup [.str s,.str []]):=by
 refine zpIN func64 rfl fun h ρ w=>?_
 simp only[go_sem];refine zpN (AyD s DIG (by decide) (AmU (by decide))) ?_;rw[h0];have:List.take s.length s=s:=List.take_length;simp only[go_sem,this];refine⟨by omega,by omega,by omega,by omega,?_⟩;refine aret [2,3] rfl ⟨?_,rfl⟩
 simp[resV,Av.get]
theorem BjE(s:List UInt8)(a b:Int)(h1:a<=s.length)(h2:s.length<=b):Pc prog 132 [.str s,.int .i64 a,.int .i64 b] (· = .bool true):=by
 have d1:decide ((s.length:Int)>=a)=true:=by simpa using h1
 have d2:decide ((s.length:Int)<=b)=true:=by simpa using h2
 refine zpIN func132 rfl fun h ρ w=>?_
 simp only[go_sem,d1,d2];exact zt [6]
theorem BdS:Pc prog 133 [.str [],.str CAPS] (· = .bool true):=by
 refine zpIN func133 rfl fun h ρ w=>?_
 simp only[go_sem];refine zpN (BiS [] CAPS (by decide) (by decide) (AmU (by decide))) ?_;rw[show Lib.trimS [] CAPS=[] from rfl];simp only[go_sem];exact zt [4]
theorem AyO(s:List UInt8)(h0:Lib.trimLeftS s DIG=[])(h1:1<=s.length)(h2:s.length<=3)(h3:s.getD 0 0≠48):Pc prog 67 [.str s] (· = .bool true):=by
 have d3:(((s.getD 0 0).toNat:Int) != 48)=true:=by
  simp only[bne_iff_ne,ne_eq];intro e;exact h3 (UInt8.toNat_inj.1 (by simpa using(show(s.getD 0 0).toNat=48 by omega)))
 refine zpIN func67 rfl fun h ρ w=>?_
 simp only[go_sem];refine zpN (AiM s (by omega) h0) ?_;simp only[go_sem];refine zpN (BjE s 1 3 (by omega) (by omega)) ?_;simp only[go_sem];refine zpN (BdS) ?_;simp only[go_sem];refine zpN (AaF [] [65] (by simp)) ?_;rw[show Lib.hasSuffix [] [65]=false from rfl];simp only[go_sem,d3];refine⟨by omega,?_⟩;exact zt [2]
theorem A8X(s:List UInt8)(m:Int)(h0:Lib.trimLeftS s DIG=[])(h1:s.length<=18)(h2:Lib.atoi s=some m):Pc prog 32 [.str s,.str [57]] (· = .int .i64 (orI (cmpI m 9) 0)):=by
 refine zpIF func32 rfl fun h ρ w=>?_
 simp only[go_sem];refine zpF (AiM s (by omega) h0) ?_;simp only[go_sem];refine zpF (AiM [57] (by simp) rfl) ?_;simp only[go_sem];refine zpF (ArO s m h1 h2) ?_;simp only[go_sem];refine zpF (ArO [57] 9 (by simp) rfl) ?_;simp only[go_sem];refine zpF (ApK m 9) ?_;simp only[go_sem];refine zpF (AgX [] []) ?_;rw[show Lib.compareBytes [] []=0 from rfl];simp only[go_sem];refine zpF (BlD (cmpI m 9) 0) ?_;simp only[go_sem];exact zt [4]
def AcN(n:Nat):List UInt8:=if n=0 then[] else dig3 n
theorem AjR(j:Nat)(hj:j<5):Lib.trimLeftS (AcN j) DIG=[]/\(AcN j).length<=3/\(j≠0->Lib.atoi (AcN j)=some (j:Int)) /\
  Lib.trimLeftS (dig3 ((j:Int)+1)) DIG=[]/\(dig3 ((j:Int)+1)).length=1/\(dig3 ((j:Int)+1)).getD 0 0≠48/\Lib.atoi (dig3 ((j:Int)+1))=some ((j:Int)+1)/\(dig3 ((j:Int)+1)==[])=false/\AcN (j+1)=dig3 ((j:Int)+1):=by
 have:j=0\/j=1\/j=2\/j=3\/j=4:=by omega
 rcases this with rfl|rfl|rfl|rfl|rfl <;> exact⟨by decide,by decide,by decide,by decide,by decide,by decide,by decide,by decide,by decide⟩
theorem AsP{S:Std}(hS:LibOk S)(j:Nat)(hj:j<5)(b:List UInt8)(hb:b=[]\/b=[57]):PcH prog S 26 [.str (AcN j),.str b] (· = .tup [.str (AcN (j+1)),.bool true]):=by
 obtain⟨f1,f2,f3,f4,f5,f6,f7,f8,f9⟩:=AjR j hj;rw[f9];have hit:=AiD hS ((j:Int)+1) (by omega) (by omega);rw[AiE (by omega) (by omega)]at hit;have ho:=A8X (dig3 ((j:Int)+1)) ((j:Int)+1) f4 (by omega) f7;have hc:orI (cmpI ((j:Int)+1) 9) 0=-1:=by
  have:cmpI ((j:Int)+1) 9=-1:=by unfold cmpI; rw[if_pos (by omega)]
  rw[this]; rfl
 rw[hc]at ho;have hn:=AyO (dig3 ((j:Int)+1)) f4 (by omega) (by omega) f6;generalize dig3 ((j:Int)+1)=x at *;refine zqIN func26 rfl fun h ρ w hg=>?_
 simp only[go_sem];refine zpN (AiM (AcN j) (by omega) f1) ?_;simp only[go_sem]
 by_cases h0:j=0
 .subst h0
  refine zqN hg (A8W hS) ?_;simp only[go_sem];refine AcL (around (zgN ?_));simp only[go_sem];refine zqN hg (hit) ?_;simp only[go_sem];refine⟨.inl trivial,?_⟩;refine AcL (around (zgN ?_));simp only[go_sem];refine zpN (hn) ?_;simp only[go_sem]
  rcases hb with rfl|rfl
  .simp only [go_sem]
   exact zt [4,5]
  .simp only [go_sem]
   refine zpN (ho) ?_;simp only[go_sem];exact zt [4,5]
 .refine zpN (ArO (AcN j) j (by omega) (f3 h0)) ?_
  simp only[go_sem];refine AcL (around (zgN ?_));simp only[go_sem];refine⟨by omega,by omega,?_⟩;refine zqN hg (hit) ?_;simp only[go_sem];refine⟨.inl trivial,?_⟩;refine AcL (around (zgN ?_));simp only[go_sem];refine zpN (hn) ?_;simp only[go_sem]
  rcases hb with rfl|rfl
  .simp only [go_sem]
   exact zt [4,5]
  .simp only [go_sem]
   refine zpN (ho) ?_;simp only[go_sem];exact zt [4,5]
